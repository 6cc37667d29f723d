/- Copies of states: the program's. -/
import Derived.Test.YtkafflbakgkpcaaGreatT1
/-FR-/
namespace Go.Proofs.YtkafflbakgkpcaaGreat
set_option linter.unusedSimpArgs false
set_option linter.unusedVariables false
open Go.RowKit Go.Ow
attribute [local irreducible] wpQuiet
set_option maxRecDepth 100000
theorem th_box2 {W w : World} {R : List Ds} {t : TypeId} {v u : Value} {K : Act → World → Prop} {Q : Exit → Act → World → Prop} {e : Exit} {a : Act} (HS : Own W R w) (h : ∀ w', Own W (.box w.heap.size t [v, u] :: R) w' → Exit.then K Q e a w') : Exit.then K Q e a (w.alloc (.cells #[v, u] t)) := h _ (HS.box [v, u] t)
theorem th_set2 {W w : World} {R : List Ds} {t b : Nat} {u1 u2 v1 v2 : Value} {K : Act → World → Prop} {Q : Exit → Act → World → Prop} {e : Exit} {a : Act} (i : Nat) (HS : Own W R w) (hi : R[i]? = some (.box b t [u1, u2])) (h : ∀ w', Own W (.box b t [v1, v2] :: R.eraseIdx i) w' → Exit.then K Q e a w') : Exit.then K Q e a ((w.setCell ⟨b, 0, none⟩ v1).setCell ⟨b, 1, none⟩ v2) := h _ (((HS.pick i hi).set 0 v1).set 1 v2)
theorem own_tail {W w : World} {r : Ds} {R : List Ds} {k t : Nat} {vs : List Value} (h : Own W (r :: .box k t vs :: R) w) : ∃ b RX, k = b ∧ Hid (.box b t vs :: R = RX) ∧ Own W (r :: RX) w := ⟨k, _, rfl, Lib.hid rfl, h⟩
theorem own_mid {W w : World} {r b : Ds} {X Y : List Ds} (h : Own W (r :: (X ++ b :: Y)) w) : Own W (b :: r :: (X ++ Y)) w := h.perm (List.perm_middle (l₁ := r :: X))
theorem own_in {W w : World} {r b : Ds} {X Y : List Ds} (h : Own W (r :: b :: (X ++ Y)) w) : Own W (r :: ((X ++ [b]) ++ Y)) w := h.perm (List.Perm.cons _ (by rw [List.append_assoc]; exact List.perm_middle.symm))
theorem own_fin {W w : World} {r a b : Ds} {X Y : List Ds} (h : Own W (r :: a :: b :: (X ++ Y)) w) : Own W (r :: ((X ++ [a]) ++ b :: Y)) w := h.perm (List.Perm.cons _ (by
  have h1 : a :: b :: (X ++ Y) = ([a, b] ++ X) ++ Y := rfl
  have h2 : (X ++ [a]) ++ b :: Y = (X ++ [a, b]) ++ Y := by simp
  rw [h1, h2]
  exact List.Perm.append_right Y List.perm_append_comm))
end Go.Proofs.YtkafflbakgkpcaaGreat
