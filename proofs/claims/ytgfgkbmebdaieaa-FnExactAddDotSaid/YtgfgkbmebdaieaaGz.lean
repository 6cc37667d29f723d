/- append of zero values to the nil slice, at an operation; a slice cut to nothing. -/
import Derived.Test.YtgfgkbmebdaieaaHl
import Derived.Lib.AppendZerosOnto
namespace Go.Ow
set_option linter.unusedSimpArgs false
set_option linter.unusedVariables false
open Go.RowKit
attribute [local irreducible] wpQuiet
section
variable {α : Type} [Fl α] [Ty α] {P : Program} [ElZ P α] {W w : World} {R : List Ds} {ops : Array Oper} {rest : List Oper} {o : Oper} {a : Act} {Q : Exit → Act → World → Prop}
theorem wp_growz (hgd : o.guard = none) (s x : Operand) (t tn : TypeId) (ho : o.op = .call { callee := .builtin .append, args := #[s, x], argTypes := #[t, tn] }) (ht : P.underlying t = some (.slice (Ty.id α))) (htn : P.underlying tn = some (.int .i64))
    (HS : Own W R w) (hs : a.eval s = .slice none 0 0) (k : Nat) (hx : a.eval x = .int .i64 k) (h0 : 0 < k) (hk : k ≤ 4194304) (hb : El.bytes P α ≤ 1000)
    (h : ∀ (w' : World) (cap : Nat), k ≤ cap → Own W (.own (.slice (some ⟨w.heap.size, 0, none⟩) 0 cap) ([] : List α) :: R) w' → wpList P ops Q rest (a.put o.dst (.slice (some ⟨w.heap.size, 0, none⟩) k cap)) w') : wpList P ops Q (o :: rest) a w := by
  obtain ⟨i, z, hi, hz, h1, h2, h3⟩ := ElZ.infoz (P := P) (α := α)
  have hzs : z.cells.size = Cd.z α := by rw [← Array.length_toList, h3, fl_len]
  have hbk : k * i.bytes ≤ 281474976710656 := by rw [h2]; exact Nat.le_trans (Nat.mul_le_mul hk hb) (by decide)
  have hfit : Builtin.nextslicecap (0 + k) 0 * i.bytes ≤ 281474976710656 := by
    have : Builtin.nextslicecap (0 + k) 0 = k := by unfold Builtin.nextslicecap; rw [if_pos (by omega)]; omega
    rw [this]; exact hbk
  have hrun := fun ty => Lib.run_append_grow_zeros (P := P) w t tn ty (Ty.id α) i z .i64 .i64 ht htn hi hz none 0 0 [] (by rw [show i.size = i.size from rfl]; exact run_firstCells_none w.drew i.size 0 0 0) k h0 (by rw [h1]; exact Cd.zpos) (by omega) (by omega) hbk hfit
  have hge := grownCap_ge w (0 + k) 0 (Ty.id α)
  have hle := grownCap_le_maxLen w (0 + k) 0 (Ty.id α) (by simp only [maxLen]; omega)
  simp only [Nat.zero_add] at hrun hge hle
  refine wpList_plain hgd fun _ hK => ?_
  unfold Oper.wp
  simp [execOp, ho, resolve, invoke, builtin, hs, hx, hrun, Result.andThen]
  refine hK _ _ (h _ (grownCap w k 0 (Ty.id α)) hge ?_)
  refine Own.call (Rn := [.own (.slice (some ⟨w.heap.size, 0, none⟩) 0 (grownCap w k 0 (Ty.id α))) ([] : List α)]) HS ⟨((Below.refl _ _).drew).alloc (Nat.le_refl _) _, [w.heap.size], ⟨[w.heap.size], [], rfl, .inr ⟨w.heap.size, _, _, [], [], rfl, by rw [show w.heap.size = w.drew.heap.size from rfl]; exact (MapKept.heap_alloc w.drew _).1, Nat.zero_le _, hle, Nat.zero_le _, ?_, rfl, rfl, by simp, fun i x cs f hx => by simp at hx, rfl⟩, rfl⟩, by simp, by simp⟩
  simp only [Array.size_append, List.size_toArray, List.length_nil, size_zeroCells, hzs]
  first | rw [Nat.zero_add, ← Nat.add_mul] | rw [← Nat.add_mul]
  congr 1
  omega
end
end Go.Ow
