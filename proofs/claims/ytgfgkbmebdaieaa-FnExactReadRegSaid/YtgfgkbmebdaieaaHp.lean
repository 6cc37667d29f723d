/- The append of bytes onto an owned row, at one operation of a region that draws its order. -/
import Derived.Test.YtgfgkbmebdaieaaPu
namespace Go.Ow
set_option linter.unusedSimpArgs false
set_option linter.unusedVariables false
open Go.RowKit
section
variable {P : Program} {ops : Array Oper} {o : Oper} {a : Act} {K : Act → World → Prop} {Q : Exit → Act → World → Prop} {E : Prop} {w W : World} {R : List Ds}
theorem op_app {α : Type} [Fl α] [Ty α] [El P α] (s x : Operand) (t : TypeId) (ho : o.op = .call { callee := .builtin .append, args := #[s, x], argTypes := #[t, t] })
    (ht : P.underlying t = some (.slice (Ty.id α))) (v : Value) (xs : List α) (HS : Own W (.own v xs :: R) w) (hs : a.eval s = v) (vy : Value) (ys : List α) (hx : a.eval x = vy) (hy : Rd w vy ys)
    (hlen : (xs.length + ys.length) * El.bytes P α ≤ 140737488355328) (hl2 : xs.length + ys.length ≤ 140737488355328)
    (h : ∀ v' w', Own W (.own v' (xs ++ ys) :: R) w' → K (a.put o.dst v') w') : Oper.wp P o a w K Q := by
  obtain ⟨i, z, hi, hz, h1, h2, h3⟩ := El.info (P := P) (α := α)
  obtain ⟨_, fp, ⟨f, g, hfp, hr, hR⟩, hn, hlow⟩ := id HS
  obtain ⟨hrow, hbig, hf⟩ := Dp.flat (base := 0) hr (fun _ _ => Nat.zero_le _)
  obtain ⟨A, c, rfl, hy1, hy2, hy3, hA, hy4⟩ := hy
  cases A with
  | none =>
    obtain rfl := hA rfl
    obtain rfl : ys = [] := List.eq_nil_of_length_eq_zero (by omega)
    have hrun := run_append_owned_none (P := P) (w := w) 0 t o.type (Ty.id α) i (Cd.z α) ht hi v xs.length _ hrow
    have := h v w (by rw [List.append_nil]; exact HS)
    unfold Oper.wp
    simp [execOp, ho, resolve, invoke, builtin, hs, hx, hrun, Result.andThen]
    exact this
  | some ad =>
    have hnews : ∀ j u, (ys.map Fl.fl).flatten[j]? = some u → w.cell? (ad.add j) = some u := by
      cases ys with
      | nil => intro j u hu; simp at hu
      | cons y ys =>
        obtain ⟨b, o0, _, hab, _, _⟩ := hy4 0 (by simp)
        obtain rfl := Option.some.inj hab
        refine news_of (fun k hk => ?_)
        obtain ⟨b', o', cs, hab', hr', hc'⟩ := hy4 k hk
        obtain ⟨rfl, rfl⟩ : b = b' ∧ o0 = o' := by simpa using hab'
        exact ⟨cs, hr', hc'⟩
    obtain ⟨v', w', hrun, h4, h5, _, h7⟩ := run_append_own_at (P := P) w 0 t o.type (Ty.id α) i z (Cd.z α) (El.bytes P α) ht hi hz h1 h2 h3 Cd.zpos v xs.length _ hrow ad ys.length c _ (len_flat ys) hnews (one_flat ys) (by simp only [maxLen] at *; omega) hlen (Nat.zero_le _)
    unfold Oper.wp execOp
    simp only [ho, resolve, invoke, builtin, Sem.run_bind, Sem.run_pure, Result.andThen_ok, List.map_toArray, List.map_cons, List.map_nil, hs, hx, hrun]
    refine h v' w' (HS.grow (by rw [List.length_append, List.map_append, List.flatten_append]; exact h4) (by rw [List.length_append]; exact hl2) h5 ?_)
    intro k hk
    rcases h7 with h7 | h7
    · exact .inl (h7 ▸ hk)
    · rw [h7] at hk; simp at hk; exact .inr (by omega)
theorem hp_app {α : Type} [Fl α] [Ty α] [El P α] (s x : Operand) (t : TypeId) (ho : o.op = .call { callee := .builtin .append, args := #[s, x], argTypes := #[t, t] }) (hw : Region.wanted o (yielded ops a.tmps) = true)
    (ht : P.underlying t = some (.slice (Ty.id α))) (v : Value) (xs : List α) (HS : Own W (.own v xs :: R) w) (hs : a.eval s = v) (vy : Value) (ys : List α) (hx : a.eval x = vy) (hy : Rd w vy ys)
    (hlen : (xs.length + ys.length) * El.bytes P α ≤ 140737488355328) (hl2 : xs.length + ys.length ≤ 140737488355328)
    (h : ∀ v' w', Own W (.own v' (xs ++ ys) :: R) w' → K (a.put o.dst v') w') : if Region.wanted o (yielded ops a.tmps) = true then Oper.wp P o a w K Q else E := by
  rw [if_pos hw]
  exact op_app s x t ho ht v xs HS hs vy ys hx hy hlen hl2 h
end
end Go.Ow
