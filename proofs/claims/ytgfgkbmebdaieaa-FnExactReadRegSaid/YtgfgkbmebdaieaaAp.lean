/- The append, its outcome under a name of its own. -/
import Derived.Test.YtgfgkbmebdaieaaHp
import Derived.Test.YtgfgkbmebdaieaaHl
namespace Go.Ow
set_option linter.unusedSimpArgs false
set_option linter.unusedVariables false
open Go.RowKit
section
variable {P : Program} {ops : Array Oper} {rest : List Oper} {o : Oper} {a : Act} {K : Act → World → Prop} {Q : Exit → Act → World → Prop} {E : Prop} {w W : World} {R : List Ds}
theorem app_named {α : Type} [Cd α] [Ty α] {v : Value} {xs ys : List α} (h : Own W (.own v (xs ++ ys) :: R) w) :
    ∃ q, Hid (q = xs ++ ys) ∧ q.length ≤ xs.length + ys.length ∧ Own W (.own v q :: R) w :=
  ⟨_, Lib.hid rfl, by rw [List.length_append]; omega, h⟩
theorem wp_app2 {α : Type} [Fl α] [Ty α] [El P α] (hgd : o.guard = none) (s x : Operand) (t : TypeId) (ho : o.op = .call { callee := .builtin .append, args := #[s, x], argTypes := #[t, t] })
    (ht : P.underlying t = some (.slice (Ty.id α))) (v : Value) (xs : List α) (HS : Own W (.own v xs :: R) w) (hs : a.eval s = v) (vy : Value) (ys : List α) (hx : a.eval x = vy) (hy : Rd w vy ys)
    (hlen : (xs.length + ys.length) * El.bytes P α ≤ 140737488355328) (hl2 : xs.length + ys.length ≤ 140737488355328)
    (h : ∀ (v' : Value) (q : List α) w', Hid (q = xs ++ ys) → q.length ≤ xs.length + ys.length → Own W (.own v' q :: R) w' → wpList P ops Q rest (a.put o.dst v') w') : wpList P ops Q (o :: rest) a w :=
  wp_app hgd s x t ho ht v xs HS hs vy ys hx hy hlen hl2 (fun v' w' hv => by
    obtain ⟨q, h1, h2, h3⟩ := app_named hv
    exact h v' q w' h1 h2 h3)
theorem hp_app2 {α : Type} [Fl α] [Ty α] [El P α] (s x : Operand) (t : TypeId) (ho : o.op = .call { callee := .builtin .append, args := #[s, x], argTypes := #[t, t] }) (hw : Region.wanted o (yielded ops a.tmps) = true)
    (ht : P.underlying t = some (.slice (Ty.id α))) (v : Value) (xs : List α) (HS : Own W (.own v xs :: R) w) (hs : a.eval s = v) (vy : Value) (ys : List α) (hx : a.eval x = vy) (hy : Rd w vy ys)
    (hlen : (xs.length + ys.length) * El.bytes P α ≤ 140737488355328) (hl2 : xs.length + ys.length ≤ 140737488355328)
    (h : ∀ (v' : Value) (q : List α) w', Hid (q = xs ++ ys) → q.length ≤ xs.length + ys.length → Own W (.own v' q :: R) w' → K (a.put o.dst v') w') : if Region.wanted o (yielded ops a.tmps) = true then Oper.wp P o a w K Q else E :=
  hp_app s x t ho hw ht v xs HS hs vy ys hx hy hlen hl2 (fun v' w' hv => by
    obtain ⟨q, h1, h2, h3⟩ := app_named hv
    exact h v' q w' h1 h2 h3)
end
end Go.Ow
