/- Contexts: the program's check, equality of runs. -/
import Derived.Test.YtonkdmjhlaikhaaDoorC1
import Derived.Test.YtonkdmjhlaikhaaDoorS1
namespace Go.Proofs.YtonkdmjhlaikhaaDoor
set_option linter.unusedSimpArgs false
set_option linter.unusedVariables false
open Go.RowKit Go.Ow
attribute [local irreducible] wpQuiet
theorem eqRun (x y : Rn) (w : World) : Calls Tryd.prog 63 #[.agg #[.int .i64 x.r, .int .i64 x.f, .int .i64 x.t], .agg #[.int .i64 y.r, .int .i64 y.f, .int .i64 y.t]] w fun e w' => e = .returned (.bool (decide (x = y))) ∧ Below w.heap.size w w' := by
  have he : decide (x = y) = (x.r == y.r && (x.f == y.f && x.t == y.t)) := by cases x; cases y; simp [Bool.decide_and]; rfl
  rw [he]
  go_enter Tryd.func63, Tryd.ntmps63
  go_wp2
  all_goals
    go_ret
    exact ⟨by simp at *; first | omega | simp [*], (((Own.start w).alloc _).alloc _).below⟩
end Go.Proofs.YtonkdmjhlaikhaaDoor
