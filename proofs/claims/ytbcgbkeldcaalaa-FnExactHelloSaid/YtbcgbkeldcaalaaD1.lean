/- Dots: helpers. -/
import Derived.Test.YtbcgbkeldcaalaaTy
import Derived.Outline
namespace Go.Proofs.Ytbcgbkeldcaalaa
set_option linter.unusedSimpArgs false
set_option linter.unusedVariables false
open Go.RowKit Go.Ow
attribute [local irreducible] wpQuiet
set_option maxRecDepth 100000
theorem toDot (r s : Int) (w : World) : Calls Try.prog 102 #[.agg #[.int .i64 r, .int .i64 s]] w fun e w' => e = .returned (.agg #[.int .i64 r, .int .i64 s]) ∧ Below w.heap.size w w' := by
  go_enter Try.func102, Try.ntmps102
  go_wp2
  exact bodyPost_ret (v := .agg #[.int .i64 r, .int .i64 s]) (by simp [results, Try.results102, go_sem, *]) rfl ⟨rfl, ((((Own.start w).alloc _).alloc _).alloc _).below⟩
theorem eqDot (r s r' s' : Int) (w : World) : Calls Try.prog 109 #[.agg #[.int .i64 r, .int .i64 s], .agg #[.int .i64 r', .int .i64 s']] w fun e w' => e = .returned (.bool (decide (r = r' ∧ s = s'))) ∧ Below w.heap.size w w' := by
  have he : decide (r = r' ∧ s = s') = (r == r' && s == s') := by simp [Bool.decide_and]; rfl
  rw [he]
  go_enter Try.func109, Try.ntmps109
  go_wp2
  all_goals
    go_ret
    exact ⟨by simp at *; first | omega | simp [*], (((Own.start w).alloc _).alloc _).below⟩
end Go.Proofs.Ytbcgbkeldcaalaa
