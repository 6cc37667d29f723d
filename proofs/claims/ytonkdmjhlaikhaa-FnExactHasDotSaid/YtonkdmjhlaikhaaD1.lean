/- Dots: helpers. -/
import Derived.Test.YtonkdmjhlaikhaaTy
import Derived.Outline
namespace Go.Proofs.Ytonkdmjhlaikhaa
open Go.RowKit Go.Ow
attribute [local irreducible] wpQuiet
set_option maxRecDepth 100000
theorem toDot (r s : Int) (w : World) : Calls Try.prog 14 #[.agg #[.int .i64 r, .int .i64 s]] w fun e w' => e = .returned (.agg #[.int .i64 r, .int .i64 s]) ∧ Below w.heap.size w w' := by
  go_enter Try.func14, Try.ntmps14
  go_wp2
  exact bodyPost_ret (v := .agg #[.int .i64 r, .int .i64 s]) (by simp [results, Try.results14, go_sem, *]) rfl ⟨rfl, ((((Own.start w).alloc _).alloc _).alloc _).below⟩
theorem eqDot (r s r' s' : Int) (w : World) : Calls Try.prog 113 #[.agg #[.int .i64 r, .int .i64 s], .agg #[.int .i64 r', .int .i64 s']] w fun e w' => e = .returned (.bool (decide (r = r' ∧ s = s'))) ∧ Below w.heap.size w w' := by
  have he : decide (r = r' ∧ s = s') = (r == r' && s == s') := by simp [Bool.decide_and]; rfl
  rw [he]
  go_enter Try.func113, Try.ntmps113
  go_wp2
  all_goals
    go_ret
    exact ⟨by simp at *; first | omega | simp [*], (((Own.start w).alloc _).alloc _).below⟩
end Go.Proofs.Ytonkdmjhlaikhaa
