/- Frames: what the law and both sides compute. -/
import Derived.Test.YtbcgbkeldcaalaaB2
import Derived.Test.YtbcgbkeldcaalaaP0
import Derived.Test.YtbcgbkeldcaalaaK1
import Derived.Test.YtbcgbkeldcaalaaC1
namespace Go.Proofs.Ytbcgbkeldcaalaa
set_option linter.unusedSimpArgs false
set_option linter.unusedVariables false
open Go.RowKit Go.Ow
attribute [local irreducible] wpQuiet
set_option maxRecDepth 100000

theorem eqFrame (k k' : Int) (xs ys : List UInt8) (v u : Value) (w : World) (hv : Rd w v xs) (hu : Rd w u ys) : Calls Try.prog 24 #[.agg #[.int .i64 k, v], .agg #[.int .i64 k', u]] w fun e w' => e = .returned (.bool (decide (k = k' ∧ xs = ys))) ∧ Below w.heap.size w w' := by
  obtain ⟨A, c, rfl, hc, hl⟩ := hv.val
  obtain ⟨B, d, rfl, hd, hm⟩ := hu.val
  by_cases hk : k = k'
  · cases h1 : decide (xs = ys)
    all_goals
      go_enter Try.func24, Try.ntmps24
      go_wp2_with (go_at_call 17; refine (eqByteS xs ys _ _ _ ((hv.alloc _).alloc _) ((hu.alloc _).alloc _)).mono ?_; rintro e w1 ⟨rfl, hb⟩)
      go_ret
      exact ⟨by simp at h1; simp [hk, h1], (((Own.start w).alloc _).alloc _ |>.of_below hb).below⟩
  · go_enter Try.func24, Try.ntmps24
    go_wp2
    go_ret
    exact ⟨by simp [hk], (((Own.start w).alloc _).alloc _).below⟩
theorem markFrame {W : World} {R : List Ds} (k0 : Int) (xs : List UInt8) (v : Value) (k : Nat) (w : World) (HS : Own W (.own v xs :: R) w) (hk : k ≤ 4611686018427387904) : Calls Try.prog 26 #[.agg #[.int .i64 k0, v], .int .i64 k] w fun e w' => e = .returned (.int .i64 ((k + xs.length : Nat) : Int)) ∧ Own W (.own v (bmarks xs.length k) :: R) w' := by
  obtain ⟨A, c, rfl, hc, hl⟩ := (HS.rd 0 rfl).val
  go_enter Try.func26, Try.ntmps26
  go_wp2_with fail
  refine (markByteS xs _ k _ (HS.alloc _) hk).mono ?_
  rintro e w1 ⟨rfl, H1⟩
  go_wp2
  go_ret
  exact ⟨rfl, H1⟩
end Go.Proofs.Ytbcgbkeldcaalaa
