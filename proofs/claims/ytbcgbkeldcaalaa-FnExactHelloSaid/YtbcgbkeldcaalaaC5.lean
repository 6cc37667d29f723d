/- Contexts: marks. -/
import Derived.Test.YtbcgbkeldcaalaaC1
namespace Go.Proofs.Ytbcgbkeldcaalaa
set_option linter.unusedSimpArgs false
set_option linter.unusedVariables false
open Go.RowKit Go.Ow
attribute [local irreducible] wpQuiet
set_option maxRecDepth 100000
def rmark (k i : Nat) : Rn := ⟨((k + 3 * i : Nat) : Int), ((k + 3 * i + 1 : Nat) : Int), ((k + 3 * i + 2 : Nat) : Int)⟩
/-- The runs marked k, k + 1, .. -/
def rmarks (n k : Nat) : List Rn := (List.range n).map (rmark k)
theorem rmarks_len (n k : Nat) : (rmarks n k).length = n := by simp [rmarks]
theorem rmarks_at (n k i : Nat) (h : i < n) : (rmarks n k)[i]'(by simp [rmarks, h]) = rmark k i := by simp [rmarks]
theorem rmarks_set (xs : List Rn) (k i : Nat) (h : i < xs.length) : (rmarks i k ++ xs.drop i).set i (rmark k i) = rmarks (i + 1) k ++ xs.drop (i + 1) := by
  rw [List.set_append_right _ _ (by simp [rmarks])]
  rw [rmarks_len, Nat.sub_self, List.drop_eq_getElem_cons h, List.set_cons_zero]
  simp [rmarks, List.range_succ]
theorem markRunS {W : World} {R : List Ds} (xs : List Rn) (v : Value) (k : Nat) (w : World) (HS : Own W (.own v xs :: R) w) (hk : k ≤ 4611686018427387904) : Calls Try.prog 85 #[v, .int .i64 k] w fun e w' => e = .returned (.int .i64 ((k + 3 * xs.length : Nat) : Int)) ∧ Own W (.own v (rmarks xs.length k) :: R) w' := by
  have hv := HS.rd 0 rfl
  obtain ⟨A, c, rfl, hc, hl⟩ := hv.val
  go_enter Try.func85, Try.ntmps85
  go_wp2
  go_loopw [1, 5] (fun kk i wr => ∃ j : Nat, j ≤ xs.length ∧ i = .int .i64 j ∧ kk = .int .i64 ((k + 3 * j : Nat) : Int) ∧ Own W (.own (.slice A xs.length c) (rmarks j k ++ xs.drop j) :: R) wr) (fun _ i _ => xs.length - (intOf i).toNat)
  case atStart => exact ⟨0, by omega, rfl, rfl, by simpa [rmarks] using HS⟩
  case round =>
    obtain ⟨j, hj, rfl, rfl, HS'⟩ := hrel
    by_cases hlt : j < xs.length
    · have hl2 : (rmarks j k ++ xs.drop j).length = xs.length := by simp [rmarks_len]; omega
      obtain ⟨g, rfl⟩ := HS'.fix (by omega)
      obtain ⟨r0, hfr⟩ := Rn.row HS' j (by omega)
      generalize hu : ((rmarks j k ++ xs.drop j)[j]'(by omega)) = u at r0
      have HP := Rn.put HS' j (by omega) (rmark k j)
      rw [rmarks_set xs k j hlt] at HP
      simp only [rmark] at HP
      clear hu hl2
      go_wp2
      go_roundw
      case rel => exact ⟨j + 1, by omega, by go_num, by go_num, HP⟩
      case measure => simp [intOf]; omega
    · go_wp2
      go_ret
      obtain rfl : j = xs.length := by omega
      exact ⟨by go_num, by simpa using HS'⟩
theorem markContext {W : World} {R : List Ds} (xs : List Rn) (v : Value) (k : Nat) (w : World) (HS : Own W (.own v xs :: R) w) (hk : k ≤ 4611686018427387904) : Calls Try.prog 53 #[.agg #[v], .int .i64 k] w fun e w' => e = .returned (.int .i64 ((k + 3 * xs.length : Nat) : Int)) ∧ Own W (.own v (rmarks xs.length k) :: R) w' := by
  obtain ⟨A, c, rfl, hc, hl⟩ := (HS.rd 0 rfl).val
  go_enter Try.func53, Try.ntmps53
  go_wp2_with fail
  refine (markRunS xs _ k _ (HS.alloc _) hk).mono ?_
  rintro e w1 ⟨rfl, H1⟩
  go_wp2
  go_ret
  exact ⟨rfl, H1⟩
end Go.Proofs.Ytbcgbkeldcaalaa
