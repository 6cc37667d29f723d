/- Contexts: the law's own helpers and the two checks. -/
import Derived.Test.YtbcgbkeldcaalaaTy
import Derived.Outline
namespace Go.Proofs.Ytbcgbkeldcaalaa
set_option linter.unusedSimpArgs false
set_option linter.unusedVariables false
open Go.RowKit Go.Ow
attribute [local irreducible] wpQuiet

def szL (n : Nat) (left : Int) : Int := if wrap64 (left - n) < 0 then -1 else wrap64 (left - n)
theorem szRunS (xs : List Rn) (v : Value) (left : Int) (w : World) (hv : Rd w v xs) : Calls Try.prog 69 #[v, .int .i64 left] w fun e w' => e = .returned (.int .i64 (szL xs.length left)) ∧ Below w.heap.size w w' := by
  obtain ⟨A, c, rfl, hc, hl⟩ := hv.val
  go_enter Try.func69, Try.ntmps69
  go_wp2
  all_goals
    go_ret
    exact ⟨by simp only [szL]; split <;> first | rfl | omega, Below.refl _ _⟩
theorem szContext (xs : List Rn) (v : Value) (left : Int) (w : World) (hv : Rd w v xs) : Calls Try.prog 42 #[.agg #[v], .int .i64 left] w fun e w' => e = .returned (.int .i64 (szL xs.length left)) ∧ Below w.heap.size w w' := by
  obtain ⟨A, c, rfl, hc, hl⟩ := hv.val
  go_enter Try.func42, Try.ntmps42
  go_wp2_with (go_at_call 69; refine (szRunS xs _ left _ (hv.alloc _)).mono ?_; rintro e w1 ⟨rfl, hb⟩)
  all_goals
    go_ret
    exact ⟨by simp only [szL] at *; first | (simp; done) | (simp; omega), ((Below.refl _ _).alloc (Nat.le_refl _) _).trans (hb.mono (by simp))⟩
theorem toRun (x : Rn) (w : World) : Calls Try.prog 103 #[.agg #[.int .i64 x.r, .int .i64 x.f, .int .i64 x.t]] w fun e w' => e = .returned (.agg #[.int .i64 x.r, .int .i64 x.f, .int .i64 x.t]) ∧ Below w.heap.size w w' := by
  go_enter Try.func103, Try.ntmps103
  go_wp2
  exact bodyPost_ret (v := .agg #[.int .i64 x.r, .int .i64 x.f, .int .i64 x.t]) (by simp [results, Try.results103, go_sem, *]) rfl ⟨rfl, ((((Own.start w).alloc _).alloc _).alloc _).below⟩
theorem toRunS (xs : List Rn) (v : Value) (w : World) (hv : Rd w v xs) (hn : xs.length ≤ 1048576) : Calls Try.prog 76 #[v] w fun e w' => ∃ v', e = .returned v' ∧ Own w [.own v' xs] w' := by
  obtain ⟨A, c, rfl, hc, hl⟩ := hv.val
  have HS := Own.start w
  go_enter Try.func76, Try.ntmps76
  go_wp2_with (refine wp_make (α := Rn) rfl _ _ 33 rfl (by kernel_rfl) HS _ _ _ _ xs.length rfl rfl rfl rfl (by show 24 * _ ≤ _; omega) hl ?_; clear HS; intro w1 HS)
  go_loopw [4] (fun i wr => ∃ k : Nat, k ≤ xs.length ∧ i = .int .i64 k ∧ Own w [.own (.slice (some ⟨w.heap.size, 0, none⟩) xs.length xs.length) (xs.take k ++ List.replicate (xs.length - k) (⟨0, 0, 0⟩ : Rn))] wr) (fun i _ => xs.length - (intOf i).toNat)
  case atStart => exact ⟨0, by omega, rfl, by simpa using (show Own w [.own _ (List.replicate xs.length (⟨0, 0, 0⟩ : Rn))] w1 from HS)⟩
  case round =>
    obtain ⟨k, hk, rfl, HS'⟩ := hrel
    by_cases hlt : k < xs.length
    · obtain ⟨b, o, rfl⟩ := hv.fix (by omega)
      have r0 := Rn.rd (HS'.old hv) k hlt
      have hl2 : (xs.take k ++ List.replicate (xs.length - k) (⟨0, 0, 0⟩ : Rn)).length = xs.length := by simp; omega
      go_wp2_with (go_at_call 103; refine (toRun xs[k] _).mono ?_; rintro e w2 ⟨rfl, hb⟩; have HS2 := HS'.of_below hb; have hr := Rn.row HS2 k (by omega))
      go_roundw
      case rel => exact ⟨k + 1, by omega, by go_num, by rw [← fill_set xs _ k hlt]; exact Rn.put HS2 k (by omega) xs[k]⟩
      case measure => simp [intOf]; omega
    · go_wp2
      go_ret
      obtain rfl : k = xs.length := by omega
      exact ⟨_, rfl, by simpa using HS'⟩
theorem toContext (xs : List Rn) (v : Value) (w : World) (hv : Rd w v xs) (hn : xs.length ≤ 1048576) : Calls Try.prog 46 #[.agg #[v]] w fun e w' => ∃ v', e = .returned (.agg #[v']) ∧ Own w [.own v' xs] w' := by
  obtain ⟨A, c, rfl, hc, hl⟩ := hv.val
  have HS := (((Own.start w).alloc (.cells #[.slice A xs.length c] 25)).box (b := w.heap.size + 1) [.slice none 0 0] 35).box (b := w.heap.size + 1 + 1) [.slice none 0 0] 35
  go_enter Try.func46, Try.ntmps46
  go_wp2_with (go_at_call 76; refine (toRunS xs _ _ (by repeat (first | exact hv | refine Rd.alloc ?_ _)) hn).mono ?_; rintro e w1 ⟨v', rfl, hs⟩; obtain ⟨A', c', rfl, _, _⟩ := (hs.rd 0 rfl).val; have F := bcell hs.below)
  have H2 := (((((HS.call hs).pick 1 rfl).set 0 (.slice A' xs.length c')).drop.pick 1 rfl).set 0 (.slice A' xs.length c')).drop
  have F2 := (((HS.call hs).pick 1 rfl).set 0 (.slice A' xs.length c')).facts
  exact bodyPost_ret (v := .agg #[.slice A' xs.length c']) (by simp [results, Try.results46, go_sem, *]) rfl ⟨_, rfl, H2⟩
end Go.Proofs.Ytbcgbkeldcaalaa
