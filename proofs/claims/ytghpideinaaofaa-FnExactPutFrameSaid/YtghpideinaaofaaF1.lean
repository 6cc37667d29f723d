/- Frames: what the law and both sides compute. -/
import Derived.Test.YtghpideinaaofaaB2
import Derived.Test.YtghpideinaaofaaK1
import Derived.Test.YtghpideinaaofaaC1
namespace Go.Proofs.Ytghpideinaaofaa
open Go.RowKit Go.Ow
attribute [local irreducible] wpQuiet
set_option maxRecDepth 100000

theorem szByteS (xs : List UInt8) (v : Value) (left : Int) (w : World) (hv : Rd w v xs) : Calls Try.prog 113 #[v, .int .i64 left] w fun e w' => e = .returned (.int .i64 (szL xs.length left)) ∧ Below w.heap.size w w' := by
  obtain ⟨A, c, rfl, hc, hl⟩ := hv.val
  go_enter Try.func113, Try.ntmps113
  go_wp2
  all_goals
    go_ret
    exact ⟨by simp only [szL]; split <;> first | rfl | omega, Below.refl _ _⟩
theorem putInt {W : World} {R : List Ds} (xs : List UInt8) (n : Nat) (v : Value) (w : World) (HS : Own W (.own v xs :: R) w) (hn : n ≤ 140737488351232) (hx : xs.length ≤ 140737488351232) :
    Calls Try.prog 115 #[v, .int .i64 n] w fun e w' => ∃ v', e = .returned v' ∧ Own W (.own v' (xs ++ uv n) :: R) w' := by
  obtain ⟨A, c, rfl, _, _⟩ := (HS.rd 0 rfl).val
  have hl := uv_len10 n (by omega)
  go_enter Try.func115, Try.ntmps115
  go_wp2_with fail
  refine (implPutUvarint n w (by omega)).mono ?_
  rintro e w1 ⟨v', rfl, hs⟩
  have H1 := (HS.call hs).pick 1 rfl
  go_wp2_with (refine wp_app (α := UInt8) rfl _ _ 23 rfl (by kernel_rfl) _ _ H1 rfl _ _ rfl (H1.rd 1 rfl) (by show (_ + _) * 1 ≤ _; omega) (by omega) ?_; clear H1; intro v2 w2 H1)
  obtain ⟨A2, c2, rfl, _, _⟩ := (H1.rd 0 rfl).val
  go_ret
  exact ⟨_, rfl, (H1.pick 1 rfl).drop⟩
theorem l2Put (n : Nat) (w : World) (hn : n ≤ 140737488351232) : Calls Try.prog 114 #[.int .i64 n] w fun e w' => ∃ v', e = .returned v' ∧ Own w [.own v' (uv n)] w' := by
  go_enter Try.func114, Try.ntmps114
  go_wp2_with fail
  refine (specPutUvarint n w (by omega)).mono ?_
  rintro e w1 ⟨v', rfl, hs⟩
  obtain ⟨A2, c2, rfl, _, _⟩ := (hs.rd 0 rfl).val
  go_wp2
  go_ret
  exact ⟨_, rfl, hs⟩

theorem szFrame (k : Int) (xs : List UInt8) (v : Value) (left : Int) (w : World) (hv : Rd w v xs) : Calls Try.prog 43 #[.agg #[.int .i64 k, v], .int .i64 left] w fun e w' => e = .returned (.int .i64 (szL xs.length left)) ∧ Below w.heap.size w w' := by
  obtain ⟨A, c, rfl, hc, hl⟩ := hv.val
  go_enter Try.func43, Try.ntmps43
  go_wp2_with (go_at_call 113; refine (szByteS xs _ left _ (hv.alloc _)).mono ?_; rintro e w1 ⟨rfl, hb⟩)
  all_goals
    go_ret
    exact ⟨by simp only [szL] at *; first | (simp; done) | (simp; omega), ((Below.refl _ _).alloc (Nat.le_refl _) _).trans (hb.mono (by simp))⟩
theorem toFrame (k : Int) (xs : List UInt8) (v : Value) (w : World) (hv : Rd w v xs) : Calls Try.prog 45 #[.agg #[.int .i64 k, v]] w fun e w' => ∃ v', e = .returned (.agg #[.int .i64 k, v']) ∧ Own w [.own v' xs] w' := by
  obtain ⟨A, c, rfl, hc, hl⟩ := hv.val
  have HS := (((Own.start w).alloc (.cells #[.int .i64 k, .slice A xs.length c] 48)).box (b := w.heap.size + 1) [.int .i64 0, .slice none 0 0] 52).box (b := w.heap.size + 1 + 1) [.int .i64 k, .slice none 0 0] 52
  go_enter Try.func45, Try.ntmps45
  go_wp2_with (go_at_call 27; refine (toByteS xs _ _ (by repeat (first | exact hv | refine Rd.alloc ?_ _))).mono ?_; rintro e w1 ⟨v', rfl, hs⟩; obtain ⟨A', c', rfl, _, _⟩ := (hs.rd 0 rfl).val; have F := bcell hs.below)
  have H1 := ((HS.call hs).pick 1 rfl).set 1 (.slice A' xs.length c')
  have H2 := ((H1.drop.pick 1 rfl).set 0 (.int .i64 k)).set 1 (.slice A' xs.length c')
  have F2 := H1.facts
  exact bodyPost_ret (v := .agg #[.int .i64 k, .slice A' xs.length c']) (by simp [results, Try.results45, go_sem, *]) rfl ⟨_, rfl, H2.drop⟩
theorem eqFrame (k k' : Int) (xs ys : List UInt8) (v u : Value) (w : World) (hv : Rd w v xs) (hu : Rd w u ys) : Calls Try.prog 47 #[.agg #[.int .i64 k, v], .agg #[.int .i64 k', u]] w fun e w' => e = .returned (.bool (decide (k = k' ∧ xs = ys))) ∧ Below w.heap.size w w' := by
  obtain ⟨A, c, rfl, hc, hl⟩ := hv.val
  obtain ⟨B, d, rfl, hd, hm⟩ := hu.val
  by_cases hk : k = k'
  · cases h1 : decide (xs = ys)
    all_goals
      go_enter Try.func47, Try.ntmps47
      go_wp2_with (go_at_call 29; refine (eqByteS xs ys _ _ _ ((hv.alloc _).alloc _) ((hu.alloc _).alloc _)).mono ?_; rintro e w1 ⟨rfl, hb⟩)
      go_ret
      exact ⟨by simp at h1; simp [hk, h1], (((Own.start w).alloc _).alloc _ |>.of_below hb).below⟩
  · go_enter Try.func47, Try.ntmps47
    go_wp2
    go_ret
    exact ⟨by simp [hk], (((Own.start w).alloc _).alloc _).below⟩
theorem markFrame {W : World} {R : List Ds} (k0 : Int) (xs : List UInt8) (v : Value) (k : Nat) (w : World) (HS : Own W (.own v xs :: R) w) (hk : k ≤ 4611686018427387904) : Calls Try.prog 48 #[.agg #[.int .i64 k0, v], .int .i64 k] w fun e w' => e = .returned (.int .i64 ((k + xs.length : Nat) : Int)) ∧ Own W (.own v (bmarks xs.length k) :: R) w' := by
  obtain ⟨A, c, rfl, hc, hl⟩ := (HS.rd 0 rfl).val
  go_enter Try.func48, Try.ntmps48
  go_wp2_with fail
  refine (markByteS xs _ k _ (HS.alloc _) hk).mono ?_
  rintro e w1 ⟨rfl, H1⟩
  go_wp2
  go_ret
  exact ⟨rfl, H1⟩
end Go.Proofs.Ytghpideinaaofaa
