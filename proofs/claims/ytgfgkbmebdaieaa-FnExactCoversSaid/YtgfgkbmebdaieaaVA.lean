/- Covers: the reference's side. -/
import Derived.Test.YtgfgkbmebdaieaaV8
namespace Go.Proofs.Ytgfgkbmebdaieaa
set_option linter.unusedSimpArgs false
set_option linter.unusedVariables false
open Go.RowKit Go.Ow
attribute [local irreducible] wpQuiet
set_option maxRecDepth 100000
def inRun (y x : Rn) : Bool := decide (x.r = y.r) && (decide (x.f ≤ y.f) && decide (y.t ≤ x.t))
theorem within_any (xs : List Rn) (y : Rn) : within xs y = xs.any (inRun y) := rfl
set_option maxHeartbeats 4000000 in
theorem specCovers (xs ys : List Rn) (v u : Value) (w : World) (hv : Rd w v xs) (hu : Rd w u ys) :
    Calls Try.prog 22 #[.agg #[v], .agg #[u]] w fun e w' => e = .returned (.bool (covers xs ys)) ∧ Below w.heap.size w w' := by
  obtain ⟨A, c, rfl, _, hl⟩ := hv.val
  obtain ⟨B, d, rfl, _, hm⟩ := hu.val
  have HS := ((Own.start w).box [.slice A xs.length c] 33).box (b := w.heap.size + 1) [.slice B ys.length d] 33
  have HCV := Lib.hid (coversC xs ys)
  go_enter Try.func22, Try.ntmps22
  go_wp2
  go_loopw [5] (fun i wr => ∃ k : Nat, k ≤ ys.length ∧ i = .int .i64 k ∧ Own w [.box (w.heap.size + 1) 33 [.slice B ys.length d], .box w.heap.size 33 [.slice A xs.length c]] wr ∧ ys.all (within xs) = (ys.drop k).all (within xs)) (fun i _ => ys.length - (intOf i).toNat)
  case atStart => exact ⟨0, by omega, rfl, HS, rfl⟩
  case round =>
    obtain ⟨k, hk, rfl, HS', he⟩ := hrel
    have HE := Lib.hid he
    clear he HS
    have HS := HS'
    have F := HS.facts; simp only [Own.Facts, Own.Cells, World.size_alloc, List.cons_append, List.nil_append, List.eraseIdx_cons_succ, List.eraseIdx_cons_zero, List.eraseIdx_zero, List.tail_cons, Nat.zero_add] at F
    by_cases hlt : k < ys.length
    · obtain ⟨b, o, rfl⟩ := hu.fix (by omega)
      have HD := HE.out
      rw [List.drop_eq_getElem_cons hlt, List.all_cons, within_any] at HD
      have r0 := Rn.rd (HS'.old hu) k hlt
      obtain ⟨y, hy⟩ : ∃ y, ys[k] = y := ⟨_, rfl⟩
      rw [hy] at HD r0
      clear hy
      have HD := Lib.hid HD
      replace HS := HS.box (b := wr.heap.size) [.int .i64 y.r, .int .i64 y.f, .int .i64 y.t] 96
      go_wp2
      obtain ⟨bl, hbl⟩ : ∃ n, wr.heap.size = n := ⟨_, rfl⟩
      rw [hbl] at HS ⊢
      clear hbl F r0
      go_loopw [7, 8] (fun q i wi => ∃ (j : Nat) (on : Bool), j ≤ xs.length ∧ i = .int .i64 j ∧ q = .bool on ∧ Own w [.box bl 96 [.int .i64 y.r, .int .i64 y.f, .int .i64 y.t], .box (w.heap.size + 1) 33 [.slice (some ⟨b, o, none⟩) ys.length d], .box w.heap.size 33 [.slice A xs.length c]] wi ∧ xs.any (inRun y) = (on || (xs.drop j).any (inRun y))) (fun _ i _ => xs.length - (intOf i).toNat)
      case atStart => exact ⟨0, false, by omega, rfl, rfl, HS, rfl⟩
      case round =>
        obtain ⟨j, on, hj, rfl, rfl, HI, ha⟩ := hrel
        have HA := Lib.hid ha
        clear ha HS HS'
        have HS := HI
        have F := HS.facts; simp only [Own.Facts, Own.Cells, World.size_alloc, List.cons_append, List.nil_append, List.eraseIdx_cons_succ, List.eraseIdx_cons_zero, List.eraseIdx_zero, List.tail_cons, Nat.zero_add] at F
        by_cases hjl : j < xs.length
        · obtain ⟨b0, o0, rfl⟩ := hv.fix (by omega)
          have HX := HA.out
          rw [List.drop_eq_getElem_cons hjl, List.any_cons] at HX
          have hF := fun p : Ext wr => Rn.rd ((HI.of_below p.h).old hv) j hjl
          obtain ⟨x, hx⟩ : ∃ x, xs[j] = x := ⟨_, rfl⟩
          rw [hx] at HX
          simp only [hx] at hF
          clear hx
          have hG : ∀ p : Ext wr, p.to.cell? ⟨w.heap.size, 0, none⟩ = some (.slice (some ⟨b0, o0, none⟩) xs.length c) ∧ p.to.cell? ⟨bl, 0, none⟩ = some (.int .i64 y.r) ∧ p.to.cell? ⟨bl, 1, none⟩ = some (.int .i64 y.f) ∧ p.to.cell? ⟨bl, 2, none⟩ = some (.int .i64 y.t) := fun p => by
            have F := (HI.of_below p.h).facts
            simp only [Own.Facts, Own.Cells, Nat.zero_add] at F
            exact ⟨F.2.2.1.1.1, F.1.1.1, F.1.1.2.1, F.1.1.2.2.1⟩
          cases on
          · by_cases e1 : x.r = y.r
            · have e1b : (x.r == y.r) = true := by simpa using e1
              by_cases e2 : x.f ≤ y.f
              · by_cases e3 : y.t ≤ x.t
                · have HX := Lib.hid (show xs.any (inRun y) = (true || (xs.drop (j + 1)).any (inRun y)) by rw [HX]; simp [inRun, e1, e2, e3])
                  clear e1
                  go_wp2
                  (refine wp_region_ext (by kernel_rfl) (by kernel_rfl) ?_; (repeat (quiet_step (first | fail))); refine wpQuiet_nil ?_; rintro _ ⟨⟨w1, hw1⟩, rfl⟩)
                  have H2 := HI.of_below hw1
                  clear hF hG
                  go_wp2
                  go_roundw
                  case rel => exact ⟨j + 1, true, by omega, by go_num, rfl, H2, HX.out⟩
                  case measure => simp [intOf]; omega
                · have HX := Lib.hid (show xs.any (inRun y) = (false || (xs.drop (j + 1)).any (inRun y)) by rw [HX]; simp [inRun, e3])
                  have e3b : decide (y.t ≤ x.t) = false := by simpa using e3
                  clear e1 e3
                  go_wp2
                  (refine wp_region_ext (by kernel_rfl) (by kernel_rfl) ?_; (repeat (quiet_step (first | fail))); refine wpQuiet_nil ?_; rintro _ ⟨⟨w1, hw1⟩, rfl⟩)
                  have H2 := HI.of_below hw1
                  clear hF hG
                  go_wp2
                  go_roundw
                  case rel => exact ⟨j + 1, false, by omega, by go_num, rfl, H2, HX.out⟩
                  case measure => simp [intOf]; omega
              · have HX := Lib.hid (show xs.any (inRun y) = (false || (xs.drop (j + 1)).any (inRun y)) by rw [HX]; simp [inRun, e2])
                have e2b : decide (x.f ≤ y.f) = false := by simpa using e2
                clear e1 e2
                go_wp2
                (refine wp_region_ext (by kernel_rfl) (by kernel_rfl) ?_; (repeat (quiet_step (first | fail))); refine wpQuiet_nil ?_; rintro _ ⟨⟨w1, hw1⟩, rfl⟩)
                have H2 := HI.of_below hw1
                clear hF hG
                go_wp2
                go_roundw
                case rel => exact ⟨j + 1, false, by omega, by go_num, rfl, H2, HX.out⟩
                case measure => simp [intOf]; omega
            · have HX := Lib.hid (show xs.any (inRun y) = (false || (xs.drop (j + 1)).any (inRun y)) by rw [HX]; simp [inRun, e1])
              have e1b : (x.r == y.r) = false := by simpa using e1
              clear e1
              go_wp2
              (refine wp_region_ext (by kernel_rfl) (by kernel_rfl) ?_; (repeat (quiet_step (first | fail))); refine wpQuiet_nil ?_; rintro _ ⟨⟨w1, hw1⟩, rfl⟩)
              have H2 := HI.of_below hw1
              clear hF hG
              go_wp2
              go_roundw
              case rel => exact ⟨j + 1, false, by omega, by go_num, rfl, H2, HX.out⟩
              case measure => simp [intOf]; omega
          · have HX := Lib.hid (show xs.any (inRun y) = (true || (xs.drop (j + 1)).any (inRun y)) by rw [HX]; simp)
            go_wp2
            (refine wp_region_ext (by kernel_rfl) (by kernel_rfl) ?_; (repeat (quiet_step (first | fail))); refine wpQuiet_nil ?_; rintro _ ⟨⟨w1, hw1⟩, rfl⟩)
            have H2 := HI.of_below hw1
            clear hF hG
            go_wp2
            go_roundw
            case rel => exact ⟨j + 1, true, by omega, by go_num, rfl, H2, HX.out⟩
            case measure => simp [intOf]; omega
        · have HX := HA.out
          rw [show xs.drop j = [] from List.drop_eq_nil_of_le (by omega), List.any_nil, Bool.or_false] at HX
          cases on
          · have HQ := Lib.hid (show covers xs ys = false by rw [HCV.out, HD.out, HX]; rfl)
            go_wp2
            go_ret
            exact ⟨by rw [HQ.out]; rfl, HI.below⟩
          · have HQ := Lib.hid (show ys.all (within xs) = (ys.drop (k + 1)).all (within xs) by rw [HD.out, HX]; rfl)
            go_wp2
            go_roundw
            case rel => exact ⟨k + 1, by omega, by go_num, HI.drop, HQ.out⟩
            case measure => simp [intOf]; omega
    · have HQ := HE.out
      rw [show ys.drop k = [] from List.drop_eq_nil_of_le (by omega), List.all_nil] at HQ
      cases hx : ctxOk xs
      · have HQ := Lib.hid (show covers xs ys = false by rw [HCV.out, hx]; simp)
        go_wp2_with fail
        refine (specCtxOk xs _ _ (HS.old hv)).mono ?_; rintro e w1 ⟨rfl, hb⟩; (first | have H' := HS.of_below hb | have H' := HS.drew.of_below hb | have H' := (HS.box0 [_] _).of_below hb | have H' := ((HS.box0 [_] _).box0 [_] _).of_below hb | have H' := (HS.alloc _).of_below hb | have H' := ((HS.alloc _).alloc _).of_below hb); clear HS; have HS := H'; clear H'; have F := HS.facts; simp only [Own.Facts, Own.Cells, World.size_alloc, List.cons_append, List.nil_append, List.eraseIdx_cons_succ, List.eraseIdx_cons_zero, List.eraseIdx_zero, List.tail_cons, Nat.zero_add] at F
        rw [hx]
        clear hx
        go_wp2
        go_ret
        exact ⟨by rw [HQ.out]; rfl, HS.below⟩
      · have HQ := Lib.hid (show covers xs ys = ctxOk ys by rw [HCV.out, hx, HQ]; simp)
        go_wp2_with fail
        refine (specCtxOk xs _ _ (HS.old hv)).mono ?_; rintro e w1 ⟨rfl, hb⟩; (first | have H' := HS.of_below hb | have H' := HS.drew.of_below hb | have H' := (HS.box0 [_] _).of_below hb | have H' := ((HS.box0 [_] _).box0 [_] _).of_below hb | have H' := (HS.alloc _).of_below hb | have H' := ((HS.alloc _).alloc _).of_below hb); clear HS; have HS := H'; clear H'; have F := HS.facts; simp only [Own.Facts, Own.Cells, World.size_alloc, List.cons_append, List.nil_append, List.eraseIdx_cons_succ, List.eraseIdx_cons_zero, List.eraseIdx_zero, List.tail_cons, Nat.zero_add] at F
        rw [hx]
        clear hx
        go_wp2_with fail
        refine (specCtxOk ys _ _ (HS.old hu)).mono ?_; rintro e w2 ⟨rfl, hb⟩; (first | have H' := HS.of_below hb | have H' := HS.drew.of_below hb | have H' := (HS.box0 [_] _).of_below hb | have H' := ((HS.box0 [_] _).box0 [_] _).of_below hb | have H' := (HS.alloc _).of_below hb | have H' := ((HS.alloc _).alloc _).of_below hb); clear HS; have HS := H'; clear H'; have F := HS.facts; simp only [Own.Facts, Own.Cells, World.size_alloc, List.cons_append, List.nil_append, List.eraseIdx_cons_succ, List.eraseIdx_cons_zero, List.eraseIdx_zero, List.tail_cons, Nat.zero_add] at F
        go_wp2
        go_ret
        exact ⟨by rw [HQ.out]; rfl, HS.below⟩
end Go.Proofs.Ytgfgkbmebdaieaa
