/- ReadFlag: the reference's side. -/
import Derived.Test.YtgfgkbmebdaieaaJ5
import Derived.Test.YtgfgkbmebdaieaaQ1
namespace Go.Proofs.Ytgfgkbmebdaieaa
set_option linter.unusedSimpArgs false
set_option linter.unusedVariables false
open Go.RowKit Go.Ow
attribute [local irreducible] wpQuiet
set_option maxRecDepth 100000
theorem specReadFlag (s : St) (p : List ByteArray) (vl vc vP : Value) (w : World) (h1 : Rd w vl s.l) (h2 : Rd w vc s.c) (hP : Rd w vP p) (hw : ∀ y ∈ s.l, LfW y) (hwp : ∀ x ∈ p, x.size ≤ 140737488351232) :
    Calls Try.prog 17 #[.agg #[vl, vc], vP] w fun e w' => e = .returned (.bool (readFlag s p)) ∧ Below w.heap.size w w' := by
  obtain ⟨A, c, rfl, _, hl⟩ := h1.val
  obtain ⟨A2, d2, rfl, _, hl2⟩ := h2.val
  obtain ⟨A3, d3, rfl, _, hl3⟩ := hP.val
  have HW := Lib.hid hw
  have HWP := Lib.hid hwp
  clear hw hwp
  have HS := ((Own.start w).box [.slice A s.l.length c, .slice A2 s.c.length d2] 35)
  go_enter Try.func17, Try.ntmps17
  go_wp2
  go_loopw [5, 6] (fun q i wr => ∃ (k : Nat) (on : Bool), k ≤ s.l.length ∧ i = .int .i64 k ∧ q = .bool on ∧ Own w [.box w.heap.size 35 [.slice A s.l.length c, .slice A2 s.c.length d2]] wr ∧ s.l.any (isFlag p) = (on || (s.l.drop k).any (isFlag p))) (fun _ i _ => s.l.length - (intOf i).toNat)
  case atStart => exact ⟨0, false, by omega, rfl, rfl, HS, rfl⟩
  case round =>
    obtain ⟨k, on, hk, rfl, rfl, HS', hok⟩ := hrel
    have HOK := Lib.hid hok
    clear hok HS
    have HS := HS'
    have F := HS.facts; simp only [Own.Facts, Own.Cells, World.size_alloc, List.cons_append, List.nil_append, List.eraseIdx_cons_succ, List.eraseIdx_cons_zero, List.eraseIdx_zero, List.tail_cons, Nat.zero_add] at F
    by_cases hlt : k < s.l.length
    · obtain ⟨b, o, rfl⟩ := h1.fix (by omega)
      obtain ⟨vp, hx⟩ := Lf.rd (HS'.old h1) k hlt
      obtain ⟨hp, c0, c1, c2, c3, c4⟩ := hx wr (Below.refl _ _)
      clear hx
      have HQ := HOK.out
      rw [List.drop_eq_getElem_cons hlt, List.any_cons] at HQ
      obtain ⟨x, hxx⟩ : ∃ x, s.l[k] = x := ⟨_, rfl⟩
      rw [hxx] at hp c1 c2 c3 c4 HQ
      clear hxx
      cases on
      · obtain ⟨xp, xf, xr, xs, xv⟩ := x
        simp only at hp c1 c2 c3 c4
        cases xf
        · have HQ := Lib.hid (show s.l.any (isFlag p) = (false || (s.l.drop (k + 1)).any (isFlag p)) by rw [HQ]; rfl)
          go_wp2
          go_roundw
          case rel => exact ⟨k + 1, false, by omega, by go_num, rfl, HS', HQ.out⟩
          case measure => simp [intOf]; omega
        · by_cases he : cmpP xp p = 0
          · have HQ := Lib.hid (show s.l.any (isFlag p) = (true || (s.l.drop (k + 1)).any (isFlag p)) by rw [HQ]; simp [isFlag, (cmpP_eq xp p).1 he])
            go_wp2_with fail
            refine (l3Cmp xp p _ _ _ hp (HS.old hP)).mono ?_; rintro e w1 ⟨rfl, hb⟩; (first | have H' := HS.of_below hb | have H' := HS.drew.of_below hb | have H' := (HS.box0 [_] _).of_below hb | have H' := ((HS.box0 [_] _).box0 [_] _).of_below hb | have H' := (HS.alloc _).of_below hb | have H' := ((HS.alloc _).alloc _).of_below hb); clear HS; have HS := H'; clear H'; have F := HS.facts; simp only [Own.Facts, Own.Cells, World.size_alloc, List.cons_append, List.nil_append, List.eraseIdx_cons_succ, List.eraseIdx_cons_zero, List.eraseIdx_zero, List.tail_cons, Nat.zero_add] at F
            rw [he]
            clear he
            go_wp2
            go_roundw
            case rel => exact ⟨k + 1, true, by omega, by go_num, rfl, HS, HQ.out⟩
            case measure => simp [intOf]; omega
          · have HQ := Lib.hid (show s.l.any (isFlag p) = (false || (s.l.drop (k + 1)).any (isFlag p)) by
              rw [HQ]
              have : isFlag p ⟨xp, true, xr, xs, xv⟩ = false := by
                unfold isFlag
                rw [decide_eq_false (fun h => he ((cmpP_eq xp p).2 h))]; rfl
              rw [this, Bool.false_or])
            have heb : (cmpP xp p == 0) = false := by simpa using he
            clear he
            go_wp2_with fail
            refine (l3Cmp xp p _ _ _ hp (HS.old hP)).mono ?_; rintro e w1 ⟨rfl, hb⟩; (first | have H' := HS.of_below hb | have H' := HS.drew.of_below hb | have H' := (HS.box0 [_] _).of_below hb | have H' := ((HS.box0 [_] _).box0 [_] _).of_below hb | have H' := (HS.alloc _).of_below hb | have H' := ((HS.alloc _).alloc _).of_below hb); clear HS; have HS := H'; clear H'; have F := HS.facts; simp only [Own.Facts, Own.Cells, World.size_alloc, List.cons_append, List.nil_append, List.eraseIdx_cons_succ, List.eraseIdx_cons_zero, List.eraseIdx_zero, List.tail_cons, Nat.zero_add] at F
            go_wp2
            go_roundw
            case rel => exact ⟨k + 1, false, by omega, by go_num, rfl, HS, HQ.out⟩
            case measure => simp [intOf]; omega
      · have HQ := Lib.hid (show s.l.any (isFlag p) = (true || (s.l.drop (k + 1)).any (isFlag p)) by rw [HQ]; simp)
        go_wp2
        go_roundw
        case rel => exact ⟨k + 1, true, by omega, by go_num, rfl, HS', HQ.out⟩
        case measure => simp [intOf]; omega
    · have HQ := HOK.out
      rw [show s.l.drop k = [] from List.drop_eq_nil_of_le (by omega)] at HQ
      cases on
      · have HQ := Lib.hid (show readFlag s p = false by unfold readFlag; rw [HQ]; simp)
        go_wp2
        go_ret
        exact ⟨by rw [HQ.out]; rfl, HS.below⟩
      · cases hs : stOk s
        · have HQ := Lib.hid (show readFlag s p = false by unfold readFlag; rw [hs]; rfl)
          go_wp2_with fail
          refine (specStateOk s _ _ _ (HS.old h1) (HS.old h2) HW.out).mono ?_; rintro e w1 ⟨rfl, hb⟩; (first | have H' := HS.of_below hb | have H' := HS.drew.of_below hb | have H' := (HS.box0 [_] _).of_below hb | have H' := ((HS.box0 [_] _).box0 [_] _).of_below hb | have H' := (HS.alloc _).of_below hb | have H' := ((HS.alloc _).alloc _).of_below hb); clear HS; have HS := H'; clear H'; have F := HS.facts; simp only [Own.Facts, Own.Cells, World.size_alloc, List.cons_append, List.nil_append, List.eraseIdx_cons_succ, List.eraseIdx_cons_zero, List.eraseIdx_zero, List.tail_cons, Nat.zero_add] at F
          rw [hs]
          clear hs
          go_wp2
          go_ret
          exact ⟨by rw [HQ.out]; rfl, HS.below⟩
        · have HQ := Lib.hid (show readFlag s p = pathOk p by unfold readFlag; rw [hs, HQ]; simp)
          go_wp2_with fail
          refine (specStateOk s _ _ _ (HS.old h1) (HS.old h2) HW.out).mono ?_; rintro e w1 ⟨rfl, hb⟩; (first | have H' := HS.of_below hb | have H' := HS.drew.of_below hb | have H' := (HS.box0 [_] _).of_below hb | have H' := ((HS.box0 [_] _).box0 [_] _).of_below hb | have H' := (HS.alloc _).of_below hb | have H' := ((HS.alloc _).alloc _).of_below hb); clear HS; have HS := H'; clear H'; have F := HS.facts; simp only [Own.Facts, Own.Cells, World.size_alloc, List.cons_append, List.nil_append, List.eraseIdx_cons_succ, List.eraseIdx_cons_zero, List.eraseIdx_zero, List.tail_cons, Nat.zero_add] at F
          rw [hs]
          clear hs
          go_wp2_with fail
          refine (l3PathOk p _ _ (HS.old hP) HWP.out).mono ?_; rintro e w2 ⟨rfl, hb⟩; (first | have H' := HS.of_below hb | have H' := HS.drew.of_below hb | have H' := (HS.box0 [_] _).of_below hb | have H' := ((HS.box0 [_] _).box0 [_] _).of_below hb | have H' := (HS.alloc _).of_below hb | have H' := ((HS.alloc _).alloc _).of_below hb); clear HS; have HS := H'; clear H'; have F := HS.facts; simp only [Own.Facts, Own.Cells, World.size_alloc, List.cons_append, List.nil_append, List.eraseIdx_cons_succ, List.eraseIdx_cons_zero, List.eraseIdx_zero, List.tail_cons, Nat.zero_add] at F
          go_wp2
          go_ret
          exact ⟨by rw [HQ.out]; rfl, HS.below⟩
end Go.Proofs.Ytgfgkbmebdaieaa
