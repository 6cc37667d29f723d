/- StateOk: the reference's side. -/
import Derived.Test.YtkafflbakgkpcaaGreatJm
import Derived.Test.YtkafflbakgkpcaaGreatJ3
import Derived.Test.YtkafflbakgkpcaaGreatM5
/-FD-/
namespace Go.Proofs.YtkafflbakgkpcaaGreat
set_option linter.unusedSimpArgs false
set_option linter.unusedVariables false
open Go.RowKit Go.Ow
attribute [local irreducible] wpQuiet
set_option maxRecDepth 100000
set_option maxHeartbeats 4000000 in
theorem specStateOk (s : St) (vl vc : Value) (w : World) (h1 : Rd w vl s.l) (h2 : Rd w vc s.c) (hw : ∀ y ∈ s.l, LfW y) :
    Calls Tryz.prog 23 #[.agg #[vl, vc]] w fun e w' => e = .returned (.bool (stOk s)) ∧ Below w.heap.size w w' := by
  obtain ⟨A, c, rfl, _, hl⟩ := h1.val
  obtain ⟨A2, d2, rfl, _, hl2⟩ := h2.val
  have HW := Lib.hid hw
  clear hw
  have HS := (Own.start w).box [.slice A s.l.length c, .slice A2 s.c.length d2] 36
  cases hx : ctxOk s.c
  · have HQ := Lib.hid (stOk_ctx hx)
    go_enter Tryz.func23, Tryz.ntmps23
    go_wp2_with fail
    refine (specCtxOk _ _ _ (HS.old h2)).mono ?_; rintro e w1 ⟨rfl, hb⟩; (first | have H' := HS.of_below hb | have H' := HS.drew.of_below hb | have H' := (HS.box0 [_] _).of_below hb | have H' := ((HS.box0 [_] _).box0 [_] _).of_below hb | have H' := (HS.alloc _).of_below hb | have H' := ((HS.alloc _).alloc _).of_below hb); clear HS; have HS := H'; clear H'; have F := HS.facts; simp only [Own.Facts, Ds.map, Ds.dots, Own.Cells, World.size_alloc, List.cons_append, List.nil_append, List.eraseIdx_cons_succ, List.eraseIdx_cons_zero, List.eraseIdx_zero, List.tail_cons, Nat.zero_add] at F
    rw [hx]
    go_wp2
    go_ret
    exact ⟨by rw [HQ.out]; rfl, HS.below⟩
  · by_cases hn : s.l.length ≤ 1000
    · have HX := Lib.hid hx
      have HN := Lib.hid hn
      go_enter Tryz.func23, Tryz.ntmps23
      go_wp2_with fail
      refine (specCtxOk _ _ _ (HS.old h2)).mono ?_; rintro e w1 ⟨rfl, hb⟩; (first | have H' := HS.of_below hb | have H' := HS.drew.of_below hb | have H' := (HS.box0 [_] _).of_below hb | have H' := ((HS.box0 [_] _).box0 [_] _).of_below hb | have H' := (HS.alloc _).of_below hb | have H' := ((HS.alloc _).alloc _).of_below hb); clear HS; have HS := H'; clear H'; have F := HS.facts; simp only [Own.Facts, Ds.map, Ds.dots, Own.Cells, World.size_alloc, List.cons_append, List.nil_append, List.eraseIdx_cons_succ, List.eraseIdx_cons_zero, List.eraseIdx_zero, List.tail_cons, Nat.zero_add] at F
      rw [hx]
      clear hx
      go_wp2
      go_loopw [3] (fun i wr => ∃ k : Nat, k ≤ s.l.length ∧ i = .int .i64 k ∧ Own w [.box w.heap.size 36 [.slice A s.l.length c, .slice A2 s.c.length d2]] wr ∧ ∀ j, j < k → okAt s.c s.l j = true) (fun i _ => s.l.length - (intOf i).toNat)
      case atStart => exact ⟨0, by omega, rfl, HS, fun _ h => by omega⟩
      case round =>
        obtain ⟨k, hk, rfl, HS', ha⟩ := hrel
        have HA := Lib.hid ha
        clear ha HS
        have F := HS'.facts
        simp only [Own.Facts, Ds.map, Ds.dots, Own.Cells, Nat.zero_add] at F
        by_cases hlt : k < s.l.length
        · obtain ⟨b, o, rfl⟩ := h1.fix (by omega)
          obtain ⟨vp, hcx⟩ := Lf.rd h1 k hlt
          have HC := Lib.hid hcx
          have hwx := HW.out _ (List.getElem_mem hlt)
          have hb1 := st_bad1 hlt
          have hb3 := st_bad3 hlt
          have hgd := st_good hlt HA.out
          have hds := dots_succ hlt
          have hprev : ∀ m, k = m + 1 → ∃ (y : Lf) (vq : Value), (∀ w', Below w.heap.size w w' → Rd w' vq y.p ∧ w'.cell? ⟨b, o + m * 5, none⟩ = some vq ∧ w'.cell? ⟨b, o + m * 5 + 1, none⟩ = some (.bool y.fl) ∧ w'.cell? ⟨b, o + m * 5 + 2, none⟩ = some (.int .i64 y.dr) ∧ w'.cell? ⟨b, o + m * 5 + 3, none⟩ = some (.int .i64 y.ds) ∧ w'.cell? ⟨b, o + m * 5 + 4, none⟩ = some (.string y.v)) ∧
              dotIn y ∧ (before y s.l[k] = false → stOk s = false) ∧ (before y s.l[k] = true → (hp : 0 < k) → before (s.l[k - 1]'(by omega)) s.l[k] = true) := by
            rintro m rfl
            obtain ⟨vq, hcy⟩ := Lf.rd h1 m (by omega)
            exact ⟨_, vq, hcy, okLeaf_dot HX.out (okAt_is (by omega) (HA.out m (by omega))), st_bad2 hlt, fun h _ => h⟩
          obtain ⟨x, hxx⟩ : ∃ x, s.l[k] = x := ⟨_, rfl⟩
          rw [hxx] at HC hwx hb1 hb3 hds
          simp only [hxx] at hgd hprev
          clear hcx hxx
          obtain ⟨xp, xf, xr, xs, xv⟩ := x
          have c0 := HC.out wr HS'.below
          simp only at c0 hb1 hb3 hds hgd hprev
          obtain ⟨hrp, c0, c1, c2, c3, c4⟩ := c0
          obtain ⟨Ap, cp, rfl, _, _⟩ := hrp.val
          have HB := HS'.box (b := wr.heap.size) [.slice Ap xp.length cp, .bool xf, .int .i64 xr, .int .i64 xs, .string xv] 57
          have HB1 := Lib.hid hb1
          have HB3 := Lib.hid hb3
          have HGD := Lib.hid hgd
          have HDS := Lib.hid hds
          have HPV := Lib.hid hprev
          have HWX := Lib.hid hwx
          clear hb1 hb3 hgd hds hprev hwx
          have HS := HB
          have F := HS.facts; simp only [Own.Facts, Ds.map, Ds.dots, Own.Cells, World.size_alloc, List.cons_append, List.nil_append, List.eraseIdx_cons_succ, List.eraseIdx_cons_zero, List.eraseIdx_zero, List.tail_cons, Nat.zero_add] at F
          go_wp2_with fail
          refine (l3PathOk _ _ _ (hrp.alloc _) HWX.out.1).mono ?_; rintro e w4 ⟨rfl, hb⟩; (first | have H' := HS.of_below hb | have H' := HS.drew.of_below hb | have H' := (HS.box0 [_] _).of_below hb | have H' := ((HS.box0 [_] _).box0 [_] _).of_below hb | have H' := (HS.alloc _).of_below hb | have H' := ((HS.alloc _).alloc _).of_below hb); clear HS; have HS := H'; clear H'; have F := HS.facts; simp only [Own.Facts, Ds.map, Ds.dots, Own.Cells, World.size_alloc, List.cons_append, List.nil_append, List.eraseIdx_cons_succ, List.eraseIdx_cons_zero, List.eraseIdx_zero, List.tail_cons, Nat.zero_add] at F
          cases hp : pathOk xp
          · have HQ := Lib.hid (HB1.out (by simp [okLeaf, hp]))
            clear hp
            go_wp2
            go_ret
            exact ⟨by rw [HQ.out]; rfl, HS.below⟩
          · by_cases hv : xv.size ≤ 200
            · have hxs := HWX.out.2.2
              simp only at hxs
              have hOL : ∀ q : Bool, hasB s.c xr xs = q → (xf = true → xv.size = 0) → okLeaf s.c ⟨xp, xf, xr, xs, xv⟩ = q := by
                rintro q rfl hz
                cases xf
                · simp [okLeaf, hp, hv]
                · simp [okLeaf, hp, hv, hz rfl]
              have HOL := Lib.hid hOL
              clear hOL
              by_cases hz : xf = true ∧ xv.size ≠ 0
              · obtain ⟨rfl, hz⟩ := hz
                have HQ := Lib.hid (HB1.out (by simp [okLeaf, hz]))
                have hE : xv.toList.isEmpty = false := by
                  cases hh : xv.toList.isEmpty
                  · rfl
                  · exfalso
                    apply hz
                    rw [List.isEmpty_iff] at hh
                    have := congrArg List.length hh
                    simpa [ByteArray.toList_eq] using this
                clear hp
                go_wp2
                go_ret
                exact ⟨by rw [HQ.out]; rfl, HS.below⟩
              · have hE : xf = true → xv.toList.isEmpty = true := by
                  intro hf
                  have : xv.size = 0 := by
                    by_cases h : xv.size = 0
                    · exact h
                    · exact absurd ⟨hf, h⟩ hz
                  rw [List.isEmpty_iff, ByteArray.toList_eq]
                  exact List.eq_nil_of_length_eq_zero (by simpa using this)
                have HZ := Lib.hid (show xf = true → xv.size = 0 from fun hf => by
                  by_cases h : xv.size = 0
                  · exact h
                  · exact absurd ⟨hf, h⟩ hz)
                clear hz hp
                cases xf
                · first | (have hE2 := hE rfl; clear hE) | clear hE
                  go_wp2_with fail
                  refine (l2Has s.c xr xs _ _ (HS.old h2)).mono ?_; rintro e w5 ⟨rfl, hb⟩; (first | have H' := HS.of_below hb | have H' := HS.drew.of_below hb | have H' := (HS.box0 [_] _).of_below hb | have H' := ((HS.box0 [_] _).box0 [_] _).of_below hb | have H' := (HS.alloc _).of_below hb | have H' := ((HS.alloc _).alloc _).of_below hb); clear HS; have HS := H'; clear H'; have F := HS.facts; simp only [Own.Facts, Ds.map, Ds.dots, Own.Cells, World.size_alloc, List.cons_append, List.nil_append, List.eraseIdx_cons_succ, List.eraseIdx_cons_zero, List.eraseIdx_zero, List.tail_cons, Nat.zero_add] at F
                  cases hh : hasB s.c xr xs
                  · have HQ := Lib.hid (HB1.out (HOL.out false hh HZ.out))
                    clear hh
                    go_wp2
                    go_ret
                    exact ⟨by rw [HQ.out]; rfl, HS.below⟩
                  · have HK := Lib.hid (HOL.out true hh HZ.out)
                    clear hh
                    go_wp2
                    clear F
                    by_cases hkp : 0 < k
                    · obtain ⟨m, hm⟩ : ∃ m, k = m + 1 := ⟨k - 1, by omega⟩
                      have hwr : IntKind.i64.wrap ((k : Int) - 1) = (m : Int) := by have := HN.out; simp only [IntKind.wrap, IntKind.bits, IntKind.signed]; simp; omega
                      have hml : m < s.l.length := by omega
                      obtain ⟨y, vq, hcy, hdy, hy1, hy2⟩ := HPV.out m hm
                      clear hm
                      obtain ⟨yp, yf, yr, ys, yv⟩ := y
                      simp only at hcy
                      have hcall : ∀ p : Ext w5, _ := fun p => l3Before ⟨yp, yf, yr, ys, yv⟩ ⟨xp, false, xr, xs, xv⟩ vq (.slice Ap xp.length cp) p.to (hcy p.to (HS.of_below p.h).below).1 (HC.out p.to (HS.of_below p.h).below).1
                      clear hdy
                      have hG : ∀ p : Ext w5, _ := fun p => (hcy p.to (HS.of_below p.h).below).2
                      have hL : ∀ p : Ext w5, p.to.cell? ⟨w.heap.size, 0, none⟩ = some (.slice (some ⟨b, o, none⟩) s.l.length c) ∧ p.to.cell? ⟨wr.heap.size, 0, none⟩ = some (.slice Ap xp.length cp) ∧ p.to.cell? ⟨wr.heap.size, 1, none⟩ = some (.bool false) ∧ p.to.cell? ⟨wr.heap.size, 2, none⟩ = some (.int .i64 xr) ∧ p.to.cell? ⟨wr.heap.size, 3, none⟩ = some (.int .i64 xs) ∧ p.to.cell? ⟨wr.heap.size, 4, none⟩ = some (.string xv) := fun p => by
                        have F := (HS.of_below p.h).facts
                        simp only [Own.Facts, Ds.map, Ds.dots, Own.Cells, Nat.zero_add] at F
                        refine ⟨?_, ?_, ?_, ?_, ?_, ?_⟩
                        all_goals first | exact F.1.1.1 | exact F.1.1.2.1 | exact F.1.1.2.2.1 | exact F.1.1.2.2.2.1 | exact F.1.1.2.2.2.2.1 | exact F.2.1.1.1
                      clear hcy
                      cases hbf : before ⟨yp, yf, yr, ys, yv⟩ ⟨xp, false, xr, xs, xv⟩
                      · have HQ := Lib.hid (hy1 hbf)
                        simp only [hbf] at hcall
                        clear hbf hy1 hy2
                        (refine wp_region_ext (by kernel_rfl) (by kernel_rfl) ?_; (repeat (quiet_step (first | exact q_call (hcall _)))); refine wpQuiet_nil ?_; rintro _ ⟨⟨w1, hw1⟩, rfl⟩)
                        have H6 := HS.of_below hw1
                        clear hcall hG hL
                        go_wp2
                        go_ret
                        exact ⟨by rw [HQ.out]; rfl, H6.below⟩
                      · have HN2 := Lib.hid (HGD.out HK.out (hy2 hbf))
                        simp only [hbf] at hcall
                        clear hbf hy1 hy2
                        (refine wp_region_ext (by kernel_rfl) (by kernel_rfl) ?_; (repeat (quiet_step (first | exact q_call (hcall _)))); refine wpQuiet_nil ?_; rintro _ ⟨⟨w1, hw1⟩, rfl⟩)
                        clear hcall hG hL
                        replace HS := HS.of_below hw1
                        go_wp2
                        obtain ⟨bl, hbl⟩ : ∃ n, wr.heap.size = n := ⟨_, rfl⟩
                        rw [hbl] at HS ⊢
                        clear hbl
                        go_loopw [5] (fun i wi => ∃ j : Nat, j ≤ k ∧ i = .int .i64 j ∧ Own w [.box bl 57 [.slice Ap xp.length cp, .bool false, .int .i64 xr, .int .i64 xs, .string xv], .box w.heap.size 36 [.slice (some ⟨b, o, none⟩) s.l.length c, .slice A2 s.c.length d2]] wi ∧ ∀ i, i < j → ∀ (hi : i < s.l.length), (s.l[i].dr, s.l[i].ds) ≠ (xr, xs)) (fun i _ => k - (intOf i).toNat)
                        case atStart => exact ⟨0, by omega, rfl, HS, fun _ h => by omega⟩
                        case round =>
                          obtain ⟨j, hj, rfl, HI, hne⟩ := hrel
                          have HNE := Lib.hid hne
                          clear hne HS
                          by_cases hjk : j < k
                          · obtain ⟨vq, hcy⟩ := Lf.rd h1 j (by omega)
                            have hin : (s.l[j].dr, s.l[j].ds) = (xr, xs) → (xr, xs) ∈ dots (s.l.take k) := fun h => dots_in hk hjk h
                            have HIN := Lib.hid hin
                            clear hin
                            have hstep : ((s.l[j].dr, s.l[j].ds) ≠ (xr, xs)) → ∀ i, i < j + 1 → ∀ (hi : i < s.l.length), (s.l[i].dr, s.l[i].ds) ≠ (xr, xs) := fun h i hi hil => by
                              by_cases h2 : i < j
                              · exact HNE.out i h2 hil
                              · obtain rfl : i = j := by omega
                                exact h
                            have HSTEP := Lib.hid hstep
                            clear hstep
                            obtain ⟨yr, hyr⟩ : ∃ yr, s.l[j].dr = yr := ⟨_, rfl⟩
                            obtain ⟨ys, hys⟩ : ∃ ys, s.l[j].ds = ys := ⟨_, rfl⟩
                            rw [hyr, hys] at HIN HSTEP
                            simp only [hyr, hys] at hcy
                            clear hyr hys
                            have hG := fun p : Ext _ => (hcy p.to (HI.of_below p.h).below).2
                            have hL : ∀ p : Ext _, p.to.cell? ⟨w.heap.size, 0, none⟩ = some (.slice (some ⟨b, o, none⟩) s.l.length c) ∧ p.to.cell? ⟨bl, 2, none⟩ = some (.int .i64 xr) ∧ p.to.cell? ⟨bl, 3, none⟩ = some (.int .i64 xs) := fun p => by
                              have F := (HI.of_below p.h).facts
                              simp only [Own.Facts, Ds.map, Ds.dots, Own.Cells, Nat.zero_add] at F
                              refine ⟨?_, ?_, ?_⟩
                              all_goals first | exact F.1.1.1 | exact F.1.1.2.2.1 | exact F.1.1.2.2.2.1 | exact F.2.1.1.1
                            clear hcy
                            have hjl : j < s.l.length := by omega
                            by_cases e1 : yr = xr
                            · subst e1
                              by_cases e2 : ys = xs
                              · subst e2
                                have HQ := Lib.hid (HB3.out (HIN.out rfl))
                                go_wp2
                                (refine wp_region_ext (by kernel_rfl) (by kernel_rfl) ?_; (repeat (quiet_step (first | fail))); refine wpQuiet_nil ?_; rintro _ ⟨⟨w1, hw1⟩, rfl⟩)
                                have H6 := HI.of_below hw1
                                clear hG hL
                                go_wp2
                                go_ret
                                exact ⟨by rw [HQ.out]; rfl, H6.below⟩
                              · have HQ := Lib.hid (HSTEP.out (by simp; exact e2))
                                have e2b : (ys == xs) = false := by simpa using e2
                                clear e2
                                go_wp2
                                (refine wp_region_ext (by kernel_rfl) (by kernel_rfl) ?_; (repeat (quiet_step (first | fail))); refine wpQuiet_nil ?_; rintro _ ⟨⟨w1, hw1⟩, rfl⟩)
                                have H6 := HI.of_below hw1
                                clear hG hL
                                go_wp2
                                go_roundw
                                case rel => exact ⟨j + 1, by omega, by go_num, H6, HQ.out⟩
                                case measure => simp [intOf]; omega
                            · have HQ := Lib.hid (HSTEP.out (by simp; intro h; exact absurd h e1))
                              have e1b : (yr == xr) = false := by simpa using e1
                              clear e1
                              go_wp2
                              (refine wp_region_ext (by kernel_rfl) (by kernel_rfl) ?_; (repeat (quiet_step (first | fail))); refine wpQuiet_nil ?_; rintro _ ⟨⟨w1, hw1⟩, rfl⟩)
                              have H6 := HI.of_below hw1
                              clear hG hL
                              go_wp2
                              go_roundw
                              case rel => exact ⟨j + 1, by omega, by go_num, H6, HQ.out⟩
                              case measure => simp [intOf]; omega
                          · obtain rfl : j = k := by omega
                            have HFIN := Lib.hid (HN2.out (dots_not hk HNE.out))
                            go_wp2
                            go_roundw
                            case rel => exact ⟨j + 1, by omega, by go_num, HI.drop, HFIN.out⟩
                            case measure => simp [intOf]; omega
                    · have HN2 := Lib.hid (HGD.out HK.out (fun h => absurd h hkp))
                      (refine wp_region_ext (by kernel_rfl) (by kernel_rfl) ?_; (repeat (quiet_step (first | fail))); refine wpQuiet_nil ?_; rintro _ ⟨⟨w1, hw1⟩, rfl⟩)
                      replace HS := HS.of_below hw1
                      go_wp2
                      obtain ⟨bl, hbl⟩ : ∃ n, wr.heap.size = n := ⟨_, rfl⟩
                      rw [hbl] at HS ⊢
                      clear hbl
                      go_loopw [5] (fun i wi => ∃ j : Nat, j ≤ k ∧ i = .int .i64 j ∧ Own w [.box bl 57 [.slice Ap xp.length cp, .bool false, .int .i64 xr, .int .i64 xs, .string xv], .box w.heap.size 36 [.slice (some ⟨b, o, none⟩) s.l.length c, .slice A2 s.c.length d2]] wi ∧ ∀ i, i < j → ∀ (hi : i < s.l.length), (s.l[i].dr, s.l[i].ds) ≠ (xr, xs)) (fun i _ => k - (intOf i).toNat)
                      case atStart => exact ⟨0, by omega, rfl, HS, fun _ h => by omega⟩
                      case round =>
                        obtain ⟨j, hj, rfl, HI, hne⟩ := hrel
                        have HNE := Lib.hid hne
                        clear hne HS
                        by_cases hjk : j < k
                        · obtain ⟨vq, hcy⟩ := Lf.rd h1 j (by omega)
                          have hin : (s.l[j].dr, s.l[j].ds) = (xr, xs) → (xr, xs) ∈ dots (s.l.take k) := fun h => dots_in hk hjk h
                          have HIN := Lib.hid hin
                          clear hin
                          have hstep : ((s.l[j].dr, s.l[j].ds) ≠ (xr, xs)) → ∀ i, i < j + 1 → ∀ (hi : i < s.l.length), (s.l[i].dr, s.l[i].ds) ≠ (xr, xs) := fun h i hi hil => by
                            by_cases h2 : i < j
                            · exact HNE.out i h2 hil
                            · obtain rfl : i = j := by omega
                              exact h
                          have HSTEP := Lib.hid hstep
                          clear hstep
                          obtain ⟨yr, hyr⟩ : ∃ yr, s.l[j].dr = yr := ⟨_, rfl⟩
                          obtain ⟨ys, hys⟩ : ∃ ys, s.l[j].ds = ys := ⟨_, rfl⟩
                          rw [hyr, hys] at HIN HSTEP
                          simp only [hyr, hys] at hcy
                          clear hyr hys
                          have hG := fun p : Ext _ => (hcy p.to (HI.of_below p.h).below).2
                          have hL : ∀ p : Ext _, p.to.cell? ⟨w.heap.size, 0, none⟩ = some (.slice (some ⟨b, o, none⟩) s.l.length c) ∧ p.to.cell? ⟨bl, 2, none⟩ = some (.int .i64 xr) ∧ p.to.cell? ⟨bl, 3, none⟩ = some (.int .i64 xs) := fun p => by
                            have F := (HI.of_below p.h).facts
                            simp only [Own.Facts, Ds.map, Ds.dots, Own.Cells, Nat.zero_add] at F
                            refine ⟨?_, ?_, ?_⟩
                            all_goals first | exact F.1.1.1 | exact F.1.1.2.2.1 | exact F.1.1.2.2.2.1 | exact F.2.1.1.1
                          clear hcy
                          have hjl : j < s.l.length := by omega
                          by_cases e1 : yr = xr
                          · subst e1
                            by_cases e2 : ys = xs
                            · subst e2
                              have HQ := Lib.hid (HB3.out (HIN.out rfl))
                              go_wp2
                              (refine wp_region_ext (by kernel_rfl) (by kernel_rfl) ?_; (repeat (quiet_step (first | fail))); refine wpQuiet_nil ?_; rintro _ ⟨⟨w1, hw1⟩, rfl⟩)
                              have H6 := HI.of_below hw1
                              clear hG hL
                              go_wp2
                              go_ret
                              exact ⟨by rw [HQ.out]; rfl, H6.below⟩
                            · have HQ := Lib.hid (HSTEP.out (by simp; exact e2))
                              have e2b : (ys == xs) = false := by simpa using e2
                              clear e2
                              go_wp2
                              (refine wp_region_ext (by kernel_rfl) (by kernel_rfl) ?_; (repeat (quiet_step (first | fail))); refine wpQuiet_nil ?_; rintro _ ⟨⟨w1, hw1⟩, rfl⟩)
                              have H6 := HI.of_below hw1
                              clear hG hL
                              go_wp2
                              go_roundw
                              case rel => exact ⟨j + 1, by omega, by go_num, H6, HQ.out⟩
                              case measure => simp [intOf]; omega
                          · have HQ := Lib.hid (HSTEP.out (by simp; intro h; exact absurd h e1))
                            have e1b : (yr == xr) = false := by simpa using e1
                            clear e1
                            go_wp2
                            (refine wp_region_ext (by kernel_rfl) (by kernel_rfl) ?_; (repeat (quiet_step (first | fail))); refine wpQuiet_nil ?_; rintro _ ⟨⟨w1, hw1⟩, rfl⟩)
                            have H6 := HI.of_below hw1
                            clear hG hL
                            go_wp2
                            go_roundw
                            case rel => exact ⟨j + 1, by omega, by go_num, H6, HQ.out⟩
                            case measure => simp [intOf]; omega
                        · obtain rfl : j = k := by omega
                          have HFIN := Lib.hid (HN2.out (dots_not hk HNE.out))
                          go_wp2
                          go_roundw
                          case rel => exact ⟨j + 1, by omega, by go_num, HI.drop, HFIN.out⟩
                          case measure => simp [intOf]; omega
                · first | (have hE2 := hE rfl; clear hE) | clear hE
                  go_wp2_with fail
                  refine (l2Has s.c xr xs _ _ (HS.old h2)).mono ?_; rintro e w5 ⟨rfl, hb⟩; (first | have H' := HS.of_below hb | have H' := HS.drew.of_below hb | have H' := (HS.box0 [_] _).of_below hb | have H' := ((HS.box0 [_] _).box0 [_] _).of_below hb | have H' := (HS.alloc _).of_below hb | have H' := ((HS.alloc _).alloc _).of_below hb); clear HS; have HS := H'; clear H'; have F := HS.facts; simp only [Own.Facts, Ds.map, Ds.dots, Own.Cells, World.size_alloc, List.cons_append, List.nil_append, List.eraseIdx_cons_succ, List.eraseIdx_cons_zero, List.eraseIdx_zero, List.tail_cons, Nat.zero_add] at F
                  cases hh : hasB s.c xr xs
                  · have HQ := Lib.hid (HB1.out (HOL.out false hh HZ.out))
                    clear hh
                    go_wp2
                    go_ret
                    exact ⟨by rw [HQ.out]; rfl, HS.below⟩
                  · have HK := Lib.hid (HOL.out true hh HZ.out)
                    clear hh
                    go_wp2
                    clear F
                    by_cases hkp : 0 < k
                    · obtain ⟨m, hm⟩ : ∃ m, k = m + 1 := ⟨k - 1, by omega⟩
                      have hwr : IntKind.i64.wrap ((k : Int) - 1) = (m : Int) := by have := HN.out; simp only [IntKind.wrap, IntKind.bits, IntKind.signed]; simp; omega
                      have hml : m < s.l.length := by omega
                      obtain ⟨y, vq, hcy, hdy, hy1, hy2⟩ := HPV.out m hm
                      clear hm
                      obtain ⟨yp, yf, yr, ys, yv⟩ := y
                      simp only at hcy
                      have hcall : ∀ p : Ext w5, _ := fun p => l3Before ⟨yp, yf, yr, ys, yv⟩ ⟨xp, true, xr, xs, xv⟩ vq (.slice Ap xp.length cp) p.to (hcy p.to (HS.of_below p.h).below).1 (HC.out p.to (HS.of_below p.h).below).1
                      clear hdy
                      have hG : ∀ p : Ext w5, _ := fun p => (hcy p.to (HS.of_below p.h).below).2
                      have hL : ∀ p : Ext w5, p.to.cell? ⟨w.heap.size, 0, none⟩ = some (.slice (some ⟨b, o, none⟩) s.l.length c) ∧ p.to.cell? ⟨wr.heap.size, 0, none⟩ = some (.slice Ap xp.length cp) ∧ p.to.cell? ⟨wr.heap.size, 1, none⟩ = some (.bool true) ∧ p.to.cell? ⟨wr.heap.size, 2, none⟩ = some (.int .i64 xr) ∧ p.to.cell? ⟨wr.heap.size, 3, none⟩ = some (.int .i64 xs) ∧ p.to.cell? ⟨wr.heap.size, 4, none⟩ = some (.string xv) := fun p => by
                        have F := (HS.of_below p.h).facts
                        simp only [Own.Facts, Ds.map, Ds.dots, Own.Cells, Nat.zero_add] at F
                        refine ⟨?_, ?_, ?_, ?_, ?_, ?_⟩
                        all_goals first | exact F.1.1.1 | exact F.1.1.2.1 | exact F.1.1.2.2.1 | exact F.1.1.2.2.2.1 | exact F.1.1.2.2.2.2.1 | exact F.2.1.1.1
                      clear hcy
                      cases hbf : before ⟨yp, yf, yr, ys, yv⟩ ⟨xp, true, xr, xs, xv⟩
                      · have HQ := Lib.hid (hy1 hbf)
                        simp only [hbf] at hcall
                        clear hbf hy1 hy2
                        (refine wp_region_ext (by kernel_rfl) (by kernel_rfl) ?_; (repeat (quiet_step (first | exact q_call (hcall _)))); refine wpQuiet_nil ?_; rintro _ ⟨⟨w1, hw1⟩, rfl⟩)
                        have H6 := HS.of_below hw1
                        clear hcall hG hL
                        go_wp2
                        go_ret
                        exact ⟨by rw [HQ.out]; rfl, H6.below⟩
                      · have HN2 := Lib.hid (HGD.out HK.out (hy2 hbf))
                        simp only [hbf] at hcall
                        clear hbf hy1 hy2
                        (refine wp_region_ext (by kernel_rfl) (by kernel_rfl) ?_; (repeat (quiet_step (first | exact q_call (hcall _)))); refine wpQuiet_nil ?_; rintro _ ⟨⟨w1, hw1⟩, rfl⟩)
                        clear hcall hG hL
                        replace HS := HS.of_below hw1
                        go_wp2
                        obtain ⟨bl, hbl⟩ : ∃ n, wr.heap.size = n := ⟨_, rfl⟩
                        rw [hbl] at HS ⊢
                        clear hbl
                        go_loopw [5] (fun i wi => ∃ j : Nat, j ≤ k ∧ i = .int .i64 j ∧ Own w [.box bl 57 [.slice Ap xp.length cp, .bool true, .int .i64 xr, .int .i64 xs, .string xv], .box w.heap.size 36 [.slice (some ⟨b, o, none⟩) s.l.length c, .slice A2 s.c.length d2]] wi ∧ ∀ i, i < j → ∀ (hi : i < s.l.length), (s.l[i].dr, s.l[i].ds) ≠ (xr, xs)) (fun i _ => k - (intOf i).toNat)
                        case atStart => exact ⟨0, by omega, rfl, HS, fun _ h => by omega⟩
                        case round =>
                          obtain ⟨j, hj, rfl, HI, hne⟩ := hrel
                          have HNE := Lib.hid hne
                          clear hne HS
                          by_cases hjk : j < k
                          · obtain ⟨vq, hcy⟩ := Lf.rd h1 j (by omega)
                            have hin : (s.l[j].dr, s.l[j].ds) = (xr, xs) → (xr, xs) ∈ dots (s.l.take k) := fun h => dots_in hk hjk h
                            have HIN := Lib.hid hin
                            clear hin
                            have hstep : ((s.l[j].dr, s.l[j].ds) ≠ (xr, xs)) → ∀ i, i < j + 1 → ∀ (hi : i < s.l.length), (s.l[i].dr, s.l[i].ds) ≠ (xr, xs) := fun h i hi hil => by
                              by_cases h2 : i < j
                              · exact HNE.out i h2 hil
                              · obtain rfl : i = j := by omega
                                exact h
                            have HSTEP := Lib.hid hstep
                            clear hstep
                            obtain ⟨yr, hyr⟩ : ∃ yr, s.l[j].dr = yr := ⟨_, rfl⟩
                            obtain ⟨ys, hys⟩ : ∃ ys, s.l[j].ds = ys := ⟨_, rfl⟩
                            rw [hyr, hys] at HIN HSTEP
                            simp only [hyr, hys] at hcy
                            clear hyr hys
                            have hG := fun p : Ext _ => (hcy p.to (HI.of_below p.h).below).2
                            have hL : ∀ p : Ext _, p.to.cell? ⟨w.heap.size, 0, none⟩ = some (.slice (some ⟨b, o, none⟩) s.l.length c) ∧ p.to.cell? ⟨bl, 2, none⟩ = some (.int .i64 xr) ∧ p.to.cell? ⟨bl, 3, none⟩ = some (.int .i64 xs) := fun p => by
                              have F := (HI.of_below p.h).facts
                              simp only [Own.Facts, Ds.map, Ds.dots, Own.Cells, Nat.zero_add] at F
                              refine ⟨?_, ?_, ?_⟩
                              all_goals first | exact F.1.1.1 | exact F.1.1.2.2.1 | exact F.1.1.2.2.2.1 | exact F.2.1.1.1
                            clear hcy
                            have hjl : j < s.l.length := by omega
                            by_cases e1 : yr = xr
                            · subst e1
                              by_cases e2 : ys = xs
                              · subst e2
                                have HQ := Lib.hid (HB3.out (HIN.out rfl))
                                go_wp2
                                (refine wp_region_ext (by kernel_rfl) (by kernel_rfl) ?_; (repeat (quiet_step (first | fail))); refine wpQuiet_nil ?_; rintro _ ⟨⟨w1, hw1⟩, rfl⟩)
                                have H6 := HI.of_below hw1
                                clear hG hL
                                go_wp2
                                go_ret
                                exact ⟨by rw [HQ.out]; rfl, H6.below⟩
                              · have HQ := Lib.hid (HSTEP.out (by simp; exact e2))
                                have e2b : (ys == xs) = false := by simpa using e2
                                clear e2
                                go_wp2
                                (refine wp_region_ext (by kernel_rfl) (by kernel_rfl) ?_; (repeat (quiet_step (first | fail))); refine wpQuiet_nil ?_; rintro _ ⟨⟨w1, hw1⟩, rfl⟩)
                                have H6 := HI.of_below hw1
                                clear hG hL
                                go_wp2
                                go_roundw
                                case rel => exact ⟨j + 1, by omega, by go_num, H6, HQ.out⟩
                                case measure => simp [intOf]; omega
                            · have HQ := Lib.hid (HSTEP.out (by simp; intro h; exact absurd h e1))
                              have e1b : (yr == xr) = false := by simpa using e1
                              clear e1
                              go_wp2
                              (refine wp_region_ext (by kernel_rfl) (by kernel_rfl) ?_; (repeat (quiet_step (first | fail))); refine wpQuiet_nil ?_; rintro _ ⟨⟨w1, hw1⟩, rfl⟩)
                              have H6 := HI.of_below hw1
                              clear hG hL
                              go_wp2
                              go_roundw
                              case rel => exact ⟨j + 1, by omega, by go_num, H6, HQ.out⟩
                              case measure => simp [intOf]; omega
                          · obtain rfl : j = k := by omega
                            have HFIN := Lib.hid (HN2.out (dots_not hk HNE.out))
                            go_wp2
                            go_roundw
                            case rel => exact ⟨j + 1, by omega, by go_num, HI.drop, HFIN.out⟩
                            case measure => simp [intOf]; omega
                    · have HN2 := Lib.hid (HGD.out HK.out (fun h => absurd h hkp))
                      (refine wp_region_ext (by kernel_rfl) (by kernel_rfl) ?_; (repeat (quiet_step (first | fail))); refine wpQuiet_nil ?_; rintro _ ⟨⟨w1, hw1⟩, rfl⟩)
                      replace HS := HS.of_below hw1
                      go_wp2
                      obtain ⟨bl, hbl⟩ : ∃ n, wr.heap.size = n := ⟨_, rfl⟩
                      rw [hbl] at HS ⊢
                      clear hbl
                      go_loopw [5] (fun i wi => ∃ j : Nat, j ≤ k ∧ i = .int .i64 j ∧ Own w [.box bl 57 [.slice Ap xp.length cp, .bool true, .int .i64 xr, .int .i64 xs, .string xv], .box w.heap.size 36 [.slice (some ⟨b, o, none⟩) s.l.length c, .slice A2 s.c.length d2]] wi ∧ ∀ i, i < j → ∀ (hi : i < s.l.length), (s.l[i].dr, s.l[i].ds) ≠ (xr, xs)) (fun i _ => k - (intOf i).toNat)
                      case atStart => exact ⟨0, by omega, rfl, HS, fun _ h => by omega⟩
                      case round =>
                        obtain ⟨j, hj, rfl, HI, hne⟩ := hrel
                        have HNE := Lib.hid hne
                        clear hne HS
                        by_cases hjk : j < k
                        · obtain ⟨vq, hcy⟩ := Lf.rd h1 j (by omega)
                          have hin : (s.l[j].dr, s.l[j].ds) = (xr, xs) → (xr, xs) ∈ dots (s.l.take k) := fun h => dots_in hk hjk h
                          have HIN := Lib.hid hin
                          clear hin
                          have hstep : ((s.l[j].dr, s.l[j].ds) ≠ (xr, xs)) → ∀ i, i < j + 1 → ∀ (hi : i < s.l.length), (s.l[i].dr, s.l[i].ds) ≠ (xr, xs) := fun h i hi hil => by
                            by_cases h2 : i < j
                            · exact HNE.out i h2 hil
                            · obtain rfl : i = j := by omega
                              exact h
                          have HSTEP := Lib.hid hstep
                          clear hstep
                          obtain ⟨yr, hyr⟩ : ∃ yr, s.l[j].dr = yr := ⟨_, rfl⟩
                          obtain ⟨ys, hys⟩ : ∃ ys, s.l[j].ds = ys := ⟨_, rfl⟩
                          rw [hyr, hys] at HIN HSTEP
                          simp only [hyr, hys] at hcy
                          clear hyr hys
                          have hG := fun p : Ext _ => (hcy p.to (HI.of_below p.h).below).2
                          have hL : ∀ p : Ext _, p.to.cell? ⟨w.heap.size, 0, none⟩ = some (.slice (some ⟨b, o, none⟩) s.l.length c) ∧ p.to.cell? ⟨bl, 2, none⟩ = some (.int .i64 xr) ∧ p.to.cell? ⟨bl, 3, none⟩ = some (.int .i64 xs) := fun p => by
                            have F := (HI.of_below p.h).facts
                            simp only [Own.Facts, Ds.map, Ds.dots, Own.Cells, Nat.zero_add] at F
                            refine ⟨?_, ?_, ?_⟩
                            all_goals first | exact F.1.1.1 | exact F.1.1.2.2.1 | exact F.1.1.2.2.2.1 | exact F.2.1.1.1
                          clear hcy
                          have hjl : j < s.l.length := by omega
                          by_cases e1 : yr = xr
                          · subst e1
                            by_cases e2 : ys = xs
                            · subst e2
                              have HQ := Lib.hid (HB3.out (HIN.out rfl))
                              go_wp2
                              (refine wp_region_ext (by kernel_rfl) (by kernel_rfl) ?_; (repeat (quiet_step (first | fail))); refine wpQuiet_nil ?_; rintro _ ⟨⟨w1, hw1⟩, rfl⟩)
                              have H6 := HI.of_below hw1
                              clear hG hL
                              go_wp2
                              go_ret
                              exact ⟨by rw [HQ.out]; rfl, H6.below⟩
                            · have HQ := Lib.hid (HSTEP.out (by simp; exact e2))
                              have e2b : (ys == xs) = false := by simpa using e2
                              clear e2
                              go_wp2
                              (refine wp_region_ext (by kernel_rfl) (by kernel_rfl) ?_; (repeat (quiet_step (first | fail))); refine wpQuiet_nil ?_; rintro _ ⟨⟨w1, hw1⟩, rfl⟩)
                              have H6 := HI.of_below hw1
                              clear hG hL
                              go_wp2
                              go_roundw
                              case rel => exact ⟨j + 1, by omega, by go_num, H6, HQ.out⟩
                              case measure => simp [intOf]; omega
                          · have HQ := Lib.hid (HSTEP.out (by simp; intro h; exact absurd h e1))
                            have e1b : (yr == xr) = false := by simpa using e1
                            clear e1
                            go_wp2
                            (refine wp_region_ext (by kernel_rfl) (by kernel_rfl) ?_; (repeat (quiet_step (first | fail))); refine wpQuiet_nil ?_; rintro _ ⟨⟨w1, hw1⟩, rfl⟩)
                            have H6 := HI.of_below hw1
                            clear hG hL
                            go_wp2
                            go_roundw
                            case rel => exact ⟨j + 1, by omega, by go_num, H6, HQ.out⟩
                            case measure => simp [intOf]; omega
                        · obtain rfl : j = k := by omega
                          have HFIN := Lib.hid (HN2.out (dots_not hk HNE.out))
                          go_wp2
                          go_roundw
                          case rel => exact ⟨j + 1, by omega, by go_num, HI.drop, HFIN.out⟩
                          case measure => simp [intOf]; omega
            · have HQ := Lib.hid (HB1.out (by simp [okLeaf, hv]))
              clear hp
              have hv2 : 200 < xv.size := by omega
              go_wp2
              go_ret
              exact ⟨by rw [HQ.out]; rfl, HS.below⟩
        · obtain rfl : k = s.l.length := by omega
          have HQ := Lib.hid (stOk_good HX.out HN.out HA.out)
          go_wp2
          go_ret
          exact ⟨by rw [HQ.out]; rfl, HS'.below⟩
    · have HQ := Lib.hid (stOk_len hn)
      go_enter Tryz.func23, Tryz.ntmps23
      go_wp2_with fail
      refine (specCtxOk _ _ _ (HS.old h2)).mono ?_; rintro e w1 ⟨rfl, hb⟩; (first | have H' := HS.of_below hb | have H' := HS.drew.of_below hb | have H' := (HS.box0 [_] _).of_below hb | have H' := ((HS.box0 [_] _).box0 [_] _).of_below hb | have H' := (HS.alloc _).of_below hb | have H' := ((HS.alloc _).alloc _).of_below hb); clear HS; have HS := H'; clear H'; have F := HS.facts; simp only [Own.Facts, Ds.map, Ds.dots, Own.Cells, World.size_alloc, List.cons_append, List.nil_append, List.eraseIdx_cons_succ, List.eraseIdx_cons_zero, List.eraseIdx_zero, List.tail_cons, Nat.zero_add] at F
      rw [hx]
      clear hx
      go_wp2
      go_ret
      exact ⟨by rw [HQ.out]; rfl, HS.below⟩
end Go.Proofs.YtkafflbakgkpcaaGreat
