/- The reference's set, SetFlag, WriteReg. -/
import Derived.Test.YtkafflbakgkpcaaGreatKs
import Derived.Test.YtkafflbakgkpcaaGreatKg
import Derived.Test.YtkafflbakgkpcaaGreatKi
import Derived.Test.YtkafflbakgkpcaaGreatM3
namespace Go.Proofs.YtkafflbakgkpcaaGreat
set_option linter.unusedSimpArgs false
set_option linter.unusedVariables false
open Go.RowKit Go.Ow
attribute [local irreducible] wpQuiet
set_option maxRecDepth 100000
set_option maxHeartbeats 32000000 in
theorem l3Set (s : St) (rep : Int) (p : List ByteArray) (fl on : Bool) (v : ByteArray) (vl vc vp : Value) (w : World) (h1 : Rd w vl s.l) (h2 : Rd w vc s.c) (h3 : Rd w vp p) (hw : ∀ y ∈ s.l, LfW y) (hpw : ∀ x ∈ p, x.size ≤ 140737488351232) (hrep : -9223372036854775808 ≤ rep ∧ rep ≤ 9223372036854775807) (hv : v.size ≤ 140737488351232) :
    Calls Tryz.prog 41 #[.agg #[vl, vc], .int .i64 rep, vp, .bool fl, .bool on, .string v] w fun e w' => ∃ A c A2 c2 A3 c3 A4 c4, e = .returned (.tuple #[.agg #[.slice A (stR s rep p fl on v).1.l.length c, .slice A2 (stR s rep p fl on v).1.c.length c2], .agg #[.slice A3 (stR s rep p fl on v).2.1.l.length c3, .slice A4 (stR s rep p fl on v).2.1.c.length c4], .int .i64 (stR s rep p fl on v).2.2]) ∧
      Own w [.own (.slice A (stR s rep p fl on v).1.l.length c) (stR s rep p fl on v).1.l, .own (.slice A2 (stR s rep p fl on v).1.c.length c2) (stR s rep p fl on v).1.c, .own (.slice A3 (stR s rep p fl on v).2.1.l.length c3) (stR s rep p fl on v).2.1.l, .own (.slice A4 (stR s rep p fl on v).2.1.c.length c4) (stR s rep p fl on v).2.1.c] w' := by
  have H1 := h1
  obtain ⟨A1, c1, rfl, _, _⟩ := h1.val
  obtain ⟨A2, c2, rfl, _, _⟩ := h2.val
  obtain ⟨A3, c3, rfl, _, _⟩ := h3.val
  have HW := Lib.hid hw
  have HPW := Lib.hid hpw
  clear hw hpw
  have HS := (((Own.start w).box [.slice A1 s.l.length c1, .slice A2 s.c.length c2] 36).box (b := w.heap.size + 1) [.slice none 0 0, .slice none 0 0] 36).box (b := w.heap.size + 1 + 1) [.slice none 0 0, .slice none 0 0] 36
  obtain ⟨r, hr⟩ : ∃ r, (nextDot s.c rep).1 = r := ⟨_, rfl⟩
  obtain ⟨q, hq⟩ : ∃ q, (nextDot s.c rep).2.1 = q := ⟨_, rfl⟩
  obtain ⟨ok, ho⟩ : ∃ q, (nextDot s.c rep).2.2 = q := ⟨_, rfl⟩
  have HN := Lib.hid (show nextDot s.c rep = (r, q, ok) by rw [← hr, ← hq, ← ho])
  have HND := Lib.hid (fun h : ok = true => by have := nextDot_ok (ho.trans h); rw [hr, hq] at this; exact this)
  clear hr hq ho
  cases ha : stOk s
  · have HQ := Lib.hid (show stR s rep p fl on v = (⟨[], []⟩, ⟨[], []⟩, 1) by unfold stR; rw [if_pos ha])
    go_enter Tryz.func41, Tryz.ntmps41
    go_wp2_with fail
    refine (specStateOk s _ _ _ (HS.old h1) (HS.old h2) HW.out).mono ?_; rintro e w1 ⟨rfl, hb⟩; (first | have H' := HS.of_below hb | have H' := HS.drew.of_below hb | have H' := (HS.box0 [_] _).of_below hb | have H' := ((HS.box0 [_] _).box0 [_] _).of_below hb | have H' := (HS.alloc _).of_below hb | have H' := ((HS.alloc _).alloc _).of_below hb); clear HS; have HS := H'; clear H'; have F := HS.facts; simp only [Own.Facts, Own.Cells, World.size_alloc, List.cons_append, List.nil_append, List.eraseIdx_cons_succ, List.eraseIdx_cons_zero, List.eraseIdx_zero, List.tail_cons, Nat.zero_add] at F
    rw [ha]
    clear ha
    go_wp2
    have H2 := (((((HS.pick 1 rfl).set 0 (.slice none 0 0)).set 1 (.slice none 0 0)).pick 1 rfl).set 0 (.slice none 0 0)).set 1 (.slice none 0 0)
    have H3 := ((((H2.drop.drop.drop.nil (α := Rn)).nil (α := Lf)).nil (α := Rn)).nil (α := Lf))
    exact bodyPost_ret (v := .tuple #[.agg #[.slice none 0 0, .slice none 0 0], .agg #[.slice none 0 0, .slice none 0 0], .int .i64 1]) (by simp [results, Tryz.results41, go_sem, *]) rfl ⟨none, 0, none, 0, none, 0, none, 0, by rw [HQ.out]; rfl, by rw [HQ.out]; exact H3⟩
  · cases hp : pathOk p
    · have HQ := Lib.hid (show stR s rep p fl on v = (⟨[], []⟩, ⟨[], []⟩, 2) by unfold stR; rw [if_neg (by simp [ha]), if_pos (by simp [hp])])
      go_enter Tryz.func41, Tryz.ntmps41
      go_wp2_with fail
      refine (specStateOk s _ _ _ (HS.old h1) (HS.old h2) HW.out).mono ?_; rintro e w1 ⟨rfl, hb⟩; (first | have H' := HS.of_below hb | have H' := HS.drew.of_below hb | have H' := (HS.box0 [_] _).of_below hb | have H' := ((HS.box0 [_] _).box0 [_] _).of_below hb | have H' := (HS.alloc _).of_below hb | have H' := ((HS.alloc _).alloc _).of_below hb); clear HS; have HS := H'; clear H'; have F := HS.facts; simp only [Own.Facts, Own.Cells, World.size_alloc, List.cons_append, List.nil_append, List.eraseIdx_cons_succ, List.eraseIdx_cons_zero, List.eraseIdx_zero, List.tail_cons, Nat.zero_add] at F
      rw [ha]
      clear ha
      go_wp2_with fail
      refine (l3PathOk p _ _ (HS.old h3) HPW.out).mono ?_; rintro e w2 ⟨rfl, hb⟩; (first | have H' := HS.of_below hb | have H' := HS.drew.of_below hb | have H' := (HS.box0 [_] _).of_below hb | have H' := ((HS.box0 [_] _).box0 [_] _).of_below hb | have H' := (HS.alloc _).of_below hb | have H' := ((HS.alloc _).alloc _).of_below hb); clear HS; have HS := H'; clear H'; have F := HS.facts; simp only [Own.Facts, Own.Cells, World.size_alloc, List.cons_append, List.nil_append, List.eraseIdx_cons_succ, List.eraseIdx_cons_zero, List.eraseIdx_zero, List.tail_cons, Nat.zero_add] at F
      rw [hp]
      clear hp
      go_wp2
      have H2 := (((((HS.pick 1 rfl).set 0 (.slice none 0 0)).set 1 (.slice none 0 0)).pick 1 rfl).set 0 (.slice none 0 0)).set 1 (.slice none 0 0)
      have H3 := ((((H2.drop.drop.drop.nil (α := Rn)).nil (α := Lf)).nil (α := Rn)).nil (α := Lf))
      exact bodyPost_ret (v := .tuple #[.agg #[.slice none 0 0, .slice none 0 0], .agg #[.slice none 0 0, .slice none 0 0], .int .i64 2]) (by simp [results, Tryz.results41, go_sem, *]) rfl ⟨none, 0, none, 0, none, 0, none, 0, by rw [HQ.out]; rfl, by rw [HQ.out]; exact H3⟩
    · by_cases hv2 : v.size ≤ 200
      · by_cases hr : 0 ≤ rep ∧ rep < 8
        · obtain ⟨hr1, hr2⟩ := hr
          cases on
          · obtain ⟨X, hX⟩ : ∃ X, chR s (setB fl p) [] = X := ⟨_, rfl⟩
            have HQ := Lib.hid (show stR s rep p fl false v = X by unfold stR; rw [if_neg (by simp [ha]), if_neg (by simp [hp, hv2]), if_neg (by simp [hr1, hr2]), if_neg (by simp)]; exact hX)
            have HX := Lib.hid hX
            have HOK := Lib.hid ha
            have hpl : p.length ≤ 1048576 := by
              have h8 := hp
              unfold pathOk at h8
              simp only [Bool.and_eq_true, decide_eq_true_eq] at h8
              omega
            obtain ⟨zs, hz, hatz, hpf⟩ := rd_pf h1
            have hl : s.l.length = zs.length := by rw [← hz]; simp
            have hn : zs.length ≤ 1000 := by rw [← hl]; exact stOk_len' ha
            have HZ := Lib.hid hz
            have HAT := Lib.hid hatz
            have HSL := Lib.hid hl
            rw [hl] at HS hpf h1 H1
            rw [hl]
            clear hX hz hatz hl
            go_enter Tryz.func41, Tryz.ntmps41
            go_wp2_with fail
            refine (specStateOk s _ _ _ (HS.old h1) (HS.old h2) HW.out).mono ?_; rintro e w1 ⟨rfl, hb⟩; (first | have H' := HS.of_below hb | have H' := HS.drew.of_below hb | have H' := (HS.box0 [_] _).of_below hb | have H' := ((HS.box0 [_] _).box0 [_] _).of_below hb | have H' := (HS.alloc _).of_below hb | have H' := ((HS.alloc _).alloc _).of_below hb); clear HS; have HS := H'; clear H'; have F := HS.facts; simp only [Own.Facts, Own.Cells, World.size_alloc, List.cons_append, List.nil_append, List.eraseIdx_cons_succ, List.eraseIdx_cons_zero, List.eraseIdx_zero, List.tail_cons, Nat.zero_add] at F
            rw [ha]
            clear ha
            go_wp2_with fail
            refine (l3PathOk p _ _ (HS.old h3) HPW.out).mono ?_; rintro e w2 ⟨rfl, hb⟩; (first | have H' := HS.of_below hb | have H' := HS.drew.of_below hb | have H' := (HS.box0 [_] _).of_below hb | have H' := ((HS.box0 [_] _).box0 [_] _).of_below hb | have H' := (HS.alloc _).of_below hb | have H' := ((HS.alloc _).alloc _).of_below hb); clear HS; have HS := H'; clear H'; have F := HS.facts; simp only [Own.Facts, Own.Cells, World.size_alloc, List.cons_append, List.nil_append, List.eraseIdx_cons_succ, List.eraseIdx_cons_zero, List.eraseIdx_zero, List.tail_cons, Nat.zero_add] at F
            rw [hp]
            clear hp
            go_wp2_with fail
            refine (specNextDot s.c rep _ _ (HS.old h2)).mono ?_
            rintro e w3 ⟨rfl, hb⟩
            replace HS := HS.of_below hb
            clear hb F
            rw [HN.out]
            have HS2 := HS.box (b := w3.heap.size) [.int .i64 r, .int .i64 q] 55
            clear HS
            have HS := HS2
            clear HS2
            have F := HS.facts; simp only [Own.Facts, Own.Cells, World.size_alloc, List.cons_append, List.nil_append, List.eraseIdx_cons_succ, List.eraseIdx_cons_zero, List.eraseIdx_zero, List.tail_cons, Nat.zero_add] at F
            obtain ⟨sz, hsz⟩ : ∃ n, w.heap.size = n := ⟨_, rfl⟩
            obtain ⟨bo, hbo⟩ : ∃ n, w3.heap.size = n := ⟨_, rfl⟩
            rw [hsz, hbo] at HS
            clear F
            have HL0 := HS.lit ([] : List Bool) #[] 4 rfl rfl (by simp)
            have F := HS.facts; simp only [Own.Facts, Own.Cells, World.size_alloc, List.cons_append, List.nil_append, List.eraseIdx_cons_succ, List.eraseIdx_cons_zero, List.eraseIdx_zero, List.tail_cons, Nat.zero_add] at F
            go_wp2
            try simp only [hsz, hbo]
            simp only [World.size_alloc, hbo, List.length_nil] at HL0
            clear hsz hbo
            go_loopw [17, 18] (fun u x wr => ∃ (gs : List Bool), x = .int .i64 gs.length ∧ gs.length ≤ zs.length ∧ Hid (gs = (zs.take gs.length).map fun z => setB fl p z.l) ∧ Own w [.own u gs, .box bo 55 [.int .i64 r, .int .i64 q], .box (sz + 1 + 1) 36 [.slice none 0 0, .slice none 0 0], .box (sz + 1) 36 [.slice none 0 0, .slice none 0 0], .box sz 36 [.slice A1 zs.length c1, .slice A2 s.c.length c2]] wr) (fun _ x _ => zs.length - (intOf x).toNat)
            case atStart => exact ⟨[], rfl, by simp, Lib.hid (by simp), HL0⟩
            case round =>
              obtain ⟨gs, rfl, hgl, HG, HS'⟩ := hrel
              clear HS HL0
              have HS := HS'
              clear HS'
              obtain ⟨Ag, cg, rfl, _, _⟩ := (HS.rd 0 rfl).val
              have F := HS.facts; simp only [Own.Facts, Own.Cells, World.size_alloc, List.cons_append, List.nil_append, List.eraseIdx_cons_succ, List.eraseIdx_cons_zero, List.eraseIdx_zero, List.tail_cons, Nat.zero_add] at F
              by_cases hlt : gs.length < zs.length
              · obtain ⟨b1, o1, rfl⟩ := hpf.fix (by omega)
                have hcell := Pf.cells (HS.old hpf) gs.length hlt
                have HCZ := Lib.hid (fun (wq : World) (H : Own w [] wq) => Pf.cells (H.old hpf) gs.length hlt)
                obtain ⟨z, hzz⟩ : ∃ z, zs[gs.length] = z := ⟨_, rfl⟩
                have hat := HAT.out zs[gs.length] (List.getElem_mem hlt)
                rw [hzz] at hat hcell
                simp only [hzz] at HCZ
                have HG2 := Lib.hid (show gs ++ [setB fl p z.l] = (zs.take (gs.length + 1)).map fun z => setB fl p z.l by rw [List.take_succ_eq_append_getElem hlt, List.map_append, ← HG.out, hzz]; rfl)
                clear hzz
                obtain ⟨⟨Az, nz, cz⟩, ⟨zp, zf, zr, zd, zv⟩⟩ := z
                obtain rfl : nz = zp.length := hat.len
                simp only [Pf.at_, Sv.v] at hat hcell HCZ
                have HC := Lib.hid (cmpP_eq zp p)
                obtain ⟨gb, hgb⟩ : ∃ g, setB fl p ⟨zp, zf, zr, zd, zv⟩ = g := ⟨_, rfl⟩
                simp only [hgb] at HG2
                have HGB := Lib.hid hgb
                clear hgb
                by_cases h0 : cmpP zp p = 0
                · have hgb2 : (zf == fl) = gb := by rw [← HGB.out]; unfold setB; rw [decide_eq_true (HC.out.1 h0), Bool.and_true]
                  have HGC := Lib.hid hgb2
                  go_wp2_with fail
                  refine (l3Cmp zp p _ _ _ (HS.old hat) (HS.old h3)).mono ?_; rintro e w4 ⟨rfl, hb⟩; (first | have H' := HS.of_below hb | have H' := HS.drew.of_below hb | have H' := (HS.box0 [_] _).of_below hb | have H' := ((HS.box0 [_] _).box0 [_] _).of_below hb | have H' := (HS.alloc _).of_below hb | have H' := ((HS.alloc _).alloc _).of_below hb); clear HS; have HS := H'; clear H'; have F := HS.facts; simp only [Own.Facts, Own.Cells, World.size_alloc, List.cons_append, List.nil_append, List.eraseIdx_cons_succ, List.eraseIdx_cons_zero, List.eraseIdx_zero, List.tail_cons, Nat.zero_add] at F
                  rw [h0]
                  have hcell := HCZ.out _ (own_take 0 HS)
                  have hgb3 : decide (zf = fl) = gb := by rw [← hgb2]; cases zf <;> cases fl <;> rfl
                  have HL := (HS.lit [gb] #[.bool gb] 4 rfl rfl (by simp)).pick 1 rfl
                  go_wp2_with (at_builtin; refine wp_app (α := Bool) rfl _ _ 53 rfl (by kernel_rfl) _ _ HL rfl _ _ rfl (HL.rd 1 rfl) (by show (_ + 1) * 1 ≤ _; omega) (by show _ + 1 ≤ _; omega) ?_; clear HL; intro v2 w5 HL)
                  have HS2 := (HL.pick 1 rfl).drop
                  go_roundw
                  case rel => exact ⟨gs ++ [gb], by first | (simp; done) | (rw [List.length_append]; rfl) | go_num, by simp only [List.length_append, List.length_cons, List.length_nil]; omega, Lib.hid (by simpa using HG2.out), HS2⟩
                  case measure => simp [intOf]; omega
                · have h0x : cmpP zp p = -1 ∨ cmpP zp p = 1 := (cmpP_range zp p).resolve_left h0
                  have hgb2 : gb = false := by rw [← HGB.out]; unfold setB; rw [decide_eq_false (fun h => h0 (HC.out.2 h)), Bool.and_false]
                  have HGF := Lib.hid hgb2
                  clear hgb2
                  clear h0
                  rcases h0x with h0 | h0
                  all_goals
                    go_wp2_with fail
                    refine (l3Cmp zp p _ _ _ (HS.old hat) (HS.old h3)).mono ?_; rintro e w4 ⟨rfl, hb⟩; (first | have H' := HS.of_below hb | have H' := HS.drew.of_below hb | have H' := (HS.box0 [_] _).of_below hb | have H' := ((HS.box0 [_] _).box0 [_] _).of_below hb | have H' := (HS.alloc _).of_below hb | have H' := ((HS.alloc _).alloc _).of_below hb); clear HS; have HS := H'; clear H'; have F := HS.facts; simp only [Own.Facts, Own.Cells, World.size_alloc, List.cons_append, List.nil_append, List.eraseIdx_cons_succ, List.eraseIdx_cons_zero, List.eraseIdx_zero, List.tail_cons, Nat.zero_add] at F
                    rw [h0]
                    have HL := (HS.lit [gb] #[.bool false] 4 rfl (by rw [HGF.out]; rfl) (by simp)).pick 1 rfl
                    go_wp2_with (at_builtin; refine wp_app (α := Bool) rfl _ _ 53 rfl (by kernel_rfl) _ _ HL rfl _ _ rfl (HL.rd 1 rfl) (by show (_ + 1) * 1 ≤ _; omega) (by show _ + 1 ≤ _; omega) ?_; clear HL; intro v2 w5 HL)
                    have HS2 := (HL.pick 1 rfl).drop
                    go_roundw
                    case rel => exact ⟨gs ++ [gb], by first | (simp; done) | (rw [List.length_append]; rfl) | go_num, by simp only [List.length_append, List.length_cons, List.length_nil]; omega, Lib.hid (by simpa using HG2.out), HS2⟩
                    case measure => simp [intOf]; omega
              · have hgz : gs.length = zs.length := by omega
                have HG3 := Lib.hid (show gs = s.l.map (setB fl p) by have := HG.out; rw [hgz, List.take_length] at this; rw [this, ← HZ.out, List.map_map]; rfl)
                clear F
                rw [hgz] at HS ⊢
                clear hgz hlt hgl HG
                have F := HS.facts; simp only [Own.Facts, Own.Cells, World.size_alloc, List.cons_append, List.nil_append, List.eraseIdx_cons_succ, List.eraseIdx_cons_zero, List.eraseIdx_zero, List.tail_cons, Nat.zero_add] at F
                have HL := HS.lit ([] : List Pf) #[] 57 rfl rfl (by simp)
                go_wp2_with fail
                refine (show Calls Tryz.prog 26 _ _ (fun e w' => ∃ A c A2 c2 A3 c3 A4 c4, e = .returned (.tuple #[.agg #[.slice A X.1.l.length c, .slice A2 X.1.c.length c2], .agg #[.slice A3 X.2.1.l.length c3, .slice A4 X.2.1.c.length c4], .int .i64 X.2.2]) ∧
                      Own _ [.own (.slice A X.1.l.length c) X.1.l, .own (.slice A2 X.1.c.length c2) X.1.c, .own (.slice A3 X.2.1.l.length c3) X.2.1.l, .own (.slice A4 X.2.1.c.length c4) X.2.1.c] w') from by
                  have h := l3ChangeG s (setB fl p) gs [] _ _ _ _ _ (HL.old H1) (HL.old h2) (HL.rd 1 rfl) (HL.rd 0 rfl) (by simp) (by simp) (by simp) HG3.out (by rw [HSL.out]; omega) (stOk_paths HOK.out) (stOk_lens HOK.out).2
                  rw [show ([] : List Pf).map (·.l) = [] from rfl, HX.out] at h; exact h).mono ?_
                rintro e w6 ⟨E1, e1, E2, e2, E3, e3, E4, e4, rfl, hs⟩
                replace HS := HL.call hs
                simp only [List.cons_append, List.nil_append] at HS
                clear hs F HL
                have F := HS.facts; simp only [Own.Facts, Own.Cells, World.size_alloc, List.cons_append, List.nil_append, List.eraseIdx_cons_succ, List.eraseIdx_cons_zero, List.eraseIdx_zero, List.tail_cons, Nat.zero_add] at F
                go_wp2
                have H2 := (((((HS.pick 8 rfl).set 0 (.slice E1 X.1.l.length e1)).set 1 (.slice E2 X.1.c.length e2)).pick 8 rfl).set 0 (.slice E3 X.2.1.l.length e3)).set 1 (.slice E4 X.2.1.c.length e4)
                have H3 := own_take 4 ((H2.drop.drop))
                exact bodyPost_ret (v := .tuple #[.agg #[.slice E1 X.1.l.length e1, .slice E2 X.1.c.length e2], .agg #[.slice E3 X.2.1.l.length e3, .slice E4 X.2.1.c.length e4], .int .i64 X.2.2]) (by simp [results, Tryz.results41, go_sem, *]) rfl ⟨_, _, _, _, _, _, _, _, by rw [HQ.out], by rw [HQ.out]; exact H3⟩
          · cases ok
            · have HQ := Lib.hid (show stR s rep p fl true v = (⟨[], []⟩, ⟨[], []⟩, 3) by unfold stR; rw [if_neg (by simp [ha]), if_neg (by simp [hp, hv2]), if_pos (by simp [HN.out])])
              go_enter Tryz.func41, Tryz.ntmps41
              go_wp2_with fail
              refine (specStateOk s _ _ _ (HS.old h1) (HS.old h2) HW.out).mono ?_; rintro e w1 ⟨rfl, hb⟩; (first | have H' := HS.of_below hb | have H' := HS.drew.of_below hb | have H' := (HS.box0 [_] _).of_below hb | have H' := ((HS.box0 [_] _).box0 [_] _).of_below hb | have H' := (HS.alloc _).of_below hb | have H' := ((HS.alloc _).alloc _).of_below hb); clear HS; have HS := H'; clear H'; have F := HS.facts; simp only [Own.Facts, Own.Cells, World.size_alloc, List.cons_append, List.nil_append, List.eraseIdx_cons_succ, List.eraseIdx_cons_zero, List.eraseIdx_zero, List.tail_cons, Nat.zero_add] at F
              rw [ha]
              clear ha
              go_wp2_with fail
              refine (l3PathOk p _ _ (HS.old h3) HPW.out).mono ?_; rintro e w2 ⟨rfl, hb⟩; (first | have H' := HS.of_below hb | have H' := HS.drew.of_below hb | have H' := (HS.box0 [_] _).of_below hb | have H' := ((HS.box0 [_] _).box0 [_] _).of_below hb | have H' := (HS.alloc _).of_below hb | have H' := ((HS.alloc _).alloc _).of_below hb); clear HS; have HS := H'; clear H'; have F := HS.facts; simp only [Own.Facts, Own.Cells, World.size_alloc, List.cons_append, List.nil_append, List.eraseIdx_cons_succ, List.eraseIdx_cons_zero, List.eraseIdx_zero, List.tail_cons, Nat.zero_add] at F
              rw [hp]
              clear hp
              go_wp2_with fail
              refine (specNextDot s.c rep _ _ (HS.old h2)).mono ?_
              rintro e w3 ⟨rfl, hb⟩
              replace HS := HS.of_below hb
              clear hb F
              rw [HN.out]
              have HS2 := HS.box (b := w3.heap.size) [.int .i64 r, .int .i64 q] 55
              clear HS
              have HS := HS2
              clear HS2
              have F := HS.facts; simp only [Own.Facts, Own.Cells, World.size_alloc, List.cons_append, List.nil_append, List.eraseIdx_cons_succ, List.eraseIdx_cons_zero, List.eraseIdx_zero, List.tail_cons, Nat.zero_add] at F
              go_wp2
              have H2 := (((((HS.pick 2 rfl).set 0 (.slice none 0 0)).set 1 (.slice none 0 0)).pick 2 rfl).set 0 (.slice none 0 0)).set 1 (.slice none 0 0)
              have H3 := ((((H2.drop.drop.drop.drop.nil (α := Rn)).nil (α := Lf)).nil (α := Rn)).nil (α := Lf))
              exact bodyPost_ret (v := .tuple #[.agg #[.slice none 0 0, .slice none 0 0], .agg #[.slice none 0 0, .slice none 0 0], .int .i64 3]) (by simp [results, Tryz.results41, go_sem, *]) rfl ⟨none, 0, none, 0, none, 0, none, 0, by rw [HQ.out]; rfl, by rw [HQ.out]; exact H3⟩
            · obtain ⟨X, hX⟩ : ∃ X, chR s (setB fl p) [(⟨p, fl, r, q, v⟩ : Lf)] = X := ⟨_, rfl⟩
              have HQ := Lib.hid (show stR s rep p fl true v = X by unfold stR stP; rw [if_neg (by simp [ha]), if_neg (by simp [hp, hv2]), if_neg (by simp [hr1, hr2, HN.out]), if_pos rfl, HN.out]; exact hX)
              have HX := Lib.hid hX
              have HOK := Lib.hid ha
              have hpl : p.length ≤ 1048576 := by
                have h8 := hp
                unfold pathOk at h8
                simp only [Bool.and_eq_true, decide_eq_true_eq] at h8
                omega
              obtain ⟨zs, hz, hatz, hpf⟩ := rd_pf h1
              have hl : s.l.length = zs.length := by rw [← hz]; simp
              have hn : zs.length ≤ 1000 := by rw [← hl]; exact stOk_len' ha
              have HZ := Lib.hid hz
              have HAT := Lib.hid hatz
              have HSL := Lib.hid hl
              rw [hl] at HS hpf h1 H1
              rw [hl]
              clear hX hz hatz hl
              go_enter Tryz.func41, Tryz.ntmps41
              go_wp2_with fail
              refine (specStateOk s _ _ _ (HS.old h1) (HS.old h2) HW.out).mono ?_; rintro e w1 ⟨rfl, hb⟩; (first | have H' := HS.of_below hb | have H' := HS.drew.of_below hb | have H' := (HS.box0 [_] _).of_below hb | have H' := ((HS.box0 [_] _).box0 [_] _).of_below hb | have H' := (HS.alloc _).of_below hb | have H' := ((HS.alloc _).alloc _).of_below hb); clear HS; have HS := H'; clear H'; have F := HS.facts; simp only [Own.Facts, Own.Cells, World.size_alloc, List.cons_append, List.nil_append, List.eraseIdx_cons_succ, List.eraseIdx_cons_zero, List.eraseIdx_zero, List.tail_cons, Nat.zero_add] at F
              rw [ha]
              clear ha
              go_wp2_with fail
              refine (l3PathOk p _ _ (HS.old h3) HPW.out).mono ?_; rintro e w2 ⟨rfl, hb⟩; (first | have H' := HS.of_below hb | have H' := HS.drew.of_below hb | have H' := (HS.box0 [_] _).of_below hb | have H' := ((HS.box0 [_] _).box0 [_] _).of_below hb | have H' := (HS.alloc _).of_below hb | have H' := ((HS.alloc _).alloc _).of_below hb); clear HS; have HS := H'; clear H'; have F := HS.facts; simp only [Own.Facts, Own.Cells, World.size_alloc, List.cons_append, List.nil_append, List.eraseIdx_cons_succ, List.eraseIdx_cons_zero, List.eraseIdx_zero, List.tail_cons, Nat.zero_add] at F
              rw [hp]
              clear hp
              go_wp2_with fail
              refine (specNextDot s.c rep _ _ (HS.old h2)).mono ?_
              rintro e w3 ⟨rfl, hb⟩
              replace HS := HS.of_below hb
              clear hb F
              rw [HN.out]
              have HS2 := HS.box (b := w3.heap.size) [.int .i64 r, .int .i64 q] 55
              clear HS
              have HS := HS2
              clear HS2
              have F := HS.facts; simp only [Own.Facts, Own.Cells, World.size_alloc, List.cons_append, List.nil_append, List.eraseIdx_cons_succ, List.eraseIdx_cons_zero, List.eraseIdx_zero, List.tail_cons, Nat.zero_add] at F
              obtain ⟨sz, hsz⟩ : ∃ n, w.heap.size = n := ⟨_, rfl⟩
              obtain ⟨bo, hbo⟩ : ∃ n, w3.heap.size = n := ⟨_, rfl⟩
              rw [hsz, hbo] at HS
              clear F
              have HL0 := HS.lit ([] : List Bool) #[] 4 rfl rfl (by simp)
              have F := HS.facts; simp only [Own.Facts, Own.Cells, World.size_alloc, List.cons_append, List.nil_append, List.eraseIdx_cons_succ, List.eraseIdx_cons_zero, List.eraseIdx_zero, List.tail_cons, Nat.zero_add] at F
              go_wp2
              try simp only [hsz, hbo]
              simp only [World.size_alloc, hbo, List.length_nil] at HL0
              clear hsz hbo
              go_loopw [17, 18] (fun u x wr => ∃ (gs : List Bool), x = .int .i64 gs.length ∧ gs.length ≤ zs.length ∧ Hid (gs = (zs.take gs.length).map fun z => setB fl p z.l) ∧ Own w [.own u gs, .box bo 55 [.int .i64 r, .int .i64 q], .box (sz + 1 + 1) 36 [.slice none 0 0, .slice none 0 0], .box (sz + 1) 36 [.slice none 0 0, .slice none 0 0], .box sz 36 [.slice A1 zs.length c1, .slice A2 s.c.length c2]] wr) (fun _ x _ => zs.length - (intOf x).toNat)
              case atStart => exact ⟨[], rfl, by simp, Lib.hid (by simp), HL0⟩
              case round =>
                obtain ⟨gs, rfl, hgl, HG, HS'⟩ := hrel
                clear HS HL0
                have HS := HS'
                clear HS'
                obtain ⟨Ag, cg, rfl, _, _⟩ := (HS.rd 0 rfl).val
                have F := HS.facts; simp only [Own.Facts, Own.Cells, World.size_alloc, List.cons_append, List.nil_append, List.eraseIdx_cons_succ, List.eraseIdx_cons_zero, List.eraseIdx_zero, List.tail_cons, Nat.zero_add] at F
                by_cases hlt : gs.length < zs.length
                · obtain ⟨b1, o1, rfl⟩ := hpf.fix (by omega)
                  have hcell := Pf.cells (HS.old hpf) gs.length hlt
                  have HCZ := Lib.hid (fun (wq : World) (H : Own w [] wq) => Pf.cells (H.old hpf) gs.length hlt)
                  obtain ⟨z, hzz⟩ : ∃ z, zs[gs.length] = z := ⟨_, rfl⟩
                  have hat := HAT.out zs[gs.length] (List.getElem_mem hlt)
                  rw [hzz] at hat hcell
                  simp only [hzz] at HCZ
                  have HG2 := Lib.hid (show gs ++ [setB fl p z.l] = (zs.take (gs.length + 1)).map fun z => setB fl p z.l by rw [List.take_succ_eq_append_getElem hlt, List.map_append, ← HG.out, hzz]; rfl)
                  clear hzz
                  obtain ⟨⟨Az, nz, cz⟩, ⟨zp, zf, zr, zd, zv⟩⟩ := z
                  obtain rfl : nz = zp.length := hat.len
                  simp only [Pf.at_, Sv.v] at hat hcell HCZ
                  have HC := Lib.hid (cmpP_eq zp p)
                  obtain ⟨gb, hgb⟩ : ∃ g, setB fl p ⟨zp, zf, zr, zd, zv⟩ = g := ⟨_, rfl⟩
                  simp only [hgb] at HG2
                  have HGB := Lib.hid hgb
                  clear hgb
                  by_cases h0 : cmpP zp p = 0
                  · have hgb2 : (zf == fl) = gb := by rw [← HGB.out]; unfold setB; rw [decide_eq_true (HC.out.1 h0), Bool.and_true]
                    have HGC := Lib.hid hgb2
                    go_wp2_with fail
                    refine (l3Cmp zp p _ _ _ (HS.old hat) (HS.old h3)).mono ?_; rintro e w4 ⟨rfl, hb⟩; (first | have H' := HS.of_below hb | have H' := HS.drew.of_below hb | have H' := (HS.box0 [_] _).of_below hb | have H' := ((HS.box0 [_] _).box0 [_] _).of_below hb | have H' := (HS.alloc _).of_below hb | have H' := ((HS.alloc _).alloc _).of_below hb); clear HS; have HS := H'; clear H'; have F := HS.facts; simp only [Own.Facts, Own.Cells, World.size_alloc, List.cons_append, List.nil_append, List.eraseIdx_cons_succ, List.eraseIdx_cons_zero, List.eraseIdx_zero, List.tail_cons, Nat.zero_add] at F
                    rw [h0]
                    have hcell := HCZ.out _ (own_take 0 HS)
                    have hgb3 : decide (zf = fl) = gb := by rw [← hgb2]; cases zf <;> cases fl <;> rfl
                    have HL := (HS.lit [gb] #[.bool gb] 4 rfl rfl (by simp)).pick 1 rfl
                    go_wp2_with (at_builtin; refine wp_app (α := Bool) rfl _ _ 53 rfl (by kernel_rfl) _ _ HL rfl _ _ rfl (HL.rd 1 rfl) (by show (_ + 1) * 1 ≤ _; omega) (by show _ + 1 ≤ _; omega) ?_; clear HL; intro v2 w5 HL)
                    have HS2 := (HL.pick 1 rfl).drop
                    go_roundw
                    case rel => exact ⟨gs ++ [gb], by first | (simp; done) | (rw [List.length_append]; rfl) | go_num, by simp only [List.length_append, List.length_cons, List.length_nil]; omega, Lib.hid (by simpa using HG2.out), HS2⟩
                    case measure => simp [intOf]; omega
                  · have h0x : cmpP zp p = -1 ∨ cmpP zp p = 1 := (cmpP_range zp p).resolve_left h0
                    have hgb2 : gb = false := by rw [← HGB.out]; unfold setB; rw [decide_eq_false (fun h => h0 (HC.out.2 h)), Bool.and_false]
                    have HGF := Lib.hid hgb2
                    clear hgb2
                    clear h0
                    rcases h0x with h0 | h0
                    all_goals
                      go_wp2_with fail
                      refine (l3Cmp zp p _ _ _ (HS.old hat) (HS.old h3)).mono ?_; rintro e w4 ⟨rfl, hb⟩; (first | have H' := HS.of_below hb | have H' := HS.drew.of_below hb | have H' := (HS.box0 [_] _).of_below hb | have H' := ((HS.box0 [_] _).box0 [_] _).of_below hb | have H' := (HS.alloc _).of_below hb | have H' := ((HS.alloc _).alloc _).of_below hb); clear HS; have HS := H'; clear H'; have F := HS.facts; simp only [Own.Facts, Own.Cells, World.size_alloc, List.cons_append, List.nil_append, List.eraseIdx_cons_succ, List.eraseIdx_cons_zero, List.eraseIdx_zero, List.tail_cons, Nat.zero_add] at F
                      rw [h0]
                      have HL := (HS.lit [gb] #[.bool false] 4 rfl (by rw [HGF.out]; rfl) (by simp)).pick 1 rfl
                      go_wp2_with (at_builtin; refine wp_app (α := Bool) rfl _ _ 53 rfl (by kernel_rfl) _ _ HL rfl _ _ rfl (HL.rd 1 rfl) (by show (_ + 1) * 1 ≤ _; omega) (by show _ + 1 ≤ _; omega) ?_; clear HL; intro v2 w5 HL)
                      have HS2 := (HL.pick 1 rfl).drop
                      go_roundw
                      case rel => exact ⟨gs ++ [gb], by first | (simp; done) | (rw [List.length_append]; rfl) | go_num, by simp only [List.length_append, List.length_cons, List.length_nil]; omega, Lib.hid (by simpa using HG2.out), HS2⟩
                      case measure => simp [intOf]; omega
                · have hgz : gs.length = zs.length := by omega
                  have HG3 := Lib.hid (show gs = s.l.map (setB fl p) by have := HG.out; rw [hgz, List.take_length] at this; rw [this, ← HZ.out, List.map_map]; rfl)
                  clear F
                  rw [hgz] at HS ⊢
                  clear hgz hlt hgl HG
                  have F := HS.facts; simp only [Own.Facts, Own.Cells, World.size_alloc, List.cons_append, List.nil_append, List.eraseIdx_cons_succ, List.eraseIdx_cons_zero, List.eraseIdx_zero, List.tail_cons, Nat.zero_add] at F
                  have HL0 := ((HS.lit ([] : List Pf) #[] 57 rfl rfl (by simp)).lit [(⟨⟨A3, p.length, c3⟩, ⟨p, fl, r, q, v⟩⟩ : Pf)] #[.slice A3 p.length c3, .bool fl, .int .i64 r, .int .i64 q, .string v] 57 rfl rfl (by simp)).pick 1 rfl
                  simp only [World.size_alloc, List.eraseIdx_cons_succ, List.eraseIdx_cons_zero] at HL0
                  go_wp2_with (at_builtin; refine wp_app (α := Pf) rfl _ _ 31 rfl (by kernel_rfl) _ _ HL0 rfl _ _ rfl (HL0.rd 1 rfl) (by show (_ + 1) * 64 ≤ _; simp) (by show _ + 1 ≤ _; simp) ?_; clear HL0; intro u5 w5 HL; obtain ⟨A5, c5, rfl, _, _⟩ := (HL.rd 0 rfl).val; clear F; have F := HL.facts; simp only [Own.Facts, Own.Cells, Nat.zero_add, World.size_alloc] at F)
                  simp only [List.nil_append] at HL
                  refine (show Calls Tryz.prog 26 _ _ (fun e w' => ∃ A c A2 c2 A3 c3 A4 c4, e = .returned (.tuple #[.agg #[.slice A X.1.l.length c, .slice A2 X.1.c.length c2], .agg #[.slice A3 X.2.1.l.length c3, .slice A4 X.2.1.c.length c4], .int .i64 X.2.2]) ∧
                        Own _ [.own (.slice A X.1.l.length c) X.1.l, .own (.slice A2 X.1.c.length c2) X.1.c, .own (.slice A3 X.2.1.l.length c3) X.2.1.l, .own (.slice A4 X.2.1.c.length c4) X.2.1.c] w') from by
                    have h := l3ChangeG s (setB fl p) gs [(⟨⟨A3, p.length, c3⟩, ⟨p, fl, r, q, v⟩⟩ : Pf)] _ _ _ _ _ (HL.old H1) (HL.old h2) (HL.rd 2 rfl) (HL.rd 0 rfl) (by intro y hy; rw [List.mem_singleton] at hy; subst hy; exact HL.old h3) (by intro y hy; rw [List.mem_singleton] at hy; subst hy; exact hpl) (by simp) HG3.out (by rw [HSL.out]; omega) (stOk_paths HOK.out) (stOk_lens HOK.out).2
                    rw [show ([(⟨⟨A3, p.length, c3⟩, ⟨p, fl, r, q, v⟩⟩ : Pf)].map (·.l)) = [(⟨p, fl, r, q, v⟩ : Lf)] from rfl, HX.out] at h; exact h).mono ?_
                  rintro e w6 ⟨E1, e1, E2, e2, E3, e3, E4, e4, rfl, hs⟩
                  replace HS := HL.call hs
                  simp only [List.cons_append, List.nil_append] at HS
                  clear hs HL
                  have F := HS.facts; simp only [Own.Facts, Own.Cells, World.size_alloc, List.cons_append, List.nil_append, List.eraseIdx_cons_succ, List.eraseIdx_cons_zero, List.eraseIdx_zero, List.tail_cons, Nat.zero_add] at F
                  go_wp2
                  have H2 := (((((HS.pick 9 rfl).set 0 (.slice E1 X.1.l.length e1)).set 1 (.slice E2 X.1.c.length e2)).pick 9 rfl).set 0 (.slice E3 X.2.1.l.length e3)).set 1 (.slice E4 X.2.1.c.length e4)
                  have H3 := own_take 4 ((H2.drop.drop))
                  exact bodyPost_ret (v := .tuple #[.agg #[.slice E1 X.1.l.length e1, .slice E2 X.1.c.length e2], .agg #[.slice E3 X.2.1.l.length e3, .slice E4 X.2.1.c.length e4], .int .i64 X.2.2]) (by simp [results, Tryz.results41, go_sem, *]) rfl ⟨_, _, _, _, _, _, _, _, by rw [HQ.out], by rw [HQ.out]; exact H3⟩
        · have HQ := Lib.hid (show stR s rep p fl on v = (⟨[], []⟩, ⟨[], []⟩, 3) by unfold stR; rw [if_neg (by simp [ha]), if_neg (by simp [hp, hv2]), if_pos (by simp [hr])])
          have hr3 : rep < 0 ∨ 8 ≤ rep := by omega
          clear hr
          rcases hr3 with hr3 | hr3
          all_goals
            go_enter Tryz.func41, Tryz.ntmps41
            go_wp2_with fail
            refine (specStateOk s _ _ _ (HS.old h1) (HS.old h2) HW.out).mono ?_; rintro e w1 ⟨rfl, hb⟩; (first | have H' := HS.of_below hb | have H' := HS.drew.of_below hb | have H' := (HS.box0 [_] _).of_below hb | have H' := ((HS.box0 [_] _).box0 [_] _).of_below hb | have H' := (HS.alloc _).of_below hb | have H' := ((HS.alloc _).alloc _).of_below hb); clear HS; have HS := H'; clear H'; have F := HS.facts; simp only [Own.Facts, Own.Cells, World.size_alloc, List.cons_append, List.nil_append, List.eraseIdx_cons_succ, List.eraseIdx_cons_zero, List.eraseIdx_zero, List.tail_cons, Nat.zero_add] at F
            rw [ha]
            clear ha
            go_wp2_with fail
            refine (l3PathOk p _ _ (HS.old h3) HPW.out).mono ?_; rintro e w2 ⟨rfl, hb⟩; (first | have H' := HS.of_below hb | have H' := HS.drew.of_below hb | have H' := (HS.box0 [_] _).of_below hb | have H' := ((HS.box0 [_] _).box0 [_] _).of_below hb | have H' := (HS.alloc _).of_below hb | have H' := ((HS.alloc _).alloc _).of_below hb); clear HS; have HS := H'; clear H'; have F := HS.facts; simp only [Own.Facts, Own.Cells, World.size_alloc, List.cons_append, List.nil_append, List.eraseIdx_cons_succ, List.eraseIdx_cons_zero, List.eraseIdx_zero, List.tail_cons, Nat.zero_add] at F
            rw [hp]
            clear hp
            go_wp2_with fail
            refine (specNextDot s.c rep _ _ (HS.old h2)).mono ?_
            rintro e w3 ⟨rfl, hb⟩
            replace HS := HS.of_below hb
            clear hb F
            rw [HN.out]
            have HS2 := HS.box (b := w3.heap.size) [.int .i64 r, .int .i64 q] 55
            clear HS
            have HS := HS2
            clear HS2
            have F := HS.facts; simp only [Own.Facts, Own.Cells, World.size_alloc, List.cons_append, List.nil_append, List.eraseIdx_cons_succ, List.eraseIdx_cons_zero, List.eraseIdx_zero, List.tail_cons, Nat.zero_add] at F
            go_wp2
            have H2 := (((((HS.pick 2 rfl).set 0 (.slice none 0 0)).set 1 (.slice none 0 0)).pick 2 rfl).set 0 (.slice none 0 0)).set 1 (.slice none 0 0)
            have H3 := ((((H2.drop.drop.drop.drop.nil (α := Rn)).nil (α := Lf)).nil (α := Rn)).nil (α := Lf))
            exact bodyPost_ret (v := .tuple #[.agg #[.slice none 0 0, .slice none 0 0], .agg #[.slice none 0 0, .slice none 0 0], .int .i64 3]) (by simp [results, Tryz.results41, go_sem, *]) rfl ⟨none, 0, none, 0, none, 0, none, 0, by rw [HQ.out]; rfl, by rw [HQ.out]; exact H3⟩
      · have HQ := Lib.hid (show stR s rep p fl on v = (⟨[], []⟩, ⟨[], []⟩, 2) by unfold stR; rw [if_neg (by simp [ha]), if_pos (by simp [hv2])])
        go_enter Tryz.func41, Tryz.ntmps41
        go_wp2_with fail
        refine (specStateOk s _ _ _ (HS.old h1) (HS.old h2) HW.out).mono ?_; rintro e w1 ⟨rfl, hb⟩; (first | have H' := HS.of_below hb | have H' := HS.drew.of_below hb | have H' := (HS.box0 [_] _).of_below hb | have H' := ((HS.box0 [_] _).box0 [_] _).of_below hb | have H' := (HS.alloc _).of_below hb | have H' := ((HS.alloc _).alloc _).of_below hb); clear HS; have HS := H'; clear H'; have F := HS.facts; simp only [Own.Facts, Own.Cells, World.size_alloc, List.cons_append, List.nil_append, List.eraseIdx_cons_succ, List.eraseIdx_cons_zero, List.eraseIdx_zero, List.tail_cons, Nat.zero_add] at F
        rw [ha]
        clear ha
        go_wp2_with fail
        refine (l3PathOk p _ _ (HS.old h3) HPW.out).mono ?_; rintro e w2 ⟨rfl, hb⟩; (first | have H' := HS.of_below hb | have H' := HS.drew.of_below hb | have H' := (HS.box0 [_] _).of_below hb | have H' := ((HS.box0 [_] _).box0 [_] _).of_below hb | have H' := (HS.alloc _).of_below hb | have H' := ((HS.alloc _).alloc _).of_below hb); clear HS; have HS := H'; clear H'; have F := HS.facts; simp only [Own.Facts, Own.Cells, World.size_alloc, List.cons_append, List.nil_append, List.eraseIdx_cons_succ, List.eraseIdx_cons_zero, List.eraseIdx_zero, List.tail_cons, Nat.zero_add] at F
        rw [hp]
        clear hp
        go_wp2
        have H2 := (((((HS.pick 1 rfl).set 0 (.slice none 0 0)).set 1 (.slice none 0 0)).pick 1 rfl).set 0 (.slice none 0 0)).set 1 (.slice none 0 0)
        have H3 := ((((H2.drop.drop.drop.nil (α := Rn)).nil (α := Lf)).nil (α := Rn)).nil (α := Lf))
        exact bodyPost_ret (v := .tuple #[.agg #[.slice none 0 0, .slice none 0 0], .agg #[.slice none 0 0, .slice none 0 0], .int .i64 2]) (by simp [results, Tryz.results41, go_sem, *]) rfl ⟨none, 0, none, 0, none, 0, none, 0, by rw [HQ.out]; rfl, by rw [HQ.out]; exact H3⟩
set_option maxHeartbeats 8000000 in
theorem specSetFlag (s : St) (rep : Int) (p : List ByteArray) (on : Bool) (vl vc vp : Value) (w : World) (h1 : Rd w vl s.l) (h2 : Rd w vc s.c) (h3 : Rd w vp p) (hw : ∀ y ∈ s.l, LfW y) (hpw : ∀ x ∈ p, x.size ≤ 140737488351232) (hrep : -9223372036854775808 ≤ rep ∧ rep ≤ 9223372036854775807) :
    Calls Tryz.prog 17 #[.agg #[vl, vc], .int .i64 rep, vp, .bool on] w fun e w' => ∃ A c A2 c2 A3 c3 A4 c4, e = .returned (.tuple #[.agg #[.slice A (stR s rep p true on ByteArray.empty).1.l.length c, .slice A2 (stR s rep p true on ByteArray.empty).1.c.length c2], .agg #[.slice A3 (stR s rep p true on ByteArray.empty).2.1.l.length c3, .slice A4 (stR s rep p true on ByteArray.empty).2.1.c.length c4], .int .i64 (stR s rep p true on ByteArray.empty).2.2]) ∧
      Own w [.own (.slice A (stR s rep p true on ByteArray.empty).1.l.length c) (stR s rep p true on ByteArray.empty).1.l, .own (.slice A2 (stR s rep p true on ByteArray.empty).1.c.length c2) (stR s rep p true on ByteArray.empty).1.c, .own (.slice A3 (stR s rep p true on ByteArray.empty).2.1.l.length c3) (stR s rep p true on ByteArray.empty).2.1.l, .own (.slice A4 (stR s rep p true on ByteArray.empty).2.1.c.length c4) (stR s rep p true on ByteArray.empty).2.1.c] w' := by
  obtain ⟨A1, c1, rfl, _, _⟩ := h1.val
  obtain ⟨A2, c2, rfl, _, _⟩ := h2.val
  obtain ⟨A3, c3, rfl, _, _⟩ := h3.val
  have HW := Lib.hid hw
  have HPW := Lib.hid hpw
  clear hw hpw
  obtain ⟨X, hX⟩ : ∃ X, stR s rep p true on ByteArray.empty = X := ⟨_, rfl⟩
  rw [hX]
  have HX := Lib.hid hX
  clear hX
  have HS := (((Own.start w).box [.slice A1 s.l.length c1, .slice A2 s.c.length c2] 36).box (b := w.heap.size + 1) [.slice none 0 0, .slice none 0 0] 36).box (b := w.heap.size + 1 + 1) [.slice none 0 0, .slice none 0 0] 36
  go_enter Tryz.func17, Tryz.ntmps17
  go_wp2_with fail
  refine (show Calls Tryz.prog 41 _ _ (fun e w' => ∃ A c A2 c2 A3 c3 A4 c4, e = .returned (.tuple #[.agg #[.slice A X.1.l.length c, .slice A2 X.1.c.length c2], .agg #[.slice A3 X.2.1.l.length c3, .slice A4 X.2.1.c.length c4], .int .i64 X.2.2]) ∧
      Own _ [.own (.slice A X.1.l.length c) X.1.l, .own (.slice A2 X.1.c.length c2) X.1.c, .own (.slice A3 X.2.1.l.length c3) X.2.1.l, .own (.slice A4 X.2.1.c.length c4) X.2.1.c] w') from by
    have h := l3Set s rep p true on ByteArray.empty _ _ _ _ (HS.old h1) (HS.old h2) (HS.old h3) HW.out HPW.out hrep (by simp)
    rw [HX.out] at h; exact h).mono ?_
  rintro e w9 ⟨E1, e1, E2, e2, E3, e3, E4, e4, rfl, hs⟩
  replace HS := HS.call hs
  simp only [List.cons_append, List.nil_append] at HS
  clear hs
  have F := HS.facts; simp only [Own.Facts, Own.Cells, World.size_alloc, List.cons_append, List.nil_append, List.eraseIdx_cons_succ, List.eraseIdx_cons_zero, List.eraseIdx_zero, List.tail_cons, Nat.zero_add] at F
  go_wp2
  have H2 := (((((HS.pick 5 rfl).set 0 (.slice E1 X.1.l.length e1)).set 1 (.slice E2 X.1.c.length e2)).pick 5 rfl).set 0 (.slice E3 X.2.1.l.length e3)).set 1 (.slice E4 X.2.1.c.length e4)
  have H3 := own_take 4 ((H2.drop.drop))
  exact bodyPost_ret (v := .tuple #[.agg #[.slice E1 X.1.l.length e1, .slice E2 X.1.c.length e2], .agg #[.slice E3 X.2.1.l.length e3, .slice E4 X.2.1.c.length e4], .int .i64 X.2.2]) (by simp [results, Tryz.results17, go_sem, *]) rfl ⟨_, _, _, _, _, _, _, _, rfl, H3⟩
set_option maxHeartbeats 8000000 in
theorem specWriteReg (s : St) (rep : Int) (p : List ByteArray) (v : ByteArray) (vl vc vp : Value) (w : World) (h1 : Rd w vl s.l) (h2 : Rd w vc s.c) (h3 : Rd w vp p) (hw : ∀ y ∈ s.l, LfW y) (hpw : ∀ x ∈ p, x.size ≤ 140737488351232) (hrep : -9223372036854775808 ≤ rep ∧ rep ≤ 9223372036854775807) (hv : v.size ≤ 140737488351232) :
    Calls Tryz.prog 19 #[.agg #[vl, vc], .int .i64 rep, vp, .string v] w fun e w' => ∃ A c A2 c2 A3 c3 A4 c4, e = .returned (.tuple #[.agg #[.slice A (stR s rep p false true v).1.l.length c, .slice A2 (stR s rep p false true v).1.c.length c2], .agg #[.slice A3 (stR s rep p false true v).2.1.l.length c3, .slice A4 (stR s rep p false true v).2.1.c.length c4], .int .i64 (stR s rep p false true v).2.2]) ∧
      Own w [.own (.slice A (stR s rep p false true v).1.l.length c) (stR s rep p false true v).1.l, .own (.slice A2 (stR s rep p false true v).1.c.length c2) (stR s rep p false true v).1.c, .own (.slice A3 (stR s rep p false true v).2.1.l.length c3) (stR s rep p false true v).2.1.l, .own (.slice A4 (stR s rep p false true v).2.1.c.length c4) (stR s rep p false true v).2.1.c] w' := by
  obtain ⟨A1, c1, rfl, _, _⟩ := h1.val
  obtain ⟨A2, c2, rfl, _, _⟩ := h2.val
  obtain ⟨A3, c3, rfl, _, _⟩ := h3.val
  have HW := Lib.hid hw
  have HPW := Lib.hid hpw
  clear hw hpw
  obtain ⟨X, hX⟩ : ∃ X, stR s rep p false true v = X := ⟨_, rfl⟩
  rw [hX]
  have HX := Lib.hid hX
  clear hX
  have HS := (((Own.start w).box [.slice A1 s.l.length c1, .slice A2 s.c.length c2] 36).box (b := w.heap.size + 1) [.slice none 0 0, .slice none 0 0] 36).box (b := w.heap.size + 1 + 1) [.slice none 0 0, .slice none 0 0] 36
  go_enter Tryz.func19, Tryz.ntmps19
  go_wp2_with fail
  refine (show Calls Tryz.prog 41 _ _ (fun e w' => ∃ A c A2 c2 A3 c3 A4 c4, e = .returned (.tuple #[.agg #[.slice A X.1.l.length c, .slice A2 X.1.c.length c2], .agg #[.slice A3 X.2.1.l.length c3, .slice A4 X.2.1.c.length c4], .int .i64 X.2.2]) ∧
      Own _ [.own (.slice A X.1.l.length c) X.1.l, .own (.slice A2 X.1.c.length c2) X.1.c, .own (.slice A3 X.2.1.l.length c3) X.2.1.l, .own (.slice A4 X.2.1.c.length c4) X.2.1.c] w') from by
    have h := l3Set s rep p false true v _ _ _ _ (HS.old h1) (HS.old h2) (HS.old h3) HW.out HPW.out hrep hv
    rw [HX.out] at h; exact h).mono ?_
  rintro e w9 ⟨E1, e1, E2, e2, E3, e3, E4, e4, rfl, hs⟩
  replace HS := HS.call hs
  simp only [List.cons_append, List.nil_append] at HS
  clear hs
  have F := HS.facts; simp only [Own.Facts, Own.Cells, World.size_alloc, List.cons_append, List.nil_append, List.eraseIdx_cons_succ, List.eraseIdx_cons_zero, List.eraseIdx_zero, List.tail_cons, Nat.zero_add] at F
  go_wp2
  have H2 := (((((HS.pick 5 rfl).set 0 (.slice E1 X.1.l.length e1)).set 1 (.slice E2 X.1.c.length e2)).pick 5 rfl).set 0 (.slice E3 X.2.1.l.length e3)).set 1 (.slice E4 X.2.1.c.length e4)
  have H3 := own_take 4 ((H2.drop.drop))
  exact bodyPost_ret (v := .tuple #[.agg #[.slice E1 X.1.l.length e1, .slice E2 X.1.c.length e2], .agg #[.slice E3 X.2.1.l.length e3, .slice E4 X.2.1.c.length e4], .int .i64 X.2.2]) (by simp [results, Tryz.results19, go_sem, *]) rfl ⟨_, _, _, _, _, _, _, _, rfl, H3⟩

end Go.Proofs.YtkafflbakgkpcaaGreat
