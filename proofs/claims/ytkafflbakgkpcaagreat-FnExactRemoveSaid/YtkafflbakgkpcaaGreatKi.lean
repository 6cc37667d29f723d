/- The reference's Remove: the row of the marked leaves. -/
import Derived.Test.YtkafflbakgkpcaaGreatKe
import Derived.Test.YtkafflbakgkpcaaGreatKh
import Derived.Test.YtkafflbakgkpcaaGreatJ5
namespace Go.Proofs.YtkafflbakgkpcaaGreat
set_option linter.unusedSimpArgs false
set_option linter.unusedVariables false
open Go.RowKit Go.Ow
attribute [local irreducible] wpQuiet
set_option maxRecDepth 100000
instance : Ty Bool := ⟨4⟩
instance : ElZ Tryz.prog Bool := { bytes := 1, info := El.of (by kernel_rfl), zero := false, infoz := ElZ.of (by kernel_rfl) }
set_option maxHeartbeats 16000000 in
theorem specRemove (s : St) (p : List ByteArray) (vl vc vp : Value) (w : World) (h1 : Rd w vl s.l) (h2 : Rd w vc s.c) (h3 : Rd w vp p) (hw : ∀ y ∈ s.l, LfW y) (hpw : ∀ x ∈ p, x.size ≤ 140737488351232) :
    Calls Tryz.prog 8 #[.agg #[vl, vc], vp] w fun e w' => ∃ A c A2 c2 A3 c3 A4 c4, e = .returned (.tuple #[.agg #[.slice A (rmR s p).1.l.length c, .slice A2 (rmR s p).1.c.length c2], .agg #[.slice A3 (rmR s p).2.1.l.length c3, .slice A4 (rmR s p).2.1.c.length c4], .int .i64 (rmR s p).2.2]) ∧
      Own w [.own (.slice A (rmR s p).1.l.length c) (rmR s p).1.l, .own (.slice A2 (rmR s p).1.c.length c2) (rmR s p).1.c, .own (.slice A3 (rmR s p).2.1.l.length c3) (rmR s p).2.1.l, .own (.slice A4 (rmR s p).2.1.c.length c4) (rmR s p).2.1.c] w' := by
  have H1 := h1
  obtain ⟨A1, c1, rfl, _, _⟩ := h1.val
  obtain ⟨A2, c2, rfl, _, _⟩ := h2.val
  obtain ⟨A3, c3, rfl, _, _⟩ := h3.val
  have HW := Lib.hid hw
  have HPW := Lib.hid hpw
  clear hw hpw
  have HS := (((Own.start w).box [.slice A1 s.l.length c1, .slice A2 s.c.length c2] 36).box (b := w.heap.size + 1) [.slice none 0 0, .slice none 0 0] 36).box (b := w.heap.size + 1 + 1) [.slice none 0 0, .slice none 0 0] 36
  cases ha : stOk s
  · have HQ := Lib.hid (show rmR s p = (⟨[], []⟩, ⟨[], []⟩, 1) by unfold rmR; rw [if_pos ha])
    go_enter Tryz.func8, Tryz.ntmps8
    go_wp2_with fail
    refine (specStateOk s _ _ _ (HS.old h1) (HS.old h2) HW.out).mono ?_; rintro e w1 ⟨rfl, hb⟩; (first | have H' := HS.of_below hb | have H' := HS.drew.of_below hb | have H' := (HS.box0 [_] _).of_below hb | have H' := ((HS.box0 [_] _).box0 [_] _).of_below hb | have H' := (HS.alloc _).of_below hb | have H' := ((HS.alloc _).alloc _).of_below hb); clear HS; have HS := H'; clear H'; have F := HS.facts; simp only [Own.Facts, Own.Cells, World.size_alloc, List.cons_append, List.nil_append, List.eraseIdx_cons_succ, List.eraseIdx_cons_zero, List.eraseIdx_zero, List.tail_cons, Nat.zero_add] at F
    rw [ha]
    clear ha
    go_wp2
    have H2 := (((((HS.pick 1 rfl).set 0 (.slice none 0 0)).set 1 (.slice none 0 0)).pick 1 rfl).set 0 (.slice none 0 0)).set 1 (.slice none 0 0)
    have H3 := ((((H2.drop.drop.drop.nil (α := Rn)).nil (α := Lf)).nil (α := Rn)).nil (α := Lf))
    exact bodyPost_ret (v := .tuple #[.agg #[.slice none 0 0, .slice none 0 0], .agg #[.slice none 0 0, .slice none 0 0], .int .i64 1]) (by simp [results, Tryz.results8, go_sem, *]) rfl ⟨none, 0, none, 0, none, 0, none, 0, by rw [HQ.out]; rfl, by rw [HQ.out]; exact H3⟩
  · cases hp : pathOk p
    · have HQ := Lib.hid (show rmR s p = (⟨[], []⟩, ⟨[], []⟩, 2) by unfold rmR; rw [if_neg (by simp [ha]), if_pos hp])
      go_enter Tryz.func8, Tryz.ntmps8
      go_wp2_with fail
      refine (specStateOk s _ _ _ (HS.old h1) (HS.old h2) HW.out).mono ?_; rintro e w1 ⟨rfl, hb⟩; (first | have H' := HS.of_below hb | have H' := HS.drew.of_below hb | have H' := (HS.box0 [_] _).of_below hb | have H' := ((HS.box0 [_] _).box0 [_] _).of_below hb | have H' := (HS.alloc _).of_below hb | have H' := ((HS.alloc _).alloc _).of_below hb); clear HS; have HS := H'; clear H'; have F := HS.facts; simp only [Own.Facts, Own.Cells, World.size_alloc, List.cons_append, List.nil_append, List.eraseIdx_cons_succ, List.eraseIdx_cons_zero, List.eraseIdx_zero, List.tail_cons, Nat.zero_add] at F
      rw [ha]
      clear ha
      go_wp2_with fail
      refine (l3PathOk p _ _ (HS.old h3) HPW.out).mono ?_; rintro e w2 ⟨rfl, hb⟩; (first | have H' := HS.of_below hb | have H' := HS.drew.of_below hb | have H' := (HS.box0 [_] _).of_below hb | have H' := ((HS.box0 [_] _).box0 [_] _).of_below hb | have H' := (HS.alloc _).of_below hb | have H' := ((HS.alloc _).alloc _).of_below hb); clear HS; have HS := H'; clear H'; have F := HS.facts; simp only [Own.Facts, Own.Cells, World.size_alloc, List.cons_append, List.nil_append, List.eraseIdx_cons_succ, List.eraseIdx_cons_zero, List.eraseIdx_zero, List.tail_cons, Nat.zero_add] at F
      rw [hp]
      clear hp
      go_wp2
      have H2 := (((((HS.pick 1 rfl).set 0 (.slice none 0 0)).set 1 (.slice none 0 0)).pick 1 rfl).set 0 (.slice none 0 0)).set 1 (.slice none 0 0)
      have H3 := ((((H2.drop.drop.drop.nil (α := Rn)).nil (α := Lf)).nil (α := Rn)).nil (α := Lf))
      exact bodyPost_ret (v := .tuple #[.agg #[.slice none 0 0, .slice none 0 0], .agg #[.slice none 0 0, .slice none 0 0], .int .i64 2]) (by simp [results, Tryz.results8, go_sem, *]) rfl ⟨none, 0, none, 0, none, 0, none, 0, by rw [HQ.out]; rfl, by rw [HQ.out]; exact H3⟩
    · obtain ⟨X, hX⟩ : ∃ X, chR s (fun x => unB p x.p) [] = X := ⟨_, rfl⟩
      have HQ := Lib.hid (show rmR s p = X by unfold rmR; rw [if_neg (by simp [ha]), if_neg (by simp [hp])]; exact hX)
      have HX := Lib.hid hX
      have HOK := Lib.hid ha
      obtain ⟨zs, hz, hatz, hpf⟩ := rd_pf h1
      have hl : s.l.length = zs.length := by rw [← hz]; simp
      have hn : zs.length ≤ 1000 := by rw [← hl]; exact stOk_len' ha
      have HZ := Lib.hid hz
      have HAT := Lib.hid hatz
      have HSL := Lib.hid hl
      rw [hl] at HS hpf h1 H1
      rw [hl]
      clear hX hz hatz hl
      go_enter Tryz.func8, Tryz.ntmps8
      go_wp2_with fail
      refine (specStateOk s _ _ _ (HS.old h1) (HS.old h2) HW.out).mono ?_; rintro e w1 ⟨rfl, hb⟩; (first | have H' := HS.of_below hb | have H' := HS.drew.of_below hb | have H' := (HS.box0 [_] _).of_below hb | have H' := ((HS.box0 [_] _).box0 [_] _).of_below hb | have H' := (HS.alloc _).of_below hb | have H' := ((HS.alloc _).alloc _).of_below hb); clear HS; have HS := H'; clear H'; have F := HS.facts; simp only [Own.Facts, Own.Cells, World.size_alloc, List.cons_append, List.nil_append, List.eraseIdx_cons_succ, List.eraseIdx_cons_zero, List.eraseIdx_zero, List.tail_cons, Nat.zero_add] at F
      rw [ha]
      clear ha
      go_wp2_with fail
      refine (l3PathOk p _ _ (HS.old h3) HPW.out).mono ?_; rintro e w2 ⟨rfl, hb⟩; (first | have H' := HS.of_below hb | have H' := HS.drew.of_below hb | have H' := (HS.box0 [_] _).of_below hb | have H' := ((HS.box0 [_] _).box0 [_] _).of_below hb | have H' := (HS.alloc _).of_below hb | have H' := ((HS.alloc _).alloc _).of_below hb); clear HS; have HS := H'; clear H'; have F := HS.facts; simp only [Own.Facts, Own.Cells, World.size_alloc, List.cons_append, List.nil_append, List.eraseIdx_cons_succ, List.eraseIdx_cons_zero, List.eraseIdx_zero, List.tail_cons, Nat.zero_add] at F
      rw [hp]
      clear hp
      obtain ⟨sz, hsz⟩ : ∃ n, w.heap.size = n := ⟨_, rfl⟩
      rw [hsz] at HS ⊢
      clear hsz
      have HL0 := HS.lit ([] : List Bool) #[] 4 rfl rfl (by simp)
      go_wp2
      go_loopw [7, 8] (fun v x wr => ∃ (gs : List Bool), x = .int .i64 gs.length ∧ gs.length ≤ zs.length ∧ Hid (gs = (zs.take gs.length).map fun z => unB p z.l.p) ∧ Own w [.own v gs, .box (sz + 1 + 1) 36 [.slice none 0 0, .slice none 0 0], .box (sz + 1) 36 [.slice none 0 0, .slice none 0 0], .box sz 36 [.slice A1 zs.length c1, .slice A2 s.c.length c2]] wr) (fun _ x _ => zs.length - (intOf x).toNat)
      case atStart => exact ⟨[], rfl, by simp, Lib.hid (by simp), HL0⟩
      case round =>
        obtain ⟨gs, rfl, hgl, HG, HS'⟩ := hrel
        clear HS HL0
        have HS := HS'
        clear HS'
        obtain ⟨Ag, cg, rfl, _, _⟩ := (HS.rd 0 rfl).val
        have F := HS.facts; simp only [Own.Facts, Own.Cells, World.size_alloc, List.cons_append, List.nil_append, List.eraseIdx_cons_succ, List.eraseIdx_cons_zero, List.eraseIdx_zero, List.tail_cons, Nat.zero_add] at F
        by_cases hlt : gs.length < zs.length
        · obtain ⟨b1, o1, rfl⟩ := hpf.fix (by omega)
          have hcell := Pf.cells (HS.old hpf) gs.length hlt
          obtain ⟨z, hzz⟩ : ∃ z, zs[gs.length] = z := ⟨_, rfl⟩
          have hat := HAT.out zs[gs.length] (List.getElem_mem hlt)
          rw [hzz] at hat hcell
          have HG2 := Lib.hid (show gs ++ [unB p z.l.p] = (zs.take (gs.length + 1)).map fun z => unB p z.l.p by rw [List.take_succ_eq_append_getElem hlt, List.map_append, ← HG.out, hzz]; rfl)
          clear hzz
          obtain ⟨⟨Az, nz, cz⟩, ⟨zp, zf, zr, zd, zv⟩⟩ := z
          obtain rfl : nz = zp.length := hat.len
          simp only [Pf.at_, Sv.v] at hat hcell
          go_wp2_with fail
          refine (specUnder p zp _ _ _ (HS.old h3) (HS.old hat)).mono ?_; rintro e w3 ⟨rfl, hb⟩; (first | have H' := HS.of_below hb | have H' := HS.drew.of_below hb | have H' := (HS.box0 [_] _).of_below hb | have H' := ((HS.box0 [_] _).box0 [_] _).of_below hb | have H' := (HS.alloc _).of_below hb | have H' := ((HS.alloc _).alloc _).of_below hb); clear HS; have HS := H'; clear H'; have F := HS.facts; simp only [Own.Facts, Own.Cells, World.size_alloc, List.cons_append, List.nil_append, List.eraseIdx_cons_succ, List.eraseIdx_cons_zero, List.eraseIdx_zero, List.tail_cons, Nat.zero_add] at F
          have HL := (HS.lit [unB p zp] #[.bool (unB p zp)] 4 rfl rfl (by simp)).pick 1 rfl
          go_wp2_with (refine wp_app (α := Bool) rfl _ _ 53 rfl (by kernel_rfl) _ _ HL rfl _ _ rfl (HL.rd 1 rfl) (by show (_ + 1) * 1 ≤ _; omega) (by show _ + 1 ≤ _; omega) ?_; clear HL; intro v2 w2 HL)
          have HS2 := (HL.pick 1 rfl).drop
          go_roundw
          case rel => exact ⟨gs ++ [unB p zp], by first | (simp; done) | (rw [List.length_append]; rfl) | go_num, by simp only [List.length_append, List.length_cons, List.length_nil]; omega, Lib.hid (by simpa using HG2.out), HS2⟩
          case measure => simp [intOf]; omega
        · have hgz : gs.length = zs.length := by omega
          have HG3 := Lib.hid (show gs = s.l.map fun x => unB p x.p by have := HG.out; rw [hgz, List.take_length] at this; rw [this, ← HZ.out, List.map_map]; rfl)
          clear F
          rw [hgz] at HS ⊢
          clear hgz hlt hgl HG
          have F := HS.facts; simp only [Own.Facts, Own.Cells, World.size_alloc, List.cons_append, List.nil_append, List.eraseIdx_cons_succ, List.eraseIdx_cons_zero, List.eraseIdx_zero, List.tail_cons, Nat.zero_add] at F
          have HL := HS.lit ([] : List Pf) #[] 57 rfl rfl (by simp)
          go_wp2_with fail
          refine (show Calls Tryz.prog 26 _ _ (fun e w' => ∃ A c A2 c2 A3 c3 A4 c4, e = .returned (.tuple #[.agg #[.slice A X.1.l.length c, .slice A2 X.1.c.length c2], .agg #[.slice A3 X.2.1.l.length c3, .slice A4 X.2.1.c.length c4], .int .i64 X.2.2]) ∧ Own _ [.own (.slice A X.1.l.length c) X.1.l, .own (.slice A2 X.1.c.length c2) X.1.c, .own (.slice A3 X.2.1.l.length c3) X.2.1.l, .own (.slice A4 X.2.1.c.length c4) X.2.1.c] w') from by
            have h := l3ChangeR s (fun x => unB p x.p) gs _ _ _ _ _ (HL.old H1) (HL.old h2) (HL.rd 1 rfl) (HL.rd 0 rfl) HG3.out (by rw [HSL.out]; omega) (stOk_paths HOK.out) (stOk_lens HOK.out).2
            rw [HX.out] at h; exact h).mono ?_
          rintro e w3 ⟨E1, e1, E2, e2, E3, e3, E4, e4, rfl, hs⟩
          replace HS := HL.call hs
          simp only [List.cons_append, List.nil_append] at HS
          clear hs F HL
          have F := HS.facts; simp only [Own.Facts, Own.Cells, World.size_alloc, List.cons_append, List.nil_append, List.eraseIdx_cons_succ, List.eraseIdx_cons_zero, List.eraseIdx_zero, List.tail_cons, Nat.zero_add] at F
          go_wp2
          have H2 := (((((HS.pick 7 rfl).set 0 (.slice E1 X.1.l.length e1)).set 1 (.slice E2 X.1.c.length e2)).pick 7 rfl).set 0 (.slice E3 X.2.1.l.length e3)).set 1 (.slice E4 X.2.1.c.length e4)
          have H3 := own_take 4 ((H2.drop.drop))
          exact bodyPost_ret (v := .tuple #[.agg #[.slice E1 X.1.l.length e1, .slice E2 X.1.c.length e2], .agg #[.slice E3 X.2.1.l.length e3, .slice E4 X.2.1.c.length e4], .int .i64 X.2.2]) (by simp [results, Tryz.results8, go_sem, *]) rfl ⟨_, _, _, _, _, _, _, _, by rw [HQ.out], by rw [HQ.out]; exact H3⟩
end Go.Proofs.YtkafflbakgkpcaaGreat
