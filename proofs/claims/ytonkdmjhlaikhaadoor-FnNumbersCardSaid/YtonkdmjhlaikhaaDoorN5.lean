/- FnNumbers: for all bytes the law returns true, and both arguments' bytes read behind the call as they read before; the listed variables start as the program's text lays them. No condition beyond. -/
import Derived.Test.YtonkdmjhlaikhaaDoorRows
import Derived.Test.YtonkdmjhlaikhaaDoorCards
import Derived.Test.YtonkdmjhlaikhaaDoorTie
import Derived.Test.YtonkdmjhlaikhaaDoorN3
import Derived.Test.YtonkdmjhlaikhaaDoorN4
import Derived.Test.YtonkdmjhlaikhaaDoorLv
import Derived.Test.YtonkdmjhlaikhaaDoorDc
import Derived.SevenTiedAt
namespace Go.Proofs.YtonkdmjhlaikhaaDoor
set_option linter.unusedSimpArgs false
set_option linter.unusedVariables false
open Go.RowKit Go.Ow
attribute [local irreducible] wpQuiet
set_option maxRecDepth 100000
theorem wpAnyH_mono {P : Program} {md : Region.Mode} {ops : Array Oper} {Q : Exit → Act → World → Prop} {S S' : World → Prop} (h : ∀ w, S' w → S w) :
    ∀ (fuel : Nat) (listed : Array Bool) (a : Act) (w : World), wpAnyH P md ops Q S' fuel listed a w → wpAnyH P md ops Q S fuel listed a w
  | 0, _, _, _, h' => h'
  | fuel + 1, _, _, _, h' => ⟨h'.1, fun i hi => wpOp_mono (fun a' w' h2 => ⟨h _ h2.1, wpAnyH_mono h fuel _ a' w' h2.2⟩) (h'.2 i hi)⟩
set_option maxHeartbeats 4000000 in
theorem lawNumbers (a : Addr) (xs ys : List UInt8) (v u : Value) (w : World) (hv : Rd w v xs) (hu : Rd w u ys) (hg : Gl a w) : Calls Tryd.prog 6 #[v, u] w fun e w' => e = .returned (.bool true) ∧ Below w.heap.size w w' := by
  obtain ⟨A, c, rfl, hc, hl⟩ := hv.val
  obtain ⟨B, d, rfl, hd, hm⟩ := hu.val
  by_cases hn : xs.length ≤ 1048576
  · by_cases hn2 : ys.length ≤ 1048576
    · go_enter Tryd.func6, Tryd.ntmps6
      go_wp2_with fail
      refine (drawPutUvarint xs _ _ hv).mono ?_
      rintro e w1 ⟨n, rfl, hnn, hb1⟩
      go_wp2_with fail
      refine (drawPutText xs _ _ (hv.bel hb1)).mono ?_
      rintro e w2 ⟨s, rfl, hs, hb2⟩
      have H2 := ((Own.start w).of_below hb1).of_below hb2
      have H3 := H2.lit ([] : List UInt8) #[] 5 rfl rfl (by simp)
      clear H2 hb1 hb2
      by_cases h100 : ys.length < 100
      · go_wp2_with (first | (refine wp_app2 (α := UInt8) rfl _ _ 22 rfl (by kernel_rfl) _ _ H3 rfl _ _ rfl (H3.old hu) (by show (0 + _) * 1 ≤ _; omega) (by show 0 + _ ≤ _; omega) ?_; clear H3; intro vh hd wh hhd hdl H4; replace hdl : hd.length ≤ 99 := (by simp at hdl; omega); have H5 := (H4.lit ([] : List UInt8) #[] 5 rfl rfl (by simp)); clear H4) | (refine wp_app2 (α := UInt8) rfl _ _ 22 rfl (by kernel_rfl) _ _ H5 rfl _ _ rfl (H5.rd 1 rfl) (by show (0 + _) * 1 ≤ _; omega) (by show 0 + _ ≤ _; omega) ?_; clear H5; intro vp q1 wp hq1 hq1l H6))
        have hl1 : q1.length ≤ 99 := by simp at hq1l; omega
        refine (implPutUvarint n _ hnn).mono ?_
        rintro e w3 ⟨v3, rfl, hs3⟩
        have H7 := (H6.call hs3).pick 1 rfl
        have hul := uv_len10 n hnn
        clear H6 hs3 hq1l
        obtain ⟨un, hun⟩ : ∃ l, uv n = l := ⟨_, rfl⟩
        rw [hun] at H7 hul
        have HUN := Lib.hid hun
        clear hun
        go_wp2_with (refine wp_app2 (α := UInt8) rfl _ _ 22 rfl (by kernel_rfl) _ _ H7 rfl _ _ rfl (H7.rd 1 rfl) (by show (_ + _) * 1 ≤ _; omega) (by omega) ?_; clear H7; intro vb q2 wb hq2 hq2l H8; obtain ⟨Ah, ch, rfl, _, _⟩ := (H8.rd 2 rfl).val)
        have HQ2 := Lib.hid (show q2 = hd ++ uv n by rw [hq2.out, hq1.out, HUN.out]; rfl)
        have HG1 := Lib.hid (show getUv q2 (hd.length : Int) = (n, (q2.length : Int), 0) by rw [HQ2.out]; exact getUv_put hd n hnn)
        have hb9 : ((q2.length : Int) == (hd.length : Int)) = false := by have := uv_pos n; rw [HQ2.out, List.length_append]; simp; omega
        have hr2 := H8.rd 0 rfl
        obtain ⟨Ab, cb, rfl, _, _⟩ := hr2.val
        refine (gU3 (implGetUvarint a q2 (hd.length : Int) _ _ hr2 (hg.own H8))).mono ?_
        rintro e w4 ⟨rfl, hb4⟩
        rw [HG1.out]
        have H9 := (H8.of_below hb4).lit ([] : List UInt8) #[] 5 rfl rfl (by simp)
        clear H8 hb4 hq1 hq2 hq2l
        go_wp2_with (refine wp_app2 (α := UInt8) rfl _ _ 22 rfl (by kernel_rfl) _ _ H9 rfl _ _ rfl (H9.rd 3 rfl) (by show (0 + _) * 1 ≤ _; omega) (by show 0 + _ ≤ _; omega) ?_; clear H9; intro vp2 q3 wp2 hq3 hq3l H10)
        have hl3 : q3.length ≤ 99 := by simp at hq3l; omega
        refine (implPutText s _ (by omega)).mono ?_
        rintro e w5 ⟨v5, rfl, hs5⟩
        have H11 := (H10.call hs5).pick 1 rfl
        have htl : (txt s).length ≤ 4010 := by have := uv_len10 s.size (by omega); have := size_list s; unfold txt; rw [List.length_append]; omega
        clear H10 hs5 hq3l
        obtain ⟨ts, hts⟩ : ∃ l, txt s = l := ⟨_, rfl⟩
        rw [hts] at H11 htl
        have HTS := Lib.hid hts
        clear hts
        go_wp2_with (refine wp_app2 (α := UInt8) rfl _ _ 22 rfl (by kernel_rfl) _ _ H11 rfl _ _ rfl (H11.rd 1 rfl) (by show (_ + _) * 1 ≤ _; omega) (by omega) ?_; clear H11; intro vt q4 wt hq4 hq4l H12)
        have HQ4 := Lib.hid (show q4 = hd ++ txt s by rw [hq4.out, hq3.out, HTS.out]; rfl)
        have HG2 := Lib.hid (show getTx q4 (hd.length : Int) (s.size : Int) = (s, (q4.length : Int), 0) by rw [HQ4.out]; exact getTx_put hd s (by omega))
        have HG3 := Lib.hid (show getTx q4 (hd.length : Int) ((s.size : Int) - 1) = (ByteArray.empty, (hd.length : Int), 4) by rw [HQ4.out]; exact getTx_short hd s (by omega))
        have hr4 := H12.rd 0 rfl
        obtain ⟨At, ct, rfl, _, _⟩ := hr4.val
        refine (gT3 (implGetText a q4 (hd.length : Int) (s.size : Int) _ _ hr4 (hg.own H12) (by omega))).mono ?_
        rintro e w6 ⟨rfl, hb6⟩
        rw [HG2.out]
        have H13 := H12.of_below hb6
        clear H12 hb6 hq3 hq4 hq4l hr4
        go_wp2_with fail
        refine (gT3 (implGetText a q4 (hd.length : Int) ((s.size : Int) - 1) _ _ (H13.rd 0 rfl) (hg.own H13) (by omega))).mono ?_
        rintro e w7 ⟨rfl, hb7⟩
        rw [HG3.out]
        have H14 := H13.of_below hb7
        clear H13 hb7
        go_wp2_with fail
        refine (drawGetUvarint ys _ _ (H14.old hu)).mono ?_
        rintro e w8 ⟨vz, pos, zs, rfl, hzl, hs8⟩
        have H15 := H14.call hs8
        clear H14 hs8
        have hrz := H15.rd 0 rfl
        obtain ⟨Az, cz, rfl, hcz, hlz⟩ := hrz.val
        obtain ⟨g, hgv⟩ : ∃ g, getUv zs pos = g := ⟨_, rfl⟩
        have HGV := Lib.hid (getUv_is_put zs pos)
        rw [hgv] at HGV
        go_wp2_with fail
        refine (gU3 (specGetUvarint zs pos _ _ hrz)).mono ?_
        rintro e w9 ⟨rfl, hb9'⟩
        rw [hgv]
        have H16 := H15.of_below hb9'
        clear H15 hb9' hrz
        go_wp2_with fail
        refine (gU3 (implGetUvarint a zs pos _ _ (H16.rd 0 rfl) (hg.own H16))).mono ?_
        rintro e w10 ⟨rfl, hb10⟩
        rw [hgv]
        have H17 := H16.of_below hb10
        clear H16 hb10 hgv
        by_cases hcd : g.2.2 = 0
        · have hc0 : ((g.2.2 : Int) != 0) = false := by simp; exact hcd
          obtain ⟨p, q, hp, hqe, hpq, hql, hg64, htk⟩ := HGV.out hcd
          obtain ⟨g1, g2, g3⟩ := g
          simp only at hcd hc0 hp hqe hg64 htk
          subst hp hqe hcd
          clear HGV hc0
          obtain ⟨V, hV⟩ : ∃ V, sliced Az p q cz 1 = V := ⟨_, rfl⟩
          obtain ⟨S, hS⟩ : ∃ S : ByteArray, (⟨(uv g1).toArray⟩ : ByteArray) = S := ⟨_, rfl⟩
          have hs1 : ∀ w, (Instr.sliceAt 22 (.slice Az zs.length cz) (some (.int .i64 (p : Int))) (some (.int .i64 (q : Int))) none).run Tryd.prog w = .ok V w := fun w => by
            have := run_subV (P := Tryd.prog) (w := w) (z := 1) Tryd.underlying22 (by kernel_rfl) Az zs.length cz (p : Int) (q : Int) (by omega) (by omega) (by omega)
            rw [this, Int.toNat_natCast, Int.toNat_natCast, hV]
          have hrV : ∀ w, Rd w (.slice Az zs.length cz) zs → Rd w V (uv g1) := fun w h => by
            have := rd_subV h p q hpq hql
            rwa [htk, show sliced Az p q cz (Cd.z UInt8) = V from hV] at this
          have hcv : ∀ (w : World) (v : Value), Rd w v (uv g1) → (convert 22 9 v).run Tryd.prog w = .ok (.string S) w := fun w v h => by
            have := run_cv (P := Tryd.prog) (src := 22) (dst := 9) Tryd.underlying22 Tryd.underlying5 Tryd.underlying9 h
            rwa [hS] at this
          have hc0 := hcv w10.drew V (hrV _ (H17.drew.rd 0 rfl))
          have hc00 := hcv w10 V (hrV _ (H17.rd 0 rfl))
          have HCV := Lib.hid hcv
          have HRV := Lib.hid hrV
          have HGG := Lib.hid hg64
          clear hV hS hcv hrV htk hpq hql hg64 hcz hlz hc hl hm
          go_wp2
          refine wp_region_held_drew (S := fun q => (convert 22 9 V).run Tryd.prog q = .ok (.string S) q) (by kernel_rfl) hc0 (fun hHeld => ?_)
          refine wpAnyH_take (i := 0) (oi := _) (v := ?_) rfl (by kernel_rfl) (by kernel_rfl) (by kernel_rfl) (fun _ _ _ h => h) (Or.inl ⟨by rfl, ?_⟩) (by assumption) ?_
          rotate_left
          · (intro w hSw; (try dsimp only at hSw); go_simp; first | done | with_reducible rfl)
          simp only [Act.put, List.getElem_toArray, List.getElem_cons_zero, List.getElem_cons_succ, List.setIfInBounds_toArray, List.set_cons_zero, List.set_cons_succ]
          refine wpAnyH_take (i := 1) (oi := _) (v := ?_) rfl (by kernel_rfl) (by kernel_rfl) (by kernel_rfl) (fun _ _ _ h => h) (Or.inl ⟨by rfl, ?_⟩) (by assumption) ?_
          rotate_left
          · (intro w hSw; (try dsimp only at hSw); go_simp; first | done | with_reducible rfl)
          simp only [Act.put, List.getElem_toArray, List.getElem_cons_zero, List.getElem_cons_succ, List.setIfInBounds_toArray, List.set_cons_zero, List.set_cons_succ]
          refine wpAnyH_take (i := 2) (oi := _) (v := ?_) rfl (by kernel_rfl) (by kernel_rfl) (by kernel_rfl) (fun _ _ _ h => h) (Or.inl ⟨by rfl, ?_⟩) (by assumption) ?_
          rotate_left
          · (intro w hSw; (try dsimp only at hSw); go_simp; first | done | with_reducible rfl)
          simp only [Act.put, List.getElem_toArray, List.getElem_cons_zero, List.getElem_cons_succ, List.setIfInBounds_toArray, List.set_cons_zero, List.set_cons_succ]
          refine wpAnyH_take (i := 3) (oi := _) (v := ?_) rfl (by kernel_rfl) (by kernel_rfl) (by kernel_rfl) (fun _ _ _ h => h) (Or.inl ⟨by rfl, ?_⟩) (by assumption) ?_
          rotate_left
          · (intro w hSw; (try dsimp only at hSw); go_simp; first | done | with_reducible rfl)
          simp only [Act.put, List.getElem_toArray, List.getElem_cons_zero, List.getElem_cons_succ, List.setIfInBounds_toArray, List.set_cons_zero, List.set_cons_succ]
          refine wpAnyH_take (i := 6) (oi := _) (v := ?_) rfl (by kernel_rfl) (by kernel_rfl) (by kernel_rfl) (fun _ _ _ h => h) (Or.inl ⟨by rfl, ?_⟩) (by assumption) ?_
          rotate_left
          · (intro w hSw; (try dsimp only at hSw); go_simp; first | done | with_reducible rfl)
          simp only [Act.put, List.getElem_toArray, List.getElem_cons_zero, List.getElem_cons_succ, List.setIfInBounds_toArray, List.set_cons_zero, List.set_cons_succ]
          refine wpAnyH_take (i := 7) (oi := _) (v := ?_) rfl (by kernel_rfl) (by kernel_rfl) (by kernel_rfl) (fun _ _ _ h => h) (Or.inl ⟨by rfl, ?_⟩) (by assumption) ?_
          rotate_left
          · (intro w hSw; (try dsimp only at hSw); go_simp; first | done | with_reducible rfl)
          simp only [Act.put, List.getElem_toArray, List.getElem_cons_zero, List.getElem_cons_succ, List.setIfInBounds_toArray, List.set_cons_zero, List.set_cons_succ]
          refine wpAnyH_take (i := 8) (oi := _) (v := ?_) rfl (by kernel_rfl) (by kernel_rfl) (by kernel_rfl) (fun _ _ _ h => h) (Or.inl ⟨by rfl, ?_⟩) (by assumption) ?_
          rotate_left
          · (intro w hSw; (try dsimp only at hSw); go_simp; first | done | with_reducible rfl)
          simp only [Act.put, List.getElem_toArray, List.getElem_cons_zero, List.getElem_cons_succ, List.setIfInBounds_toArray, List.set_cons_zero, List.set_cons_succ]
          refine wpAnyH_take (i := 9) (oi := _) (v := ?_) rfl (by kernel_rfl) (by kernel_rfl) (by kernel_rfl) (fun _ _ _ h => h) (Or.inl ⟨by rfl, ?_⟩) (by assumption) ?_
          rotate_left
          · (intro w hSw; (try dsimp only at hSw); go_simp; first | done | with_reducible rfl)
          simp only [Act.put, List.getElem_toArray, List.getElem_cons_zero, List.getElem_cons_succ, List.setIfInBounds_toArray, List.set_cons_zero, List.set_cons_succ]
          refine wpAnyH_take (i := 10) (oi := _) (v := ?_) rfl (by kernel_rfl) (by kernel_rfl) (by kernel_rfl) (fun _ _ _ h => h) (Or.inl ⟨by rfl, ?_⟩) (by assumption) ?_
          rotate_left
          · (intro w hSw; (try dsimp only at hSw); go_simp; first | done | with_reducible rfl)
          simp only [Act.put, List.getElem_toArray, List.getElem_cons_zero, List.getElem_cons_succ, List.setIfInBounds_toArray, List.set_cons_zero, List.set_cons_succ]
          refine wpAnyH_ready (rs := [4]) (by kernel_rfl) (by simp) (AllReadyH.cons rfl (fun K hK => ?_) AllReadyH.nil)
          go_simp
          go_at_call 22
          refine (implPutUvarint g1 _ HGG.out).mono ?_
          rintro e w11 ⟨v11, rfl, hs11⟩
          have H18 := H17.drew.call hs11
          have hc1 := HCV.out _ _ (H18.rd 0 rfl)
          have hc2 := HCV.out _ _ (HRV.out _ (H18.rd 1 rfl))
          go_wp2_with fail
          refine hK.out _ _ hc2 (fun _ => ?_)
          refine wpAnyH_mono (S' := fun q => q = w11) (fun q h => by rw [h]; exact hc2) _ _ _ _ ?_
          have hHeld2 : (fun q => q = w11) w11 := rfl
          clear hHeld hK
          try simp only [Act.put, List.getElem_toArray, List.getElem_cons_zero, List.getElem_cons_succ, List.setIfInBounds_toArray, List.set_cons_zero, List.set_cons_succ]
          refine wpAnyH_take (i := 5) (oi := _) (v := ?_) rfl (by kernel_rfl) (by kernel_rfl) (by kernel_rfl) (fun _ _ _ h => h) (Or.inl ⟨by rfl, ?_⟩) (by assumption) ?_
          rotate_left
          · (intro w hSw; (try dsimp only at hSw); subst hSw; go_simp; first | done | with_reducible rfl)
          simp only [Act.put, List.getElem_toArray, List.getElem_cons_zero, List.getElem_cons_succ, List.setIfInBounds_toArray, List.set_cons_zero, List.set_cons_succ]
          refine wpAnyH_take (i := 11) (oi := _) (v := ?_) rfl (by kernel_rfl) (by kernel_rfl) (by kernel_rfl) (fun _ _ _ h => h) (Or.inl ⟨by rfl, ?_⟩) (by assumption) ?_
          rotate_left
          · (intro w hSw; (try dsimp only at hSw); subst hSw; go_simp; first | done | with_reducible rfl)
          simp only [Act.put, List.getElem_toArray, List.getElem_cons_zero, List.getElem_cons_succ, List.setIfInBounds_toArray, List.set_cons_zero, List.set_cons_succ]
          refine wpAnyH_take (i := 12) (oi := _) (v := ?_) rfl (by kernel_rfl) (by kernel_rfl) (by kernel_rfl) (fun _ _ _ h => h) (Or.inl ⟨by rfl, ?_⟩) (by assumption) ?_
          rotate_left
          · (intro w hSw; (try dsimp only at hSw); subst hSw; go_simp; first | done | with_reducible rfl)
          simp only [Act.put, List.getElem_toArray, List.getElem_cons_zero, List.getElem_cons_succ, List.setIfInBounds_toArray, List.set_cons_zero, List.set_cons_succ]
          refine wpAnyH_take (i := 13) (oi := _) (v := ?_) rfl (by kernel_rfl) (by kernel_rfl) (by kernel_rfl) (fun _ _ _ h => h) (Or.inl ⟨by rfl, ?_⟩) (by assumption) ?_
          rotate_left
          · (intro w hSw; (try dsimp only at hSw); subst hSw; go_simp; first | done | with_reducible rfl)
          simp only [Act.put, List.getElem_toArray, List.getElem_cons_zero, List.getElem_cons_succ, List.setIfInBounds_toArray, List.set_cons_zero, List.set_cons_succ]
          refine wpAnyH_done (by kernel_rfl) ?_ _
          go_wp2
          go_ret
          exact ⟨rfl, H18.below⟩
        · have hc0 : ((g.2.2 : Int) != 0) = true := by simp; exact hcd
          go_wp2
          (refine wp_region_ext (by kernel_rfl) (by kernel_rfl) ?_; (repeat (quiet_step (first | fail))); refine wpQuiet_nil ?_; rintro _ ⟨⟨w1, hw1⟩, rfl⟩)
          have H18 := H17.of_below hw1
          go_wp2
          go_ret
          exact ⟨rfl, H18.below⟩
      · have H5 := H3.lit ([] : List UInt8) #[] 5 rfl rfl (by simp)
        clear H3
        simp only [List.length_nil, World.size_alloc] at H5
        obtain ⟨hd, hdl, H5⟩ : ∃ hd : List UInt8, hd.length ≤ 99 ∧ Own w [.own (.slice (some ⟨w2.heap.size + 1, 0, none⟩) 0 0) ([] : List UInt8), .own (.slice (some ⟨w2.heap.size, 0, none⟩) 0 0) hd] ((w2.alloc (.cells #[] 5)).alloc (.cells #[] 5)) := ⟨[], by simp, H5⟩
        go_wp2_with (generalize hvh : Value.slice (some ⟨w2.heap.size, 0, none⟩) 0 0 = vh at H5 ⊢; clear hvh; refine wp_app2 (α := UInt8) rfl _ _ 22 rfl (by kernel_rfl) _ _ H5 rfl _ _ rfl (H5.rd 1 rfl) (by show (0 + _) * 1 ≤ _; omega) (by show 0 + _ ≤ _; omega) ?_; clear H5; intro vp q1 wp hq1 hq1l H6)
        have hl1 : q1.length ≤ 99 := by simp at hq1l; omega
        refine (implPutUvarint n _ hnn).mono ?_
        rintro e w3 ⟨v3, rfl, hs3⟩
        have H7 := (H6.call hs3).pick 1 rfl
        have hul := uv_len10 n hnn
        clear H6 hs3 hq1l
        obtain ⟨un, hun⟩ : ∃ l, uv n = l := ⟨_, rfl⟩
        rw [hun] at H7 hul
        have HUN := Lib.hid hun
        clear hun
        go_wp2_with (refine wp_app2 (α := UInt8) rfl _ _ 22 rfl (by kernel_rfl) _ _ H7 rfl _ _ rfl (H7.rd 1 rfl) (by show (_ + _) * 1 ≤ _; omega) (by omega) ?_; clear H7; intro vb q2 wb hq2 hq2l H8; obtain ⟨Ah, ch, rfl, _, _⟩ := (H8.rd 2 rfl).val)
        have HQ2 := Lib.hid (show q2 = hd ++ uv n by rw [hq2.out, hq1.out, HUN.out]; rfl)
        have HG1 := Lib.hid (show getUv q2 (hd.length : Int) = (n, (q2.length : Int), 0) by rw [HQ2.out]; exact getUv_put hd n hnn)
        have hb9 : ((q2.length : Int) == (hd.length : Int)) = false := by have := uv_pos n; rw [HQ2.out, List.length_append]; simp; omega
        have hr2 := H8.rd 0 rfl
        obtain ⟨Ab, cb, rfl, _, _⟩ := hr2.val
        refine (gU3 (implGetUvarint a q2 (hd.length : Int) _ _ hr2 (hg.own H8))).mono ?_
        rintro e w4 ⟨rfl, hb4⟩
        rw [HG1.out]
        have H9 := (H8.of_below hb4).lit ([] : List UInt8) #[] 5 rfl rfl (by simp)
        clear H8 hb4 hq1 hq2 hq2l
        go_wp2_with (refine wp_app2 (α := UInt8) rfl _ _ 22 rfl (by kernel_rfl) _ _ H9 rfl _ _ rfl (H9.rd 3 rfl) (by show (0 + _) * 1 ≤ _; omega) (by show 0 + _ ≤ _; omega) ?_; clear H9; intro vp2 q3 wp2 hq3 hq3l H10)
        have hl3 : q3.length ≤ 99 := by simp at hq3l; omega
        refine (implPutText s _ (by omega)).mono ?_
        rintro e w5 ⟨v5, rfl, hs5⟩
        have H11 := (H10.call hs5).pick 1 rfl
        have htl : (txt s).length ≤ 4010 := by have := uv_len10 s.size (by omega); have := size_list s; unfold txt; rw [List.length_append]; omega
        clear H10 hs5 hq3l
        obtain ⟨ts, hts⟩ : ∃ l, txt s = l := ⟨_, rfl⟩
        rw [hts] at H11 htl
        have HTS := Lib.hid hts
        clear hts
        go_wp2_with (refine wp_app2 (α := UInt8) rfl _ _ 22 rfl (by kernel_rfl) _ _ H11 rfl _ _ rfl (H11.rd 1 rfl) (by show (_ + _) * 1 ≤ _; omega) (by omega) ?_; clear H11; intro vt q4 wt hq4 hq4l H12)
        have HQ4 := Lib.hid (show q4 = hd ++ txt s by rw [hq4.out, hq3.out, HTS.out]; rfl)
        have HG2 := Lib.hid (show getTx q4 (hd.length : Int) (s.size : Int) = (s, (q4.length : Int), 0) by rw [HQ4.out]; exact getTx_put hd s (by omega))
        have HG3 := Lib.hid (show getTx q4 (hd.length : Int) ((s.size : Int) - 1) = (ByteArray.empty, (hd.length : Int), 4) by rw [HQ4.out]; exact getTx_short hd s (by omega))
        have hr4 := H12.rd 0 rfl
        obtain ⟨At, ct, rfl, _, _⟩ := hr4.val
        refine (gT3 (implGetText a q4 (hd.length : Int) (s.size : Int) _ _ hr4 (hg.own H12) (by omega))).mono ?_
        rintro e w6 ⟨rfl, hb6⟩
        rw [HG2.out]
        have H13 := H12.of_below hb6
        clear H12 hb6 hq3 hq4 hq4l hr4
        go_wp2_with fail
        refine (gT3 (implGetText a q4 (hd.length : Int) ((s.size : Int) - 1) _ _ (H13.rd 0 rfl) (hg.own H13) (by omega))).mono ?_
        rintro e w7 ⟨rfl, hb7⟩
        rw [HG3.out]
        have H14 := H13.of_below hb7
        clear H13 hb7
        go_wp2_with fail
        refine (drawGetUvarint ys _ _ (H14.old hu)).mono ?_
        rintro e w8 ⟨vz, pos, zs, rfl, hzl, hs8⟩
        have H15 := H14.call hs8
        clear H14 hs8
        have hrz := H15.rd 0 rfl
        obtain ⟨Az, cz, rfl, hcz, hlz⟩ := hrz.val
        obtain ⟨g, hgv⟩ : ∃ g, getUv zs pos = g := ⟨_, rfl⟩
        have HGV := Lib.hid (getUv_is_put zs pos)
        rw [hgv] at HGV
        go_wp2_with fail
        refine (gU3 (specGetUvarint zs pos _ _ hrz)).mono ?_
        rintro e w9 ⟨rfl, hb9'⟩
        rw [hgv]
        have H16 := H15.of_below hb9'
        clear H15 hb9' hrz
        go_wp2_with fail
        refine (gU3 (implGetUvarint a zs pos _ _ (H16.rd 0 rfl) (hg.own H16))).mono ?_
        rintro e w10 ⟨rfl, hb10⟩
        rw [hgv]
        have H17 := H16.of_below hb10
        clear H16 hb10 hgv
        by_cases hcd : g.2.2 = 0
        · have hc0 : ((g.2.2 : Int) != 0) = false := by simp; exact hcd
          obtain ⟨p, q, hp, hqe, hpq, hql, hg64, htk⟩ := HGV.out hcd
          obtain ⟨g1, g2, g3⟩ := g
          simp only at hcd hc0 hp hqe hg64 htk
          subst hp hqe hcd
          clear HGV hc0
          obtain ⟨V, hV⟩ : ∃ V, sliced Az p q cz 1 = V := ⟨_, rfl⟩
          obtain ⟨S, hS⟩ : ∃ S : ByteArray, (⟨(uv g1).toArray⟩ : ByteArray) = S := ⟨_, rfl⟩
          have hs1 : ∀ w, (Instr.sliceAt 22 (.slice Az zs.length cz) (some (.int .i64 (p : Int))) (some (.int .i64 (q : Int))) none).run Tryd.prog w = .ok V w := fun w => by
            have := run_subV (P := Tryd.prog) (w := w) (z := 1) Tryd.underlying22 (by kernel_rfl) Az zs.length cz (p : Int) (q : Int) (by omega) (by omega) (by omega)
            rw [this, Int.toNat_natCast, Int.toNat_natCast, hV]
          have hrV : ∀ w, Rd w (.slice Az zs.length cz) zs → Rd w V (uv g1) := fun w h => by
            have := rd_subV h p q hpq hql
            rwa [htk, show sliced Az p q cz (Cd.z UInt8) = V from hV] at this
          have hcv : ∀ (w : World) (v : Value), Rd w v (uv g1) → (convert 22 9 v).run Tryd.prog w = .ok (.string S) w := fun w v h => by
            have := run_cv (P := Tryd.prog) (src := 22) (dst := 9) Tryd.underlying22 Tryd.underlying5 Tryd.underlying9 h
            rwa [hS] at this
          have hc0 := hcv w10.drew V (hrV _ (H17.drew.rd 0 rfl))
          have hc00 := hcv w10 V (hrV _ (H17.rd 0 rfl))
          have HCV := Lib.hid hcv
          have HRV := Lib.hid hrV
          have HGG := Lib.hid hg64
          clear hV hS hcv hrV htk hpq hql hg64 hcz hlz hc hl hm
          go_wp2
          refine wp_region_held_drew (S := fun q => (convert 22 9 V).run Tryd.prog q = .ok (.string S) q) (by kernel_rfl) hc0 (fun hHeld => ?_)
          refine wpAnyH_take (i := 0) (oi := _) (v := ?_) rfl (by kernel_rfl) (by kernel_rfl) (by kernel_rfl) (fun _ _ _ h => h) (Or.inl ⟨by rfl, ?_⟩) (by assumption) ?_
          rotate_left
          · (intro w hSw; (try dsimp only at hSw); go_simp; first | done | with_reducible rfl)
          simp only [Act.put, List.getElem_toArray, List.getElem_cons_zero, List.getElem_cons_succ, List.setIfInBounds_toArray, List.set_cons_zero, List.set_cons_succ]
          refine wpAnyH_take (i := 1) (oi := _) (v := ?_) rfl (by kernel_rfl) (by kernel_rfl) (by kernel_rfl) (fun _ _ _ h => h) (Or.inl ⟨by rfl, ?_⟩) (by assumption) ?_
          rotate_left
          · (intro w hSw; (try dsimp only at hSw); go_simp; first | done | with_reducible rfl)
          simp only [Act.put, List.getElem_toArray, List.getElem_cons_zero, List.getElem_cons_succ, List.setIfInBounds_toArray, List.set_cons_zero, List.set_cons_succ]
          refine wpAnyH_take (i := 2) (oi := _) (v := ?_) rfl (by kernel_rfl) (by kernel_rfl) (by kernel_rfl) (fun _ _ _ h => h) (Or.inl ⟨by rfl, ?_⟩) (by assumption) ?_
          rotate_left
          · (intro w hSw; (try dsimp only at hSw); go_simp; first | done | with_reducible rfl)
          simp only [Act.put, List.getElem_toArray, List.getElem_cons_zero, List.getElem_cons_succ, List.setIfInBounds_toArray, List.set_cons_zero, List.set_cons_succ]
          refine wpAnyH_take (i := 3) (oi := _) (v := ?_) rfl (by kernel_rfl) (by kernel_rfl) (by kernel_rfl) (fun _ _ _ h => h) (Or.inl ⟨by rfl, ?_⟩) (by assumption) ?_
          rotate_left
          · (intro w hSw; (try dsimp only at hSw); go_simp; first | done | with_reducible rfl)
          simp only [Act.put, List.getElem_toArray, List.getElem_cons_zero, List.getElem_cons_succ, List.setIfInBounds_toArray, List.set_cons_zero, List.set_cons_succ]
          refine wpAnyH_take (i := 6) (oi := _) (v := ?_) rfl (by kernel_rfl) (by kernel_rfl) (by kernel_rfl) (fun _ _ _ h => h) (Or.inl ⟨by rfl, ?_⟩) (by assumption) ?_
          rotate_left
          · (intro w hSw; (try dsimp only at hSw); go_simp; first | done | with_reducible rfl)
          simp only [Act.put, List.getElem_toArray, List.getElem_cons_zero, List.getElem_cons_succ, List.setIfInBounds_toArray, List.set_cons_zero, List.set_cons_succ]
          refine wpAnyH_take (i := 7) (oi := _) (v := ?_) rfl (by kernel_rfl) (by kernel_rfl) (by kernel_rfl) (fun _ _ _ h => h) (Or.inl ⟨by rfl, ?_⟩) (by assumption) ?_
          rotate_left
          · (intro w hSw; (try dsimp only at hSw); go_simp; first | done | with_reducible rfl)
          simp only [Act.put, List.getElem_toArray, List.getElem_cons_zero, List.getElem_cons_succ, List.setIfInBounds_toArray, List.set_cons_zero, List.set_cons_succ]
          refine wpAnyH_take (i := 8) (oi := _) (v := ?_) rfl (by kernel_rfl) (by kernel_rfl) (by kernel_rfl) (fun _ _ _ h => h) (Or.inl ⟨by rfl, ?_⟩) (by assumption) ?_
          rotate_left
          · (intro w hSw; (try dsimp only at hSw); go_simp; first | done | with_reducible rfl)
          simp only [Act.put, List.getElem_toArray, List.getElem_cons_zero, List.getElem_cons_succ, List.setIfInBounds_toArray, List.set_cons_zero, List.set_cons_succ]
          refine wpAnyH_take (i := 9) (oi := _) (v := ?_) rfl (by kernel_rfl) (by kernel_rfl) (by kernel_rfl) (fun _ _ _ h => h) (Or.inl ⟨by rfl, ?_⟩) (by assumption) ?_
          rotate_left
          · (intro w hSw; (try dsimp only at hSw); go_simp; first | done | with_reducible rfl)
          simp only [Act.put, List.getElem_toArray, List.getElem_cons_zero, List.getElem_cons_succ, List.setIfInBounds_toArray, List.set_cons_zero, List.set_cons_succ]
          refine wpAnyH_take (i := 10) (oi := _) (v := ?_) rfl (by kernel_rfl) (by kernel_rfl) (by kernel_rfl) (fun _ _ _ h => h) (Or.inl ⟨by rfl, ?_⟩) (by assumption) ?_
          rotate_left
          · (intro w hSw; (try dsimp only at hSw); go_simp; first | done | with_reducible rfl)
          simp only [Act.put, List.getElem_toArray, List.getElem_cons_zero, List.getElem_cons_succ, List.setIfInBounds_toArray, List.set_cons_zero, List.set_cons_succ]
          refine wpAnyH_ready (rs := [4]) (by kernel_rfl) (by simp) (AllReadyH.cons rfl (fun K hK => ?_) AllReadyH.nil)
          go_simp
          go_at_call 22
          refine (implPutUvarint g1 _ HGG.out).mono ?_
          rintro e w11 ⟨v11, rfl, hs11⟩
          have H18 := H17.drew.call hs11
          have hc1 := HCV.out _ _ (H18.rd 0 rfl)
          have hc2 := HCV.out _ _ (HRV.out _ (H18.rd 1 rfl))
          go_wp2_with fail
          refine hK.out _ _ hc2 (fun _ => ?_)
          refine wpAnyH_mono (S' := fun q => q = w11) (fun q h => by rw [h]; exact hc2) _ _ _ _ ?_
          have hHeld2 : (fun q => q = w11) w11 := rfl
          clear hHeld hK
          try simp only [Act.put, List.getElem_toArray, List.getElem_cons_zero, List.getElem_cons_succ, List.setIfInBounds_toArray, List.set_cons_zero, List.set_cons_succ]
          refine wpAnyH_take (i := 5) (oi := _) (v := ?_) rfl (by kernel_rfl) (by kernel_rfl) (by kernel_rfl) (fun _ _ _ h => h) (Or.inl ⟨by rfl, ?_⟩) (by assumption) ?_
          rotate_left
          · (intro w hSw; (try dsimp only at hSw); subst hSw; go_simp; first | done | with_reducible rfl)
          simp only [Act.put, List.getElem_toArray, List.getElem_cons_zero, List.getElem_cons_succ, List.setIfInBounds_toArray, List.set_cons_zero, List.set_cons_succ]
          refine wpAnyH_take (i := 11) (oi := _) (v := ?_) rfl (by kernel_rfl) (by kernel_rfl) (by kernel_rfl) (fun _ _ _ h => h) (Or.inl ⟨by rfl, ?_⟩) (by assumption) ?_
          rotate_left
          · (intro w hSw; (try dsimp only at hSw); subst hSw; go_simp; first | done | with_reducible rfl)
          simp only [Act.put, List.getElem_toArray, List.getElem_cons_zero, List.getElem_cons_succ, List.setIfInBounds_toArray, List.set_cons_zero, List.set_cons_succ]
          refine wpAnyH_take (i := 12) (oi := _) (v := ?_) rfl (by kernel_rfl) (by kernel_rfl) (by kernel_rfl) (fun _ _ _ h => h) (Or.inl ⟨by rfl, ?_⟩) (by assumption) ?_
          rotate_left
          · (intro w hSw; (try dsimp only at hSw); subst hSw; go_simp; first | done | with_reducible rfl)
          simp only [Act.put, List.getElem_toArray, List.getElem_cons_zero, List.getElem_cons_succ, List.setIfInBounds_toArray, List.set_cons_zero, List.set_cons_succ]
          refine wpAnyH_take (i := 13) (oi := _) (v := ?_) rfl (by kernel_rfl) (by kernel_rfl) (by kernel_rfl) (fun _ _ _ h => h) (Or.inl ⟨by rfl, ?_⟩) (by assumption) ?_
          rotate_left
          · (intro w hSw; (try dsimp only at hSw); subst hSw; go_simp; first | done | with_reducible rfl)
          simp only [Act.put, List.getElem_toArray, List.getElem_cons_zero, List.getElem_cons_succ, List.setIfInBounds_toArray, List.set_cons_zero, List.set_cons_succ]
          refine wpAnyH_done (by kernel_rfl) ?_ _
          go_wp2
          go_ret
          exact ⟨rfl, H18.below⟩
        · have hc0 : ((g.2.2 : Int) != 0) = true := by simp; exact hcd
          go_wp2
          (refine wp_region_ext (by kernel_rfl) (by kernel_rfl) ?_; (repeat (quiet_step (first | fail))); refine wpQuiet_nil ?_; rintro _ ⟨⟨w1, hw1⟩, rfl⟩)
          have H18 := H17.of_below hw1
          go_wp2
          go_ret
          exact ⟨rfl, H18.below⟩
    · go_enter Tryd.func6, Tryd.ntmps6
      go_wp2
      go_ret
      exact ⟨rfl, (Own.start w).below⟩
  · go_enter Tryd.func6, Tryd.ntmps6
    go_wp2
    go_ret
    exact ⟨rfl, (Own.start w).below⟩
end Go.Proofs.YtonkdmjhlaikhaaDoor
