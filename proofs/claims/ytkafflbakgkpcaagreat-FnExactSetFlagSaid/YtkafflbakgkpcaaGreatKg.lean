/- The reference's change, with leaves put in. -/
import Derived.Test.YtkafflbakgkpcaaGreatKe
import Derived.Test.YtkafflbakgkpcaaGreatKl
namespace Go.Proofs.YtkafflbakgkpcaaGreat
set_option linter.unusedSimpArgs false
set_option linter.unusedVariables false
open Go.RowKit Go.Ow
attribute [local irreducible] wpQuiet
set_option maxRecDepth 100000
def putLoop (s : St) (gone : Lf → Bool) (P : List Lf) (j : Nat) (K D : List Pf) (C R : List Rn) : Prop :=
  K.map (·.l) = (P.take j).foldl insL (s.l.filter (fun x => !gone x)) ∧ D.map (·.l) = (P.take j).foldl insL [] ∧ C = uni s.c (dotsR (P.take j)) ∧ R = uni [] (dotsR (s.l.filter gone ++ P.take j)) ∧
    K.length ≤ 1048576 + j ∧ D.length ≤ j ∧ C.length ≤ 1048576 + j ∧ R.length ≤ 1048576 + j
theorem putLoop_step {s : St} {gone : Lf → Bool} {P : List Lf} {j : Nat} {K D : List Pf} {C R : List Rn} {x : Lf} (h : putLoop s gone P j K D C R) (ht : P.take (j + 1) = P.take j ++ [x]) (z1 z2 : Pf) (h1 : z1.l = x) (h2 : z2.l = x) :
    putLoop s gone P (j + 1) (insP K z1) (insP D z2) (ins [] ⟨x.dr, x.ds, x.ds⟩ [] C) (ins [] ⟨x.dr, x.ds, x.ds⟩ [] R) := by
  obtain ⟨e1, e2, e3, e4, l1, l2, l3, l4⟩ := h
  have i1 := ins_len C [] ⟨x.dr, x.ds, x.ds⟩ []
  have i2 := ins_len R [] ⟨x.dr, x.ds, x.ds⟩ []
  simp only [List.length_nil] at i1 i2
  refine ⟨?_, ?_, ?_, ?_, ?_, ?_, by omega, by omega⟩
  · rw [insP_l, ht, List.foldl_append, e1, h1]; rfl
  · rw [insP_l, ht, List.foldl_append, e2, h2]; rfl
  · rw [ht, dotsR_snoc, uni_snoc, ← e3]
  · rw [ht, ← List.append_assoc, dotsR_snoc, uni_snoc, ← e4]
  · rw [(insP_perm z1 K).length_eq, List.length_cons]; omega
  · rw [(insP_perm z2 D).length_eq, List.length_cons]; omega
theorem perm_two {t1 t2 t3 t4 t5 t6 t7 t8 t9 : Ds} {K D K2 D2 : List Pf} {x y : Pf} (hK : K2.Perm (x :: K)) (hD : D2.Perm (y :: D)) :
    (pown x :: pown y :: t1 :: t2 :: t3 :: t4 :: t5 :: t6 :: t7 :: t8 :: t9 :: (K.map pown ++ D.map pown)).Perm (t1 :: t2 :: t3 :: t4 :: t5 :: t6 :: t7 :: t8 :: t9 :: (K2.map pown ++ D2.map pown)) := by
  have h1 : (K2.map pown).Perm (pown x :: K.map pown) := hK.map pown
  have h2 : (D2.map pown).Perm (pown y :: D.map pown) := hD.map pown
  have h3 : ([t1, t2, t3, t4, t5, t6, t7, t8, t9] ++ (K2.map pown ++ D2.map pown)).Perm ([t1, t2, t3, t4, t5, t6, t7, t8, t9] ++ (pown x :: (K.map pown ++ pown y :: D.map pown))) := List.Perm.append_left _ (h1.append h2)
  have h4 : ([t1, t2, t3, t4, t5, t6, t7, t8, t9] ++ (pown x :: (K.map pown ++ pown y :: D.map pown))).Perm (pown x :: ([t1, t2, t3, t4, t5, t6, t7, t8, t9] ++ (K.map pown ++ pown y :: D.map pown))) := List.perm_middle
  have h5 : ([t1, t2, t3, t4, t5, t6, t7, t8, t9] ++ (K.map pown ++ pown y :: D.map pown)).Perm (pown y :: ([t1, t2, t3, t4, t5, t6, t7, t8, t9] ++ (K.map pown ++ D.map pown))) := by
    rw [← List.append_assoc, ← List.append_assoc]
    exact List.perm_middle
  exact (h3.trans (h4.trans (h5.cons _))).symm
theorem perm_mid8 {a t1 t2 t3 t4 t5 t6 t7 t8 : Ds} {A B : List Ds} : (a :: t1 :: t2 :: t3 :: t4 :: t5 :: t6 :: t7 :: t8 :: (A ++ B)).Perm (a :: (A ++ (t1 :: t2 :: t3 :: t4 :: t5 :: t6 :: t7 :: t8 :: B))) := by
  refine List.Perm.cons _ ?_
  have h : ([t1, t2, t3, t4, t5, t6, t7, t8] ++ A).Perm (A ++ [t1, t2, t3, t4, t5, t6, t7, t8]) := List.perm_append_comm
  have h2 := h.append_right B
  rw [List.append_assoc, List.append_assoc] at h2
  exact h2
theorem perm_mid8b {a t1 t2 t3 t4 t5 t6 t7 t8 : Ds} {A : List Ds} : (a :: t1 :: t2 :: t3 :: t4 :: t5 :: t6 :: t7 :: t8 :: A).Perm (a :: (A ++ [t1, t2, t3, t4, t5, t6, t7, t8])) :=
  List.Perm.cons _ (List.perm_append_comm (l₁ := [t1, t2, t3, t4, t5, t6, t7, t8]))
theorem own_bare {W w : World} {R : List Ds} (h : Own W R w) : Own W [] w := own_take 0 h
set_option maxHeartbeats 32000000 in
theorem l3ChangeG (s : St) (gone : Lf → Bool) (gs : List Bool) (ys : List Pf) (vl vc vg vp : Value) (w : World) (h1 : Rd w vl s.l) (h2 : Rd w vc s.c) (hg : Rd w vg gs) (hp : Rd w vp ys) (hpat : ∀ y ∈ ys, Pf.at_ w y) (hpp : ∀ y ∈ ys, y.l.p.length ≤ 1048576) (hyl : ys.length ≤ 1048576) (hgs : gs = s.l.map gone)
    (hn : s.l.length ≤ 1048576) (hpl : ∀ y ∈ s.l, y.p.length ≤ 1048576) (hc : s.c.length ≤ 1048576) :
    Calls Tryz.prog 26 #[.agg #[vl, vc], vg, vp] w fun e w' => ∃ A c A2 c2 A3 c3 A4 c4, e = .returned (.tuple #[.agg #[.slice A (chR s gone (ys.map (·.l))).1.l.length c, .slice A2 (chR s gone (ys.map (·.l))).1.c.length c2], .agg #[.slice A3 (chR s gone (ys.map (·.l))).2.1.l.length c3, .slice A4 (chR s gone (ys.map (·.l))).2.1.c.length c4], .int .i64 (chR s gone (ys.map (·.l))).2.2]) ∧
      Own w [.own (.slice A (chR s gone (ys.map (·.l))).1.l.length c) (chR s gone (ys.map (·.l))).1.l, .own (.slice A2 (chR s gone (ys.map (·.l))).1.c.length c2) (chR s gone (ys.map (·.l))).1.c, .own (.slice A3 (chR s gone (ys.map (·.l))).2.1.l.length c3) (chR s gone (ys.map (·.l))).2.1.l, .own (.slice A4 (chR s gone (ys.map (·.l))).2.1.c.length c4) (chR s gone (ys.map (·.l))).2.1.c] w' := by
  obtain ⟨zs, hz, hatz, hpf⟩ := rd_pf h1
  obtain ⟨A1, c1, rfl, _, _⟩ := h1.val
  obtain ⟨A2, c2, rfl, _, _⟩ := h2.val
  obtain ⟨Ag, cg, rfl, _, _⟩ := hg.val
  obtain ⟨Ap, cp, rfl, _, _⟩ := hp.val
  have hl : s.l.length = zs.length := by rw [← hz]; simp
  have hgl : gs.length = zs.length := by rw [hgs, ← hl]; simp
  have HZ := Lib.hid hz
  have HAT := Lib.hid hatz
  have HPL := Lib.hid (show ∀ z ∈ zs, z.l.p.length ≤ 1048576 from fun z h => hpl z.l (by rw [← hz]; exact List.mem_map.2 ⟨z, h, rfl⟩))
  have HGS := Lib.hid (show ∀ i (h : i < zs.length) (h2 : i < gs.length), gs[i] = gone zs[i].l from fun i h h2 => by
    have e : ∀ (L : List Lf) (e : zs.map (·.l) = L) (hi : i < L.length), L[i] = zs[i].l := by intro L e hi; subst e; simp
    subst hgs
    rw [List.getElem_map]
    exact congrArg gone (e _ hz _))
  have HGL := Lib.hid hgl
  rw [hl] at hpf
  rw [hl, hgl]
  rw [hgl] at hg
  have hnz : zs.length ≤ 1048576 := by rw [← hl]; exact hn
  have HSL := Lib.hid hl
  have HYAT := Lib.hid hpat
  have HYP := Lib.hid hpp
  obtain ⟨P, hP⟩ : ∃ P, ys.map (·.l) = P := ⟨_, rfl⟩
  rw [hP]
  have HP := Lib.hid hP
  clear hz hatz hpl hgs hl hgl h1 hn hpat hpp hP
  have HS := (((((Own.start w).box [.slice A1 zs.length c1, .slice A2 s.c.length c2] 36).box (b := w.heap.size + 1) [.slice none 0 0, .slice none 0 0] 36).box (b := w.heap.size + 1 + 1) [.slice none 0 0, .slice none 0 0] 36).lit ([] : List Pf) #[] 57 rfl rfl (by simp)).lit ([] : List Rn) #[] 81 rfl rfl (by simp)
  simp only [World.size_alloc] at HS
  have HB := (HS.box (b := w.heap.size + 1 + 1 + 1 + 1 + 1) [.slice (some ⟨w.heap.size + 1 + 1 + 1, 0, none⟩) 0 0, .slice (some ⟨w.heap.size + 1 + 1 + 1 + 1, 0, none⟩) 0 0] 36 (by simp only [World.size_alloc])).lit ([] : List Pf) #[] 57 rfl rfl (by simp)
  simp only [World.size_alloc] at HB
  have HS := HB
  clear HB
  have F := HS.facts; simp only [Own.Facts, Own.Cells, World.size_alloc, List.cons_append, List.nil_append, List.eraseIdx_cons_succ, List.eraseIdx_cons_zero, List.eraseIdx_zero, List.tail_cons, Nat.zero_add] at F
  go_enter Tryz.func26, Tryz.ntmps26
  go_wp2_with fail
  refine (l2UnionC s.c [] _ _ _ (HS.old h2) (HS.rd 2 rfl) (by simp; omega)).mono ?_
  rintro e w1 ⟨vr, rfl, hs⟩
  rw [uni_nil] at hs
  obtain ⟨Ac, cc, rfl, _, _⟩ := (hs.rd 0 rfl).val
  replace HS := HS.call1 hs
  clear hs F
  obtain ⟨bn, hbn⟩ : ∃ n, w1.heap.size = n := ⟨_, rfl⟩
  replace HS := HS.box (b := bn) [.slice (some ⟨w.heap.size + 1 + 1 + 1 + 1 + 1 + 1, 0, none⟩) 0 0, .slice Ac s.c.length cc] 36 hbn
  obtain ⟨sz, hsz⟩ : ∃ n, w.heap.size = n := ⟨_, rfl⟩
  rw [hsz] at HS ⊢
  have F := HS.facts; simp only [Own.Facts, Own.Cells, World.size_alloc, List.cons_append, List.nil_append, List.eraseIdx_cons_succ, List.eraseIdx_cons_zero, List.eraseIdx_zero, List.tail_cons, Nat.zero_add] at F
  go_wp2
  try simp only [hbn, hsz]
  clear hbn hsz F
  obtain ⟨bd, hbd⟩ : ∃ n, sz + 1 + 1 + 1 + 1 + 1 = n := ⟨_, rfl⟩
  rw [hbd] at HS ⊢
  clear hbd
  have HS0 := HS.pick 2 rfl
  simp only [List.eraseIdx_cons_succ, List.eraseIdx_cons_zero, List.length_nil] at HS0
  go_loopw [11] (fun i wr => ∃ (k : Nat) (K : List Pf) (DR : List Rn) (uK uD : Value), k ≤ zs.length ∧ i = .int .i64 k ∧ Hid (chLoop s gone k K DR) ∧ Own w (.own uK K :: .box bn 36 [uK, .slice Ac s.c.length cc] :: .own (.slice Ac s.c.length cc) s.c :: .box bd 36 [.slice (some ⟨sz + 1 + 1 + 1, 0, none⟩) 0 0, uD] :: .own uD DR :: .own (.slice (some ⟨sz + 1 + 1 + 1, 0, none⟩) 0 0) ([] : List Pf) :: .box (sz + 1 + 1) 36 [.slice none 0 0, .slice none 0 0] :: .box (sz + 1) 36 [.slice none 0 0, .slice none 0 0] :: .box sz 36 [.slice A1 zs.length c1, .slice A2 s.c.length c2] :: K.map pown) wr) (fun i _ => zs.length - (intOf i).toNat)
  case atStart => exact ⟨0, [], [], _, _, by omega, rfl, Lib.hid ⟨by simp, by simp [dotsR, uni_nil], by simp⟩, HS0⟩
  case round =>
    obtain ⟨k, K, DR, uK, uD, hk, hki, HCL, HS'⟩ := hrel
    subst hki
    clear HS HS0
    have HS := HS'
    clear HS'
    obtain ⟨AK, cK, rfl, _, _⟩ := (HS.rd 0 rfl).val
    obtain ⟨AD, cD, rfl, _, _⟩ := (HS.rd 4 rfl).val
    have hdl : DR.length ≤ 1048576 := by have := HCL.out.2.2; omega
    have hkl : K.length ≤ 1048576 := by
      have e := congrArg List.length HCL.out.1
      rw [List.length_map] at e
      have e1 := List.length_filter_le (fun x => !gone x) (s.l.take k)
      have e2 := List.length_take_le k s.l
      omega
    by_cases hlt : k < zs.length
    · obtain ⟨b1, o1, rfl⟩ := hpf.fix (by omega)
      have hcell := Pf.cells (HS.old hpf) k hlt
      obtain ⟨bg, og, rfl⟩ := hg.fix (by rw [HGL.out]; omega)
      have hgc := (HS.old hg).get k (by rw [HGL.out]; exact hlt) 0 (by decide)
      have hg2 := HGS.out k hlt (by rw [HGL.out]; exact hlt)
      obtain ⟨z, hz⟩ : ∃ z, zs[k] = z := ⟨_, rfl⟩
      have hat := HAT.out zs[k] (List.getElem_mem hlt)
      have hpz := HPL.out zs[k] (List.getElem_mem hlt)
      rw [hz] at hat hpz hcell hg2
      have HT := Lib.hid (show s.l.take (k + 1) = s.l.take k ++ [z.l] by rw [← HZ.out, ← List.map_take, ← List.map_take, List.take_succ_eq_append_getElem hlt, List.map_append, hz]; rfl)
      have HZK := Lib.hid hz
      clear hz
      obtain ⟨⟨Az, nz, cz⟩, ⟨zp, zf, zr, zd, zv⟩⟩ := z
      obtain rfl : nz = zp.length := hat.len
      simp only [Pf.at_, Sv.v] at hat hpz hcell
      simp only at hg2
      obtain ⟨PW, hPW⟩ : ∃ PW, K.map pown = PW := ⟨_, rfl⟩
      rw [hPW] at HS
      have HPW := Lib.hid hPW
      clear hPW
      obtain ⟨gk, hgk⟩ : ∃ g, gone ⟨zp, zf, zr, zd, zv⟩ = g := ⟨_, rfl⟩
      rw [hgk] at hg2
      simp only [hg2, Fl.fl, show Cd.z Bool = 1 from rfl, Nat.add_zero, Nat.mul_one, List.getElem?_cons_zero] at hgc
      have HGK := Lib.hid hgk
      have HGW := Lib.hid hg2
      clear hgk hg2
      have HSX := (HS.box (b := wr.heap.size) [.int .i64 zr, .int .i64 zd] 55).pick 1 rfl
      simp only [List.eraseIdx_cons_succ, List.eraseIdx_cons_zero] at HSX
      have hgb := World.block_lt_of_cell? _ _ hgc
      have hgc2 := (HSX.old hg).get k (by rw [HGL.out]; exact hlt) 0 (by decide)
      rw [HGW.out] at hgc2
      simp only [Fl.fl, show Cd.z Bool = 1 from rfl, Nat.add_zero, Nat.mul_one, List.getElem?_cons_zero] at hgc2
      have F := HS.facts; simp only [Own.Facts, Own.Cells, World.size_alloc, List.cons_append, List.nil_append, List.eraseIdx_cons_succ, List.eraseIdx_cons_zero, List.eraseIdx_zero, List.tail_cons, Nat.zero_add] at F
      cases gk
      · go_wp2
        clear F
        have HS := HSX
        clear HSX hcell
        have hcell := Pf.cells (HS.old hpf) k hlt
        rw [HZK.out] at hcell
        simp only [Pf.at_, Sv.v] at hcell
        have F := HS.facts; simp only [Own.Facts, Own.Cells, World.size_alloc, List.cons_append, List.nil_append, List.eraseIdx_cons_succ, List.eraseIdx_cons_zero, List.eraseIdx_zero, List.tail_cons, Nat.zero_add] at F
        go_region_law (first | ((fail_if_success have hh := HL); go_wp2_with ((go_at_call 51; refine (l3Leaf zp zf zr zd zv _ _ (by first | exact HS.old hat | exact HS.drew.old hat) hpz).mono ?_; rintro e w1 ⟨A5, c5, rfl, hs⟩; skip; (first | have H' := HS.call1 hs | have H' := HS.drew.call1 hs | have H' := (HS.box0 [_] _).call1 hs | have H' := ((HS.box0 [_] _).box0 [_] _).call1 hs | have H' := (HS.box0 [_] _).drew.call1 hs | have H' := (HS.alloc _).call1 hs | have H' := ((HS.alloc _).alloc _).call1 hs | have H' := (HS.alloc _).drew.call1 hs); clear HS; have HS := H'; clear H'; have F := HS.facts; simp only [Own.Facts, Own.Cells, World.size_alloc, List.cons_append, List.nil_append, List.eraseIdx_cons_succ, List.eraseIdx_cons_zero, List.eraseIdx_zero, List.tail_cons, Nat.zero_add] at F; try (have HL := (HS.lit [(⟨⟨A5, zp.length, c5⟩, ⟨zp, zf, zr, zd, zv⟩⟩ : Pf)] #[.slice A5 zp.length c5, .bool zf, .int .i64 zr, .int .i64 zd, .string zv] 57 rfl rfl (by simp)).pick 2 rfl; simp only [List.cons_append, List.nil_append, List.eraseIdx_cons_succ, List.eraseIdx_cons_zero] at HL)))) | (refine hp_app (α := Pf) _ _ 31 rfl (by rfl) (by kernel_rfl) _ _ HL rfl _ _ rfl (HL.rd 1 rfl) (by show (_ + 1) * 64 ≤ _; omega) (by show _ + 1 ≤ _; omega) ?_; intro v3 w3 HS3; obtain ⟨A3, c3, rfl, _, _⟩ := (HS3.rd 0 rfl).val; have F3 := HS3.facts; simp only [Own.Facts, Own.Cells, Nat.zero_add] at F3))
        all_goals
          have H4 := (((HS3.pick 1 rfl).drop.pick 2 rfl).drop.pick 2 rfl).set 0 (.slice A3 (K ++ [(⟨⟨A5, zp.length, c5⟩, ⟨zp, zf, zr, zd, zv⟩⟩ : Pf)]).length c3)
          simp only [List.eraseIdx_cons_succ, List.eraseIdx_cons_zero, List.set_cons_zero, List.tail_cons] at H4
          have H5 := (H4.pick 1 rfl).pick 2 rfl
          simp only [List.eraseIdx_cons_succ, List.eraseIdx_cons_zero] at H5
          have H6 := own_end H5
          simp only [List.length_append, List.length_cons, List.length_nil, Nat.zero_add, List.cons_append] at H6
          have e : PW ++ [.own (.slice A5 zp.length c5) zp] = (K ++ [(⟨⟨A5, zp.length, c5⟩, ⟨zp, zf, zr, zd, zv⟩⟩ : Pf)]).map pown := by rw [List.map_append, HPW.out]; rfl
          rw [e] at H6
          clear HS3 H4 H5 F3 HL F HS hcell e
          go_wp2
          go_roundw
          case rel => exact ⟨k + 1, K ++ [(⟨⟨A5, zp.length, c5⟩, ⟨zp, zf, zr, zd, zv⟩⟩ : Pf)], DR, _, _, by omega, by go_num, Lib.hid (chLoop_no HCL.out HT.out HGK.out _ rfl), H6⟩
          case measure => simp [intOf]; omega
      · go_wp2_with fail
        clear F
        have HS := HSX.pick 1 rfl
        simp only [List.eraseIdx_cons_succ, List.eraseIdx_cons_zero] at HS
        clear HSX
        refine (l2InsertC DR ⟨zr, zd, zd⟩ _ _ (HS.rd 5 rfl) (by omega)).mono ?_
        rintro e w3 ⟨v', rfl, hs⟩
        replace HS := HS.call1 hs
        obtain ⟨NR, hNR⟩ : ∃ N, ins [] ⟨zr, zd, zd⟩ [] DR = N := ⟨_, rfl⟩
        rw [hNR] at HS
        have HNR := Lib.hid hNR
        obtain ⟨AE, cE, rfl, _, _⟩ := (HS.rd 0 rfl).val
        clear hs hNR
        have F := HS.facts; simp only [Own.Facts, Own.Cells, World.size_alloc, List.cons_append, List.nil_append, List.eraseIdx_cons_succ, List.eraseIdx_cons_zero, List.eraseIdx_zero, List.tail_cons, Nat.zero_add] at F
        go_wp2
        have H2 := (HS.pick 5 rfl).set 1 (.slice AE NR.length cE)
        simp only [List.eraseIdx_cons_succ, List.eraseIdx_cons_zero, List.set_cons_zero, List.set_cons_succ] at H2
        have H3 := ((((H2.pick 2 rfl).drop.pick 5 rfl).drop.pick 4 rfl).pick 4 rfl).pick 4 rfl
        simp only [List.eraseIdx_cons_succ, List.eraseIdx_cons_zero, List.tail_cons] at H3
        go_roundw
        case rel => exact ⟨k + 1, K, NR, _, _, by omega, by go_num, Lib.hid (by have := chLoop_yes HCL.out HT.out HGK.out; rw [HNR.out] at this; exact this), by rw [HPW.out]; exact H3⟩
        case measure => simp [intOf]; omega
    · have hkz : k = zs.length := by omega
      subst hkz
      obtain ⟨h1, h2', h3⟩ := HCL.out
      have htk : s.l.take zs.length = s.l := by rw [← HSL.out]; exact List.take_length
      rw [htk] at h1 h2'
      have hKL := h1
      have HPL0 := Lib.hid (show putLoop s gone P 0 K [] s.c DR from by
        refine ⟨?_, rfl, ?_, ?_, ?_, ?_, ?_, ?_⟩
        · rw [List.take_zero]; exact hKL
        · rw [List.take_zero]; exact (uni_nil _).symm
        · rw [List.take_zero, List.append_nil]; exact h2'
        · omega
        · simp
        · omega
        · omega)
      clear h1 h2' h3 htk HCL hKL
      have HS2 := HS
      clear HS
      try simp only [List.eraseIdx_cons_succ, List.eraseIdx_cons_zero, List.cons_append, List.nil_append, List.set_cons_zero, List.set_cons_succ, List.tail_cons] at HS2
      have HS := HS2
      have F := HS.facts; simp only [Own.Facts, Own.Cells, World.size_alloc, List.cons_append, List.nil_append, List.eraseIdx_cons_succ, List.eraseIdx_cons_zero, List.eraseIdx_zero, List.tail_cons, Nat.zero_add] at F
      clear HS
      go_wp2
      clear F
      go_loopw [13] (fun i wr => ∃ (j : Nat) (K2 D2 : List Pf) (C2 R2 : List Rn) (uK uC uD uR : Value), j ≤ ys.length ∧ i = .int .i64 j ∧ Hid (putLoop s gone P j K2 D2 C2 R2) ∧ Own w (.own uK K2 :: .box bn 36 [uK, uC] :: .own uC C2 :: .box bd 36 [uD, uR] :: .own uR R2 :: .own uD D2 :: .box (sz + 1 + 1) 36 [.slice none 0 0, .slice none 0 0] :: .box (sz + 1) 36 [.slice none 0 0, .slice none 0 0] :: .box sz 36 [.slice A1 zs.length c1, .slice A2 s.c.length c2] :: (K2.map pown ++ D2.map pown)) wr) (fun i _ => ys.length - (intOf i).toNat)
      case atStart => exact ⟨0, K, [], s.c, DR, _, _, _, _, by omega, rfl, HPL0, by rw [List.map_nil, List.append_nil]; exact HS2⟩
      case round =>
        obtain ⟨j, K2, D2, C2, R2, uK, uC, uD, uR, hj, rfl, HPT, HS'⟩ := hrel
        clear HS2 hkl hdl
        have HS := HS'
        clear HS'
        obtain ⟨AK, cK, rfl, _, _⟩ := (HS.rd 0 rfl).val
        obtain ⟨AC, cC, rfl, _, _⟩ := (HS.rd 2 rfl).val
        obtain ⟨AR, cR, rfl, _, _⟩ := (HS.rd 4 rfl).val
        obtain ⟨AD, cD, rfl, _, _⟩ := (HS.rd 5 rfl).val
        have hlK : K2.length ≤ 2097152 := by have := HPT.out.2.2.2.2.1; omega
        have hlD : D2.length ≤ 1048576 := by have := HPT.out.2.2.2.2.2.1; omega
        have hlC : C2.length ≤ 2097152 := by have := HPT.out.2.2.2.2.2.2.1; omega
        have hlR : R2.length ≤ 2097152 := by have := HPT.out.2.2.2.2.2.2.2; omega
        have HPA := Lib.hid (fun (wq : World) (X : List Ds) (H : Own w (X ++ (K2.map pown ++ D2.map pown)) wq) => show (∀ y ∈ K2, Pf.at_ wq y) ∧ ∀ y ∈ D2, Pf.at_ wq y from ⟨fun y hy => own_at H (List.mem_append_right _ (List.mem_append_left _ (List.mem_map.2 ⟨y, hy, rfl⟩))), fun y hy => own_at H (List.mem_append_right _ (List.mem_append_right _ (List.mem_map.2 ⟨y, hy, rfl⟩)))⟩)
        obtain ⟨PW, hPW⟩ : ∃ PW, K2.map pown ++ D2.map pown = PW := ⟨_, rfl⟩
        rw [hPW] at HS
        simp only [hPW] at HPA
        have HPW := Lib.hid hPW
        clear hPW
        by_cases hlt : j < ys.length
        · obtain ⟨b1, o1, rfl⟩ := hp.fix (by omega)
          have HZC := Lib.hid (fun (wq : World) (H : Own w [] wq) => Pf.cells (H.old hp) j hlt)
          have hat := HYAT.out ys[j] (List.getElem_mem hlt)
          have hpz := HYP.out ys[j] (List.getElem_mem hlt)
          have HJ := Lib.hid (show P.take (j + 1) = P.take j ++ [ys[j].l] by rw [← HP.out, ← List.map_take, ← List.map_take, List.take_succ_eq_append_getElem hlt, List.map_append]; rfl)
          obtain ⟨z, hz⟩ : ∃ z, ys[j] = z := ⟨_, rfl⟩
          simp only [hz] at hat hpz HZC HJ
          clear hz
          obtain ⟨⟨Az, nz, cz⟩, ⟨zp, zf, zr, zd, zv⟩⟩ := z
          obtain rfl : nz = zp.length := hat.len
          simp only [Pf.at_, Sv.v] at hat hpz HZC
          have hcell := HZC.out _ (own_bare HS)
          obtain ⟨bj, hbj⟩ : ∃ n, wr.heap.size = n := ⟨_, rfl⟩
          have HSX := HS.box (b := bj) [.int .i64 zr, .int .i64 zd] 55 hbj
          have hcell2 := HZC.out _ (own_bare HSX)
          clear HS
          have HS := HSX
          clear HSX
          have F := HS.facts; simp only [Own.Facts, Own.Cells, World.size_alloc, List.cons_append, List.nil_append, List.eraseIdx_cons_succ, List.eraseIdx_cons_zero, List.eraseIdx_zero, List.tail_cons, Nat.zero_add] at F
          go_wp2_with fail
          refine (l2InsertC R2 ⟨zr, zd, zd⟩ _ _ (HS.rd 5 rfl) (by omega)).mono ?_
          rintro e w3 ⟨v', rfl, hs⟩
          replace HS := HS.call1 hs
          have hR1 := ins_len R2 [] ⟨zr, zd, zd⟩ []
          simp only [List.length_nil] at hR1
          obtain ⟨R3, hR3⟩ : ∃ N, ins [] ⟨zr, zd, zd⟩ [] R2 = N := ⟨_, rfl⟩
          rw [hR3] at HS hR1
          have HR3 := Lib.hid hR3
          obtain ⟨AR3, cR3, rfl, _, _⟩ := (HS.rd 0 rfl).val
          clear hs hR3 F hcell hcell2
          have F := HS.facts; simp only [Own.Facts, Own.Cells, World.size_alloc, List.cons_append, List.nil_append, List.eraseIdx_cons_succ, List.eraseIdx_cons_zero, List.eraseIdx_zero, List.tail_cons, Nat.zero_add] at F
          have H2 := (HS.pick 5 rfl).set 1 (.slice AR3 R3.length cR3)
          simp only [List.eraseIdx_cons_succ, List.eraseIdx_cons_zero, List.cons_append, List.nil_append, List.set_cons_zero, List.set_cons_succ, List.tail_cons] at H2
          have F1 := H2.facts
          simp only [Own.Facts, Own.Cells, Nat.zero_add] at F1
          go_wp2_with fail
          refine (l2InsertC C2 ⟨zr, zd, zd⟩ _ _ (H2.rd 5 rfl) (by omega)).mono ?_
          rintro e w4 ⟨v', rfl, hs⟩
          replace HS := H2.call1 hs
          have hC1 := ins_len C2 [] ⟨zr, zd, zd⟩ []
          simp only [List.length_nil] at hC1
          obtain ⟨C3, hC3⟩ : ∃ N, ins [] ⟨zr, zd, zd⟩ [] C2 = N := ⟨_, rfl⟩
          rw [hC3] at HS hC1
          have HC3 := Lib.hid hC3
          obtain ⟨AC3, cC3, rfl, _, _⟩ := (HS.rd 0 rfl).val
          clear hs hC3 F F1 H2
          have F := HS.facts; simp only [Own.Facts, Own.Cells, World.size_alloc, List.cons_append, List.nil_append, List.eraseIdx_cons_succ, List.eraseIdx_cons_zero, List.eraseIdx_zero, List.tail_cons, Nat.zero_add] at F
          have H2 := (HS.pick 5 rfl).set 1 (.slice AC3 C3.length cC3)
          simp only [List.eraseIdx_cons_succ, List.eraseIdx_cons_zero, List.cons_append, List.nil_append, List.set_cons_zero, List.set_cons_succ, List.tail_cons] at H2
          have HS3 := H2
          replace HS3 := (HS3.pick 4 rfl).drop
          replace HS3 := (HS3.pick 5 rfl).drop
          replace HS3 := (HS3.pick 5 rfl).drop
          replace HS3 := HS3.pick 3 rfl
          replace HS3 := HS3.pick 3 rfl
          replace HS3 := HS3.pick 3 rfl
          replace HS3 := HS3.pick 3 rfl
          replace HS3 := HS3.pick 4 rfl
          try simp only [List.eraseIdx_cons_succ, List.eraseIdx_cons_zero, List.cons_append, List.nil_append, List.set_cons_zero, List.set_cons_succ, List.tail_cons] at HS3
          clear HS
          have HS := HS3
          have hcell := HZC.out _ (own_bare HS)
          clear HS3 H2
          have F0 := F
          clear F
          have F := HS.facts; simp only [Own.Facts, Own.Cells, World.size_alloc, List.cons_append, List.nil_append, List.eraseIdx_cons_succ, List.eraseIdx_cons_zero, List.eraseIdx_zero, List.tail_cons, Nat.zero_add] at F
          go_wp2
          clear F0
          go_region_with (first | (go_at_call 51; refine (l3Leaf zp zf zr zd zv _ _ (by first | exact HS.old hat | exact HS.drew.old hat) hpz).mono ?_; rintro e w1 ⟨A5, c5, rfl, hs⟩; (first | have H' := HS.call1 hs | have H' := HS.drew.call1 hs | have H' := (HS.box0 [_] _).call1 hs | have H' := ((HS.box0 [_] _).box0 [_] _).call1 hs | have H' := (HS.box0 [_] _).drew.call1 hs | have H' := (HS.alloc _).call1 hs | have H' := ((HS.alloc _).alloc _).call1 hs | have H' := (HS.alloc _).drew.call1 hs); clear HS; have HS := H'; clear H'; have F := HS.facts; simp only [Own.Facts, Own.Cells, World.size_alloc, List.cons_append, List.nil_append, List.eraseIdx_cons_succ, List.eraseIdx_cons_zero, List.eraseIdx_zero, List.tail_cons, Nat.zero_add] at F) | (go_at_call 52; refine (l3Put D2 ⟨⟨A5, zp.length, c5⟩, ⟨zp, zf, zr, zd, zv⟩⟩ _ _ (HS.rd 6 rfl) (HPA.out _ [_, _, _, _, _, _, _, _, _, _] HS).2 (HS.rd 0 rfl) (by omega)).mono ?_; rintro e w1 ⟨A6, c6, rfl, hs⟩; (first | have H' := HS.call1 hs | have H' := HS.drew.call1 hs | have H' := (HS.box0 [_] _).call1 hs | have H' := ((HS.box0 [_] _).box0 [_] _).call1 hs | have H' := (HS.box0 [_] _).drew.call1 hs | have H' := (HS.alloc _).call1 hs | have H' := ((HS.alloc _).alloc _).call1 hs | have H' := (HS.alloc _).drew.call1 hs); clear HS; have HS := H'; clear H'; have F := HS.facts; simp only [Own.Facts, Own.Cells, World.size_alloc, List.cons_append, List.nil_append, List.eraseIdx_cons_succ, List.eraseIdx_cons_zero, List.eraseIdx_zero, List.tail_cons, Nat.zero_add] at F))
          all_goals
            have hipD := insP_perm ⟨⟨A5, zp.length, c5⟩, ⟨zp, zf, zr, zd, zv⟩⟩ D2
            obtain ⟨D3, hD3⟩ : ∃ N, insP D2 ⟨⟨A5, zp.length, c5⟩, ⟨zp, zf, zr, zd, zv⟩⟩ = N := ⟨_, rfl⟩
            simp only [hD3] at HS hipD ⊢
            have HD3 := Lib.hid hD3
            have HIPD := Lib.hid hipD
            have H4 := (HS.pick 5 rfl).set 0 (.slice A6 D3.length c6)
            simp only [List.eraseIdx_cons_succ, List.eraseIdx_cons_zero, List.cons_append, List.nil_append, List.set_cons_zero, List.set_cons_succ, List.tail_cons] at H4
            clear hD3 hipD
            have F0 := HS.facts
            simp only [Own.Facts, Own.Cells, Nat.zero_add, List.cons_append, List.nil_append] at F0
            clear HS F hcell
            replace H4 := (H4.pick 7 rfl).drop
            replace H4 := H4.pick 2 rfl
            replace H4 := H4.pick 2 rfl
            replace H4 := H4.pick 6 rfl
            replace H4 := H4.pick 3 rfl
            replace H4 := H4.pick 6 rfl
            replace H4 := H4.pick 6 rfl
            replace H4 := H4.pick 6 rfl
            try simp only [List.eraseIdx_cons_succ, List.eraseIdx_cons_zero, List.cons_append, List.nil_append, List.set_cons_zero, List.set_cons_succ, List.tail_cons] at H4
            have HS := H4
            have hcell := HZC.out _ (own_bare HS)
            clear H4
            have F := HS.facts; simp only [Own.Facts, Own.Cells, World.size_alloc, List.cons_append, List.nil_append, List.eraseIdx_cons_succ, List.eraseIdx_cons_zero, List.eraseIdx_zero, List.tail_cons, Nat.zero_add] at F
            go_wp2
            clear F0
            go_region_with (first | (go_at_call 51; refine (l3Leaf zp zf zr zd zv _ _ (by first | exact HS.old hat | exact HS.drew.old hat) hpz).mono ?_; rintro e w1 ⟨A7, c7, rfl, hs⟩; (first | have H' := HS.call1 hs | have H' := HS.drew.call1 hs | have H' := (HS.box0 [_] _).call1 hs | have H' := ((HS.box0 [_] _).box0 [_] _).call1 hs | have H' := (HS.box0 [_] _).drew.call1 hs | have H' := (HS.alloc _).call1 hs | have H' := ((HS.alloc _).alloc _).call1 hs | have H' := (HS.alloc _).drew.call1 hs); clear HS; have HS := H'; clear H'; have F := HS.facts; simp only [Own.Facts, Own.Cells, World.size_alloc, List.cons_append, List.nil_append, List.eraseIdx_cons_succ, List.eraseIdx_cons_zero, List.eraseIdx_zero, List.tail_cons, Nat.zero_add] at F) | (go_at_call 52; refine (l3Put K2 ⟨⟨A7, zp.length, c7⟩, ⟨zp, zf, zr, zd, zv⟩⟩ _ _ (HS.rd 1 rfl) (HPA.out _ [_, _, _, _, _, _, _, _, _, _, _] HS).1 (HS.rd 0 rfl) (by omega)).mono ?_; rintro e w1 ⟨A8, c8, rfl, hs⟩; (first | have H' := HS.call1 hs | have H' := HS.drew.call1 hs | have H' := (HS.box0 [_] _).call1 hs | have H' := ((HS.box0 [_] _).box0 [_] _).call1 hs | have H' := (HS.box0 [_] _).drew.call1 hs | have H' := (HS.alloc _).call1 hs | have H' := ((HS.alloc _).alloc _).call1 hs | have H' := (HS.alloc _).drew.call1 hs); clear HS; have HS := H'; clear H'; have F := HS.facts; simp only [Own.Facts, Own.Cells, World.size_alloc, List.cons_append, List.nil_append, List.eraseIdx_cons_succ, List.eraseIdx_cons_zero, List.eraseIdx_zero, List.tail_cons, Nat.zero_add] at F))
            all_goals
              have hipK := insP_perm ⟨⟨A7, zp.length, c7⟩, ⟨zp, zf, zr, zd, zv⟩⟩ K2
              have HPT2 := Lib.hid (putLoop_step HPT.out HJ.out ⟨⟨A7, zp.length, c7⟩, ⟨zp, zf, zr, zd, zv⟩⟩ ⟨⟨A5, zp.length, c5⟩, ⟨zp, zf, zr, zd, zv⟩⟩ rfl rfl)
              obtain ⟨K3, hK3⟩ : ∃ N, insP K2 ⟨⟨A7, zp.length, c7⟩, ⟨zp, zf, zr, zd, zv⟩⟩ = N := ⟨_, rfl⟩
              simp only [hK3] at HS hipK HPT2 ⊢
              have H4 := (HS.pick 3 rfl).set 0 (.slice A8 K3.length c8)
              simp only [List.eraseIdx_cons_succ, List.eraseIdx_cons_zero, List.cons_append, List.nil_append, List.set_cons_zero, List.set_cons_succ, List.tail_cons] at H4
              have e3 := HD3.out
              have e4 := HC3.out
              have e5 := HR3.out
              try simp only at e4 e5
              have HPT3 := Lib.hid (show putLoop s gone P (j + 1) K3 D3 C3 R3 by rw [← e3, ← e4, ← e5]; exact HPT2.out)
              clear hK3 hcell HPT2 e3 e4 e5 F
              have F := HS.facts
              simp only [Own.Facts, Own.Cells, Nat.zero_add, List.cons_append, List.nil_append] at F
              clear HS
              replace H4 := (H4.pick 3 rfl).drop
              replace H4 := H4.pick 6 rfl
              replace H4 := H4.pick 6 rfl
              replace H4 := H4.pick 6 rfl
              replace H4 := H4.pick 6 rfl
              replace H4 := H4.pick 4 rfl
              replace H4 := H4.pick 5 rfl
              replace H4 := H4.pick 7 rfl
              replace H4 := H4.pick 7 rfl
              try simp only [List.eraseIdx_cons_succ, List.eraseIdx_cons_zero, List.cons_append, List.nil_append, List.set_cons_zero, List.set_cons_succ, List.tail_cons] at H4
              rw [← HPW.out] at H4
              have H6 := H4.perm (perm_two hipK HIPD.out)
              clear H4 hipK
              go_wp2
              go_roundw
              case rel => exact ⟨j + 1, K3, D3, C3, R3, _, _, _, _, by omega, by go_num, HPT3, H6⟩
              case measure => simp [intOf]; omega
        · obtain rfl : j = ys.length := by omega
          have HPT4 := HPT.out
          unfold putLoop at HPT4
          rw [show P.take ys.length = P by rw [← HP.out]; exact List.take_of_length_le (by simp)] at HPT4
          obtain ⟨e1, e2, e3, e4, _⟩ := HPT4
          obtain ⟨N, hN⟩ : ∃ N, chN s gone P = N := ⟨_, rfl⟩
          obtain ⟨D0, hD0⟩ : ∃ D, chD s gone P = D := ⟨_, rfl⟩
          have eK : K2.map (·.l) = N.l := by rw [← hN]; exact e1
          have eD : D2.map (·.l) = D0.l := by rw [← hD0]; exact e2
          have eC : C2 = N.c := by rw [← hN]; exact e3
          have eR : R2 = D0.c := by rw [← hD0]; exact e4
          have HR := Lib.hid (show chR s gone P = if (fitsB N.l N.c && fitsB D0.l D0.c) = true then (N, D0, 0) else (⟨[], []⟩, ⟨[], []⟩, 4) by unfold chR chOk; rw [hN, hD0]; rfl)
          have hKl : K2.length = N.l.length := by rw [← eK]; simp
          have hDl : D2.length = D0.l.length := by rw [← eD]; simp
          have HKL := Lib.hid (And.intro hKl hDl)
          rw [← HPW.out] at HS
          subst eC eR
          rw [hKl, hDl] at HS
          try rw [hKl]
          try rw [hDl]
          have HS3 := (HS.perm perm_mid8).deepen
          rw [eK] at HS3
          have HS4 := ((HS3.pick 5 rfl).perm perm_mid8b).deepen
          rw [eD] at HS4
          replace HS4 := HS4.pick 4 rfl
          replace HS4 := HS4.pick 3 rfl
          replace HS4 := HS4.pick 5 rfl
          replace HS4 := HS4.pick 3 rfl
          replace HS4 := HS4.pick 5 rfl
          replace HS4 := HS4.pick 5 rfl
          try simp only [List.eraseIdx_cons_succ, List.eraseIdx_cons_zero, List.cons_append, List.nil_append, List.set_cons_zero, List.set_cons_succ, List.tail_cons] at HS4
          clear e1 e2 e3 e4 HS HS3 hN hD0 eK eD hKl hDl HPA HPT hlK hlD
          have HS := HS4
          clear HS4
          have F := HS.facts; simp only [Own.Facts, Own.Cells, World.size_alloc, List.cons_append, List.nil_append, List.eraseIdx_cons_succ, List.eraseIdx_cons_zero, List.eraseIdx_zero, List.tail_cons, Nat.zero_add] at F
          cases hf : fitsB D0.l D0.c
          · have HQ := Lib.hid (show chR s gone P = (⟨[], []⟩, ⟨[], []⟩, 4) by rw [HR.out, hf]; simp)
            go_wp2_with fail
            refine (specFits D0.l D0.c _ _ _ (HS.rd 2 rfl) (HS.rd 3 rfl)).mono ?_; rintro e w3 ⟨rfl, hb⟩; (first | have H' := HS.of_below hb | have H' := HS.drew.of_below hb | have H' := (HS.box0 [_] _).of_below hb | have H' := ((HS.box0 [_] _).box0 [_] _).of_below hb | have H' := (HS.alloc _).of_below hb | have H' := ((HS.alloc _).alloc _).of_below hb); clear HS; have HS := H'; clear H'; have F := HS.facts; simp only [Own.Facts, Own.Cells, World.size_alloc, List.cons_append, List.nil_append, List.eraseIdx_cons_succ, List.eraseIdx_cons_zero, List.eraseIdx_zero, List.tail_cons, Nat.zero_add] at F
            rw [hf]
            clear hf
            go_wp2
            have H2 := (((HS.pick 7 rfl).set 0 (.slice none 0 0)).set 1 (.slice none 0 0)).pick 7 rfl
            have H3 := ((H2.set 0 (.slice none 0 0)).set 1 (.slice none 0 0))
            have H4 := own_take 0 H3
            have H5 := (((H4.nil (α := Rn)).nil (α := Lf)).nil (α := Rn)).nil (α := Lf)
            exact bodyPost_ret (v := .tuple #[.agg #[.slice none 0 0, .slice none 0 0], .agg #[.slice none 0 0, .slice none 0 0], .int .i64 4]) (by simp [results, Tryz.results26, go_sem, *]) rfl ⟨none, 0, none, 0, none, 0, none, 0, by rw [HQ.out]; rfl, by rw [HQ.out]; exact H5⟩
          · go_wp2_with fail
            refine (specFits D0.l D0.c _ _ _ (HS.rd 2 rfl) (HS.rd 3 rfl)).mono ?_; rintro e w3 ⟨rfl, hb⟩; (first | have H' := HS.of_below hb | have H' := HS.drew.of_below hb | have H' := (HS.box0 [_] _).of_below hb | have H' := ((HS.box0 [_] _).box0 [_] _).of_below hb | have H' := (HS.alloc _).of_below hb | have H' := ((HS.alloc _).alloc _).of_below hb); clear HS; have HS := H'; clear H'; have F := HS.facts; simp only [Own.Facts, Own.Cells, World.size_alloc, List.cons_append, List.nil_append, List.eraseIdx_cons_succ, List.eraseIdx_cons_zero, List.eraseIdx_zero, List.tail_cons, Nat.zero_add] at F
            rw [hf]
            have HF := Lib.hid hf
            clear hf
            cases hf2 : fitsB N.l N.c
            · have HQ := Lib.hid (show chR s gone P = (⟨[], []⟩, ⟨[], []⟩, 4) by rw [HR.out, hf2]; rfl)
              go_wp2_with fail
              refine (specFits N.l N.c _ _ _ (HS.rd 0 rfl) (HS.rd 1 rfl)).mono ?_; rintro e w4 ⟨rfl, hb⟩; (first | have H' := HS.of_below hb | have H' := HS.drew.of_below hb | have H' := (HS.box0 [_] _).of_below hb | have H' := ((HS.box0 [_] _).box0 [_] _).of_below hb | have H' := (HS.alloc _).of_below hb | have H' := ((HS.alloc _).alloc _).of_below hb); clear HS; have HS := H'; clear H'; have F := HS.facts; simp only [Own.Facts, Own.Cells, World.size_alloc, List.cons_append, List.nil_append, List.eraseIdx_cons_succ, List.eraseIdx_cons_zero, List.eraseIdx_zero, List.tail_cons, Nat.zero_add] at F
              rw [hf2]
              clear hf2
              go_wp2
              have H2 := (((HS.pick 7 rfl).set 0 (.slice none 0 0)).set 1 (.slice none 0 0)).pick 7 rfl
              have H3 := ((H2.set 0 (.slice none 0 0)).set 1 (.slice none 0 0))
              have H4 := own_take 0 H3
              have H5 := (((H4.nil (α := Rn)).nil (α := Lf)).nil (α := Rn)).nil (α := Lf)
              exact bodyPost_ret (v := .tuple #[.agg #[.slice none 0 0, .slice none 0 0], .agg #[.slice none 0 0, .slice none 0 0], .int .i64 4]) (by simp [results, Tryz.results26, go_sem, *]) rfl ⟨none, 0, none, 0, none, 0, none, 0, by rw [HQ.out]; rfl, by rw [HQ.out]; exact H5⟩
            · have HQ := Lib.hid (show chR s gone P = (N, D0, 0) by rw [HR.out, hf2, HF.out]; rfl)
              go_wp2_with fail
              refine (specFits N.l N.c _ _ _ (HS.rd 0 rfl) (HS.rd 1 rfl)).mono ?_; rintro e w4 ⟨rfl, hb⟩; (first | have H' := HS.of_below hb | have H' := HS.drew.of_below hb | have H' := (HS.box0 [_] _).of_below hb | have H' := ((HS.box0 [_] _).box0 [_] _).of_below hb | have H' := (HS.alloc _).of_below hb | have H' := ((HS.alloc _).alloc _).of_below hb); clear HS; have HS := H'; clear H'; have F := HS.facts; simp only [Own.Facts, Own.Cells, World.size_alloc, List.cons_append, List.nil_append, List.eraseIdx_cons_succ, List.eraseIdx_cons_zero, List.eraseIdx_zero, List.tail_cons, Nat.zero_add] at F
              rw [hf2]
              clear hf2
              go_wp2
              have hd1 := own_ne ((HS.pick 4 rfl).pick 7 rfl)
              have hd2 := own_ne ((HS.pick 4 rfl).pick 6 rfl)
              have hd3 := own_ne ((HS.pick 5 rfl).pick 7 rfl)
              have hd4 := own_ne ((HS.pick 5 rfl).pick 6 rfl)
              have hd5 := hd1.symm
              have hd6 := hd2.symm
              have hd7 := hd3.symm
              have hd8 := hd4.symm
              first | go_region | go_big_region
              all_goals
                go_wp2
                have H2 := (((HS.pick 7 rfl).set 0 (.slice AK N.l.length cK)).set 1 (.slice AC N.c.length cC)).pick 7 rfl
                have H3 := ((H2.set 0 (.slice AD D0.l.length cD)).set 1 (.slice AR D0.c.length cR))
                have H4 := own_take 4 H3.drop.drop
                exact bodyPost_ret (v := .tuple #[.agg #[.slice AK N.l.length cK, .slice AC N.c.length cC], .agg #[.slice AD D0.l.length cD, .slice AR D0.c.length cR], .int .i64 0]) (by simp [results, Tryz.results26, go_sem, *]) rfl ⟨AK, cK, AC, cC, AD, cD, AR, cR, by rw [HQ.out], by rw [HQ.out]; first | exact H4 | exact H4.drew⟩
end Go.Proofs.YtkafflbakgkpcaaGreat
