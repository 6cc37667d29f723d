/- The reference's change. -/
import Derived.Test.YtkafflbakgkpcaaGreatJn
import Derived.Test.YtkafflbakgkpcaaGreatJd
import Derived.Test.YtkafflbakgkpcaaGreatLk
import Derived.Test.YtkafflbakgkpcaaGreatKd
import Derived.Deep.RegionLaw
namespace Go.Proofs.YtkafflbakgkpcaaGreat
set_option linter.unusedSimpArgs false
set_option linter.unusedVariables false
open Go.RowKit Go.Ow
attribute [local irreducible] wpQuiet
set_option maxRecDepth 100000
theorem uni_snoc (y : Rn) : ∀ (ys xs : List Rn), uni xs (ys ++ [y]) = ins [] y [] (uni xs ys)
  | [], xs => by rw [List.nil_append, uni, uni, uni]
  | z :: ys, xs => by rw [List.cons_append, uni, uni, uni_snoc y ys]
theorem dotsR_snoc (l : List Lf) (x : Lf) : dotsR (l ++ [x]) = dotsR l ++ [⟨x.dr, x.ds, x.ds⟩] := by unfold dotsR; rw [List.map_append]; rfl
theorem uni_nil (xs : List Rn) : uni xs [] = xs := by rw [uni]
theorem perm_app {r s t1 t2 t3 t4 t5 t6 t7 : Ds} {L : List Ds} {x : Ds} : (r :: s :: x :: t1 :: t2 :: t3 :: t4 :: t5 :: t6 :: t7 :: L).Perm (r :: s :: t1 :: t2 :: t3 :: t4 :: t5 :: t6 :: t7 :: (L ++ [x])) := by
  have h1 : (x :: ([t1, t2, t3, t4, t5, t6, t7] ++ L)).Perm (([t1, t2, t3, t4, t5, t6, t7] ++ L) ++ [x]) := List.perm_append_comm (l₁ := [x])
  have h2 : ([t1, t2, t3, t4, t5, t6, t7] ++ L) ++ [x] = [t1, t2, t3, t4, t5, t6, t7] ++ (L ++ [x]) := List.append_assoc _ _ _
  rw [h2] at h1
  exact (h1.cons s).cons r
def chLoop (s : St) (gone : Lf → Bool) (k : Nat) (K : List Pf) (DR : List Rn) : Prop :=
  K.map (·.l) = (s.l.take k).filter (fun x => !gone x) ∧ DR = uni [] (dotsR ((s.l.take k).filter gone)) ∧ DR.length ≤ k
theorem chLoop_no {s : St} {gone : Lf → Bool} {k : Nat} {K : List Pf} {DR : List Rn} {x : Lf} (h : chLoop s gone k K DR) (ht : s.l.take (k + 1) = s.l.take k ++ [x]) (hg : gone x = false) (z : Pf) (hz : z.l = x) : chLoop s gone (k + 1) (K ++ [z]) DR := by
  obtain ⟨h1, h2, h3⟩ := h
  refine ⟨?_, ?_, by omega⟩
  · rw [ht, List.filter_append, List.map_append, h1, List.filter_cons_of_pos (by simp [hg])]; simp [hz]
  · rw [ht, List.filter_append, List.filter_cons_of_neg (by simp [hg]), List.filter_nil, List.append_nil]; exact h2
theorem chLoop_yes {s : St} {gone : Lf → Bool} {k : Nat} {K : List Pf} {DR : List Rn} {x : Lf} (h : chLoop s gone k K DR) (ht : s.l.take (k + 1) = s.l.take k ++ [x]) (hg : gone x = true) : chLoop s gone (k + 1) K (ins [] ⟨x.dr, x.ds, x.ds⟩ [] DR) := by
  obtain ⟨h1, h2, h3⟩ := h
  refine ⟨?_, ?_, ?_⟩
  · rw [ht, List.filter_append, List.filter_cons_of_neg (by simp [hg]), List.filter_nil, List.append_nil]; exact h1
  · rw [ht, List.filter_append, List.filter_cons_of_pos hg, List.filter_nil, dotsR_snoc, uni_snoc, ← h2]
  · have := ins_len DR [] ⟨x.dr, x.ds, x.ds⟩ []
    simp only [List.length_nil] at this; omega
set_option maxHeartbeats 32000000 in
theorem l3ChangeR (s : St) (gone : Lf → Bool) (gs : List Bool) (vl vc vg vp : Value) (w : World) (h1 : Rd w vl s.l) (h2 : Rd w vc s.c) (hg : Rd w vg gs) (hp : Rd w vp ([] : List Pf)) (hgs : gs = s.l.map gone)
    (hn : s.l.length ≤ 1048576) (hpl : ∀ y ∈ s.l, y.p.length ≤ 1048576) (hc : s.c.length ≤ 1048576) :
    Calls Tryz.prog 26 #[.agg #[vl, vc], vg, vp] w fun e w' => ∃ A c A2 c2 A3 c3 A4 c4, e = .returned (.tuple #[.agg #[.slice A (chR s gone []).1.l.length c, .slice A2 (chR s gone []).1.c.length c2], .agg #[.slice A3 (chR s gone []).2.1.l.length c3, .slice A4 (chR s gone []).2.1.c.length c4], .int .i64 (chR s gone []).2.2]) ∧
      Own w [.own (.slice A (chR s gone []).1.l.length c) (chR s gone []).1.l, .own (.slice A2 (chR s gone []).1.c.length c2) (chR s gone []).1.c, .own (.slice A3 (chR s gone []).2.1.l.length c3) (chR s gone []).2.1.l, .own (.slice A4 (chR s gone []).2.1.c.length c4) (chR s gone []).2.1.c] w' := by
  obtain ⟨zs, hz, hatz, hpf⟩ := rd_pf h1
  obtain ⟨A1, c1, rfl, _, _⟩ := h1.val
  obtain ⟨A2, c2, rfl, _, _⟩ := h2.val
  obtain ⟨Ag, cg, rfl, _, _⟩ := hg.val
  obtain ⟨Ap, cp, rfl, _, _⟩ := hp.val
  have hl : s.l.length = zs.length := by rw [← hz]; simp
  have hgl : gs.length = zs.length := by rw [hgs, ← hl]; simp
  have HZ := Lib.hid hz
  have HAT := Lib.hid hatz
  have HPL := Lib.hid (show ∀ z ∈ zs, z.l.p.length ≤ 1048576 from fun z h => hpl z.l (by rw [← hz]; exact List.mem_map.2 ⟨z, h, rfl⟩))
  have HGS := Lib.hid (show ∀ i (h : i < zs.length) (h2 : i < gs.length), gs[i] = gone zs[i].l from fun i h h2 => by
    have e : ∀ (L : List Lf) (e : zs.map (·.l) = L) (hi : i < L.length), L[i] = zs[i].l := by intro L e hi; subst e; simp
    subst hgs
    rw [List.getElem_map]
    exact congrArg gone (e _ hz _))
  have HGL := Lib.hid hgl
  rw [hl] at hpf
  rw [hl, hgl]
  rw [hgl] at hg
  have hnz : zs.length ≤ 1048576 := by rw [← hl]; exact hn
  have HSL := Lib.hid hl
  clear hz hatz hpl hgs hl hgl h1 hn hp
  try simp only [List.length_nil]
  have HS := (((((Own.start w).box [.slice A1 zs.length c1, .slice A2 s.c.length c2] 36).box (b := w.heap.size + 1) [.slice none 0 0, .slice none 0 0] 36).box (b := w.heap.size + 1 + 1) [.slice none 0 0, .slice none 0 0] 36).lit ([] : List Pf) #[] 57 rfl rfl (by simp)).lit ([] : List Rn) #[] 81 rfl rfl (by simp)
  simp only [World.size_alloc] at HS
  have HB := (HS.box (b := w.heap.size + 1 + 1 + 1 + 1 + 1) [.slice (some ⟨w.heap.size + 1 + 1 + 1, 0, none⟩) 0 0, .slice (some ⟨w.heap.size + 1 + 1 + 1 + 1, 0, none⟩) 0 0] 36 (by simp only [World.size_alloc])).lit ([] : List Pf) #[] 57 rfl rfl (by simp)
  simp only [World.size_alloc] at HB
  have HS := HB
  clear HB
  have F := HS.facts; simp only [Own.Facts, Own.Cells, World.size_alloc, List.cons_append, List.nil_append, List.eraseIdx_cons_succ, List.eraseIdx_cons_zero, List.eraseIdx_zero, List.tail_cons, Nat.zero_add] at F
  go_enter Tryz.func26, Tryz.ntmps26
  go_wp2_with fail
  refine (l2UnionC s.c [] _ _ _ (HS.old h2) (HS.rd 2 rfl) (by simp; omega)).mono ?_
  rintro e w1 ⟨vr, rfl, hs⟩
  rw [uni_nil] at hs
  obtain ⟨Ac, cc, rfl, _, _⟩ := (hs.rd 0 rfl).val
  replace HS := HS.call1 hs
  clear hs F
  obtain ⟨bn, hbn⟩ : ∃ n, w1.heap.size = n := ⟨_, rfl⟩
  replace HS := HS.box (b := bn) [.slice (some ⟨w.heap.size + 1 + 1 + 1 + 1 + 1 + 1, 0, none⟩) 0 0, .slice Ac s.c.length cc] 36 hbn
  obtain ⟨sz, hsz⟩ : ∃ n, w.heap.size = n := ⟨_, rfl⟩
  rw [hsz] at HS ⊢
  have F := HS.facts; simp only [Own.Facts, Own.Cells, World.size_alloc, List.cons_append, List.nil_append, List.eraseIdx_cons_succ, List.eraseIdx_cons_zero, List.eraseIdx_zero, List.tail_cons, Nat.zero_add] at F
  go_wp2
  try simp only [hbn, hsz]
  clear hbn hsz F
  obtain ⟨bd, hbd⟩ : ∃ n, sz + 1 + 1 + 1 + 1 + 1 = n := ⟨_, rfl⟩
  rw [hbd] at HS ⊢
  clear hbd
  have HS0 := HS.pick 2 rfl
  simp only [List.eraseIdx_cons_succ, List.eraseIdx_cons_zero, List.length_nil] at HS0
  go_loopw [11] (fun i wr => ∃ (k : Nat) (K : List Pf) (DR : List Rn) (uK uD : Value), k ≤ zs.length ∧ i = .int .i64 k ∧ Hid (chLoop s gone k K DR) ∧ Own w (.own uK K :: .box bn 36 [uK, .slice Ac s.c.length cc] :: .own (.slice Ac s.c.length cc) s.c :: .box bd 36 [.slice (some ⟨sz + 1 + 1 + 1, 0, none⟩) 0 0, uD] :: .own uD DR :: .own (.slice (some ⟨sz + 1 + 1 + 1, 0, none⟩) 0 0) ([] : List Pf) :: .box (sz + 1 + 1) 36 [.slice none 0 0, .slice none 0 0] :: .box (sz + 1) 36 [.slice none 0 0, .slice none 0 0] :: .box sz 36 [.slice A1 zs.length c1, .slice A2 s.c.length c2] :: K.map pown) wr) (fun i _ => zs.length - (intOf i).toNat)
  case atStart => exact ⟨0, [], [], _, _, by omega, rfl, Lib.hid ⟨by simp, by simp [dotsR, uni_nil], by simp⟩, HS0⟩
  case round =>
    obtain ⟨k, K, DR, uK, uD, hk, hki, HCL, HS'⟩ := hrel
    subst hki
    clear HS HS0
    have HS := HS'
    clear HS'
    obtain ⟨AK, cK, rfl, _, _⟩ := (HS.rd 0 rfl).val
    obtain ⟨AD, cD, rfl, _, _⟩ := (HS.rd 4 rfl).val
    have hdl : DR.length ≤ 1048576 := by have := HCL.out.2.2; omega
    have hkl : K.length ≤ 1048576 := by
      have e := congrArg List.length HCL.out.1
      rw [List.length_map] at e
      have e1 := List.length_filter_le (fun x => !gone x) (s.l.take k)
      have e2 := List.length_take_le k s.l
      omega
    by_cases hlt : k < zs.length
    · obtain ⟨b1, o1, rfl⟩ := hpf.fix (by omega)
      have hcell := Pf.cells (HS.old hpf) k hlt
      obtain ⟨bg, og, rfl⟩ := hg.fix (by rw [HGL.out]; omega)
      have hgc := (HS.old hg).get k (by rw [HGL.out]; exact hlt) 0 (by decide)
      have hg2 := HGS.out k hlt (by rw [HGL.out]; exact hlt)
      obtain ⟨z, hz⟩ : ∃ z, zs[k] = z := ⟨_, rfl⟩
      have hat := HAT.out zs[k] (List.getElem_mem hlt)
      have hpz := HPL.out zs[k] (List.getElem_mem hlt)
      rw [hz] at hat hpz hcell hg2
      have HT := Lib.hid (show s.l.take (k + 1) = s.l.take k ++ [z.l] by rw [← HZ.out, ← List.map_take, ← List.map_take, List.take_succ_eq_append_getElem hlt, List.map_append, hz]; rfl)
      have HZK := Lib.hid hz
      clear hz
      obtain ⟨⟨Az, nz, cz⟩, ⟨zp, zf, zr, zd, zv⟩⟩ := z
      obtain rfl : nz = zp.length := hat.len
      simp only [Pf.at_, Sv.v] at hat hpz hcell
      simp only at hg2
      obtain ⟨PW, hPW⟩ : ∃ PW, K.map pown = PW := ⟨_, rfl⟩
      rw [hPW] at HS
      have HPW := Lib.hid hPW
      clear hPW
      obtain ⟨gk, hgk⟩ : ∃ g, gone ⟨zp, zf, zr, zd, zv⟩ = g := ⟨_, rfl⟩
      rw [hgk] at hg2
      simp only [hg2, Fl.fl, show Cd.z Bool = 1 from rfl, Nat.add_zero, Nat.mul_one, List.getElem?_cons_zero] at hgc
      have HGK := Lib.hid hgk
      have HGW := Lib.hid hg2
      clear hgk hg2
      have HSX := (HS.box (b := wr.heap.size) [.int .i64 zr, .int .i64 zd] 55).pick 1 rfl
      simp only [List.eraseIdx_cons_succ, List.eraseIdx_cons_zero] at HSX
      have hgb := World.block_lt_of_cell? _ _ hgc
      have hgc2 := (HSX.old hg).get k (by rw [HGL.out]; exact hlt) 0 (by decide)
      rw [HGW.out] at hgc2
      simp only [Fl.fl, show Cd.z Bool = 1 from rfl, Nat.add_zero, Nat.mul_one, List.getElem?_cons_zero] at hgc2
      have F := HS.facts; simp only [Own.Facts, Own.Cells, World.size_alloc, List.cons_append, List.nil_append, List.eraseIdx_cons_succ, List.eraseIdx_cons_zero, List.eraseIdx_zero, List.tail_cons, Nat.zero_add] at F
      cases gk
      · go_wp2
        clear F
        have HS := HSX
        clear HSX hcell
        have hcell := Pf.cells (HS.old hpf) k hlt
        rw [HZK.out] at hcell
        simp only [Pf.at_, Sv.v] at hcell
        have F := HS.facts; simp only [Own.Facts, Own.Cells, World.size_alloc, List.cons_append, List.nil_append, List.eraseIdx_cons_succ, List.eraseIdx_cons_zero, List.eraseIdx_zero, List.tail_cons, Nat.zero_add] at F
        go_region_law (first | ((fail_if_success have hh := HL); go_wp2_with ((go_at_call 51; refine (l3Leaf zp zf zr zd zv _ _ (by first | exact HS.old hat | exact HS.drew.old hat) hpz).mono ?_; rintro e w1 ⟨A5, c5, rfl, hs⟩; skip; (first | have H' := HS.call1 hs | have H' := HS.drew.call1 hs | have H' := (HS.box0 [_] _).call1 hs | have H' := ((HS.box0 [_] _).box0 [_] _).call1 hs | have H' := (HS.box0 [_] _).drew.call1 hs | have H' := (HS.alloc _).call1 hs | have H' := ((HS.alloc _).alloc _).call1 hs | have H' := (HS.alloc _).drew.call1 hs); clear HS; have HS := H'; clear H'; have F := HS.facts; simp only [Own.Facts, Own.Cells, World.size_alloc, List.cons_append, List.nil_append, List.eraseIdx_cons_succ, List.eraseIdx_cons_zero, List.eraseIdx_zero, List.tail_cons, Nat.zero_add] at F; try (have HL := (HS.lit [(⟨⟨A5, zp.length, c5⟩, ⟨zp, zf, zr, zd, zv⟩⟩ : Pf)] #[.slice A5 zp.length c5, .bool zf, .int .i64 zr, .int .i64 zd, .string zv] 57 rfl rfl (by simp)).pick 2 rfl; simp only [List.cons_append, List.nil_append, List.eraseIdx_cons_succ, List.eraseIdx_cons_zero] at HL)))) | (refine hp_app (α := Pf) _ _ 31 rfl (by rfl) (by kernel_rfl) _ _ HL rfl _ _ rfl (HL.rd 1 rfl) (by show (_ + 1) * 64 ≤ _; omega) (by show _ + 1 ≤ _; omega) ?_; intro v3 w3 HS3; obtain ⟨A3, c3, rfl, _, _⟩ := (HS3.rd 0 rfl).val; have F3 := HS3.facts; simp only [Own.Facts, Own.Cells, Nat.zero_add] at F3))
        all_goals
          have H4 := (((HS3.pick 1 rfl).drop.pick 2 rfl).drop.pick 2 rfl).set 0 (.slice A3 (K ++ [(⟨⟨A5, zp.length, c5⟩, ⟨zp, zf, zr, zd, zv⟩⟩ : Pf)]).length c3)
          simp only [List.eraseIdx_cons_succ, List.eraseIdx_cons_zero, List.set_cons_zero, List.tail_cons] at H4
          have H5 := (H4.pick 1 rfl).pick 2 rfl
          simp only [List.eraseIdx_cons_succ, List.eraseIdx_cons_zero] at H5
          have H6 := own_end H5
          simp only [List.length_append, List.length_cons, List.length_nil, Nat.zero_add, List.cons_append] at H6
          have e : PW ++ [.own (.slice A5 zp.length c5) zp] = (K ++ [(⟨⟨A5, zp.length, c5⟩, ⟨zp, zf, zr, zd, zv⟩⟩ : Pf)]).map pown := by rw [List.map_append, HPW.out]; rfl
          rw [e] at H6
          clear HS3 H4 H5 F3 HL F HS hcell e
          go_wp2
          go_roundw
          case rel => exact ⟨k + 1, K ++ [(⟨⟨A5, zp.length, c5⟩, ⟨zp, zf, zr, zd, zv⟩⟩ : Pf)], DR, _, _, by omega, by go_num, Lib.hid (chLoop_no HCL.out HT.out HGK.out _ rfl), H6⟩
          case measure => simp [intOf]; omega
      · go_wp2_with fail
        clear F
        have HS := HSX.pick 1 rfl
        simp only [List.eraseIdx_cons_succ, List.eraseIdx_cons_zero] at HS
        clear HSX
        refine (l2InsertC DR ⟨zr, zd, zd⟩ _ _ (HS.rd 5 rfl) (by omega)).mono ?_
        rintro e w3 ⟨v', rfl, hs⟩
        replace HS := HS.call1 hs
        obtain ⟨NR, hNR⟩ : ∃ N, ins [] ⟨zr, zd, zd⟩ [] DR = N := ⟨_, rfl⟩
        rw [hNR] at HS
        have HNR := Lib.hid hNR
        obtain ⟨AE, cE, rfl, _, _⟩ := (HS.rd 0 rfl).val
        clear hs hNR
        have F := HS.facts; simp only [Own.Facts, Own.Cells, World.size_alloc, List.cons_append, List.nil_append, List.eraseIdx_cons_succ, List.eraseIdx_cons_zero, List.eraseIdx_zero, List.tail_cons, Nat.zero_add] at F
        go_wp2
        have H2 := (HS.pick 5 rfl).set 1 (.slice AE NR.length cE)
        simp only [List.eraseIdx_cons_succ, List.eraseIdx_cons_zero, List.set_cons_zero, List.set_cons_succ] at H2
        have H3 := ((((H2.pick 2 rfl).drop.pick 5 rfl).drop.pick 4 rfl).pick 4 rfl).pick 4 rfl
        simp only [List.eraseIdx_cons_succ, List.eraseIdx_cons_zero, List.tail_cons] at H3
        go_roundw
        case rel => exact ⟨k + 1, K, NR, _, _, by omega, by go_num, Lib.hid (by have := chLoop_yes HCL.out HT.out HGK.out; rw [HNR.out] at this; exact this), by rw [HPW.out]; exact H3⟩
        case measure => simp [intOf]; omega
    · have hkz : k = zs.length := by omega
      subst hkz
      obtain ⟨h1, h2', h3⟩ := HCL.out
      have htk : s.l.take zs.length = s.l := by rw [← HSL.out]; exact List.take_length
      rw [htk] at h1 h2'
      obtain ⟨L, hL⟩ : ∃ L, s.l.filter (fun x => !gone x) = L := ⟨_, rfl⟩
      rw [hL] at h1
      have HR := Lib.hid (show chR s gone [] = if (fitsB L s.c && fitsB [] DR) = true then (⟨L, s.c⟩, ⟨[], DR⟩, 0) else (⟨[], []⟩, ⟨[], []⟩, 4) by
        have e1 : chN s gone [] = ⟨L, s.c⟩ := by unfold chN; rw [hL]; simp [dotsR, uni_nil]
        have e2 : chD s gone [] = ⟨[], DR⟩ := by unfold chD; rw [h2', List.append_nil]; rfl
        unfold chR chOk
        rw [e1, e2]
        rfl)
      have HKL := Lib.hid (show K.length = L.length by rw [← h1]; simp)
      have HS3 := ((show Own w (_ :: ([_, _, _, _, _, _, _, _] ++ K.map pown)) wr from HS).perm (List.Perm.cons _ List.perm_append_comm)).deepen
      rw [h1, HKL.out] at HS3
      have HS4 := Own.deepen (zs := []) (HS3.pick 5 rfl)
      have HS5 := (((HS4.pick 5 rfl).pick 1 rfl).pick 4 rfl).pick 3 rfl
      simp only [List.eraseIdx_cons_succ, List.eraseIdx_cons_zero, List.map_nil] at HS5
      clear hL h1 h2' h3 htk HCL HS HS3 HS4 hkl
      have HS := HS5
      clear HS5 HKL
      have F := HS.facts; simp only [Own.Facts, Own.Cells, World.size_alloc, List.cons_append, List.nil_append, List.eraseIdx_cons_succ, List.eraseIdx_cons_zero, List.eraseIdx_zero, List.tail_cons, Nat.zero_add] at F
      go_wp2
      clear F
      go_loopw [13] (fun i wr => i = .int .i64 0 ∧ Own w (.own (.slice AK L.length cK) L :: .own (.slice Ac s.c.length cc) s.c :: .own (.slice (some ⟨sz + 1 + 1 + 1, 0, none⟩) 0 0) ([] : List Lf) :: .own (.slice AD DR.length cD) DR :: .box bn 36 [.slice AK L.length cK, .slice Ac s.c.length cc] :: .box bd 36 [.slice (some ⟨sz + 1 + 1 + 1, 0, none⟩) 0 0, .slice AD DR.length cD] :: .box (sz + 1 + 1) 36 [.slice none 0 0, .slice none 0 0] :: .box (sz + 1) 36 [.slice none 0 0, .slice none 0 0] :: [.box sz 36 [.slice A1 zs.length c1, .slice A2 s.c.length c2]]) wr) (fun _ _ => 0)
      case atStart => exact ⟨rfl, HS⟩
      case round =>
        obtain ⟨hi, HS'⟩ := hrel
        subst hi
        clear HS
        have HS := HS'
        clear HS'
        have F := HS.facts; simp only [Own.Facts, Own.Cells, World.size_alloc, List.cons_append, List.nil_append, List.eraseIdx_cons_succ, List.eraseIdx_cons_zero, List.eraseIdx_zero, List.tail_cons, Nat.zero_add] at F
        cases hf : fitsB ([] : List Lf) DR
        · have HQ := Lib.hid (show chR s gone [] = (⟨[], []⟩, ⟨[], []⟩, 4) by rw [HR.out, hf]; simp)
          go_wp2_with fail
          refine (specFits ([] : List Lf) DR _ _ _ (HS.rd 2 rfl) (HS.rd 3 rfl)).mono ?_; rintro e w3 ⟨rfl, hb⟩; (first | have H' := HS.of_below hb | have H' := HS.drew.of_below hb | have H' := (HS.box0 [_] _).of_below hb | have H' := ((HS.box0 [_] _).box0 [_] _).of_below hb | have H' := (HS.alloc _).of_below hb | have H' := ((HS.alloc _).alloc _).of_below hb); clear HS; have HS := H'; clear H'; have F := HS.facts; simp only [Own.Facts, Own.Cells, World.size_alloc, List.cons_append, List.nil_append, List.eraseIdx_cons_succ, List.eraseIdx_cons_zero, List.eraseIdx_zero, List.tail_cons, Nat.zero_add] at F
          rw [hf]
          clear hf
          go_wp2
          have H2 := (((HS.pick 7 rfl).set 0 (.slice none 0 0)).set 1 (.slice none 0 0)).pick 7 rfl
          have H3 := ((H2.set 0 (.slice none 0 0)).set 1 (.slice none 0 0))
          have H4 := own_take 0 H3
          have H5 := (((H4.nil (α := Rn)).nil (α := Lf)).nil (α := Rn)).nil (α := Lf)
          exact bodyPost_ret (v := .tuple #[.agg #[.slice none 0 0, .slice none 0 0], .agg #[.slice none 0 0, .slice none 0 0], .int .i64 4]) (by simp [results, Tryz.results26, go_sem, *]) rfl ⟨none, 0, none, 0, none, 0, none, 0, by rw [HQ.out]; rfl, by rw [HQ.out]; exact H5⟩
        · go_wp2_with fail
          refine (specFits ([] : List Lf) DR _ _ _ (HS.rd 2 rfl) (HS.rd 3 rfl)).mono ?_; rintro e w3 ⟨rfl, hb⟩; (first | have H' := HS.of_below hb | have H' := HS.drew.of_below hb | have H' := (HS.box0 [_] _).of_below hb | have H' := ((HS.box0 [_] _).box0 [_] _).of_below hb | have H' := (HS.alloc _).of_below hb | have H' := ((HS.alloc _).alloc _).of_below hb); clear HS; have HS := H'; clear H'; have F := HS.facts; simp only [Own.Facts, Own.Cells, World.size_alloc, List.cons_append, List.nil_append, List.eraseIdx_cons_succ, List.eraseIdx_cons_zero, List.eraseIdx_zero, List.tail_cons, Nat.zero_add] at F
          rw [hf]
          have HF := Lib.hid hf
          clear hf
          cases hf2 : fitsB L s.c
          · have HQ := Lib.hid (show chR s gone [] = (⟨[], []⟩, ⟨[], []⟩, 4) by rw [HR.out, hf2]; rfl)
            go_wp2_with fail
            refine (specFits L s.c _ _ _ (HS.rd 0 rfl) (HS.rd 1 rfl)).mono ?_; rintro e w4 ⟨rfl, hb⟩; (first | have H' := HS.of_below hb | have H' := HS.drew.of_below hb | have H' := (HS.box0 [_] _).of_below hb | have H' := ((HS.box0 [_] _).box0 [_] _).of_below hb | have H' := (HS.alloc _).of_below hb | have H' := ((HS.alloc _).alloc _).of_below hb); clear HS; have HS := H'; clear H'; have F := HS.facts; simp only [Own.Facts, Own.Cells, World.size_alloc, List.cons_append, List.nil_append, List.eraseIdx_cons_succ, List.eraseIdx_cons_zero, List.eraseIdx_zero, List.tail_cons, Nat.zero_add] at F
            rw [hf2]
            clear hf2
            go_wp2
            have H2 := (((HS.pick 7 rfl).set 0 (.slice none 0 0)).set 1 (.slice none 0 0)).pick 7 rfl
            have H3 := ((H2.set 0 (.slice none 0 0)).set 1 (.slice none 0 0))
            have H4 := own_take 0 H3
            have H5 := (((H4.nil (α := Rn)).nil (α := Lf)).nil (α := Rn)).nil (α := Lf)
            exact bodyPost_ret (v := .tuple #[.agg #[.slice none 0 0, .slice none 0 0], .agg #[.slice none 0 0, .slice none 0 0], .int .i64 4]) (by simp [results, Tryz.results26, go_sem, *]) rfl ⟨none, 0, none, 0, none, 0, none, 0, by rw [HQ.out]; rfl, by rw [HQ.out]; exact H5⟩
          · have HQ := Lib.hid (show chR s gone [] = (⟨L, s.c⟩, ⟨[], DR⟩, 0) by rw [HR.out, hf2, HF.out]; rfl)
            go_wp2_with fail
            refine (specFits L s.c _ _ _ (HS.rd 0 rfl) (HS.rd 1 rfl)).mono ?_; rintro e w4 ⟨rfl, hb⟩; (first | have H' := HS.of_below hb | have H' := HS.drew.of_below hb | have H' := (HS.box0 [_] _).of_below hb | have H' := ((HS.box0 [_] _).box0 [_] _).of_below hb | have H' := (HS.alloc _).of_below hb | have H' := ((HS.alloc _).alloc _).of_below hb); clear HS; have HS := H'; clear H'; have F := HS.facts; simp only [Own.Facts, Own.Cells, World.size_alloc, List.cons_append, List.nil_append, List.eraseIdx_cons_succ, List.eraseIdx_cons_zero, List.eraseIdx_zero, List.tail_cons, Nat.zero_add] at F
            rw [hf2]
            clear hf2
            go_wp2
            have hd1 := own_ne ((HS.pick 4 rfl).pick 7 rfl)
            have hd2 := own_ne ((HS.pick 4 rfl).pick 6 rfl)
            have hd3 := own_ne ((HS.pick 5 rfl).pick 7 rfl)
            have hd4 := own_ne ((HS.pick 5 rfl).pick 6 rfl)
            have hd5 := hd1.symm
            have hd6 := hd2.symm
            have hd7 := hd3.symm
            have hd8 := hd4.symm
            first | go_region | go_big_region
            all_goals
              go_wp2
              have H2 := (((HS.pick 7 rfl).set 0 (.slice AK L.length cK)).set 1 (.slice Ac s.c.length cc)).pick 7 rfl
              have H3 := ((H2.set 0 (.slice (some ⟨sz + 1 + 1 + 1, 0, none⟩) 0 0)).set 1 (.slice AD DR.length cD))
              have H4 := own_take 4 H3.drop.drop
              exact bodyPost_ret (v := .tuple #[.agg #[.slice AK L.length cK, .slice Ac s.c.length cc], .agg #[.slice (some ⟨sz + 1 + 1 + 1, 0, none⟩) 0 0, .slice AD DR.length cD], .int .i64 0]) (by simp [results, Tryz.results26, go_sem, *]) rfl ⟨AK, cK, Ac, cc, some ⟨sz + 1 + 1 + 1, 0, none⟩, 0, AD, cD, by rw [HQ.out]; rfl, by rw [HQ.out]; first | exact H4 | exact H4.drew⟩
end Go.Proofs.YtkafflbakgkpcaaGreat
