/- One leaf put into a row in order, by the reference. The join of states, by the reference. -/
import Derived.Test.YtohgelmkagcimaaGreatJm
import Derived.Test.YtohgelmkagcimaaGreatLj
import Derived.Test.YtohgelmkagcimaaGreatYb
import Derived.Test.YtohgelmkagcimaaGreatYa
import Derived.Test.YtohgelmkagcimaaGreatFm
import Derived.Test.YtohgelmkagcimaaGreatV7
import Derived.Test.YtohgelmkagcimaaGreatM5
namespace Go.Proofs.YtohgelmkagcimaaGreat
set_option linter.unusedSimpArgs false
set_option linter.unusedVariables false
open Go.RowKit Go.Ow
attribute [local irreducible] wpQuiet
set_option maxRecDepth 100000
theorem subPf {n c : Nat} (A : Option Addr) (l : List Pf) (j : Nat) (hn : n = l.length) (h1 : j ≤ n) (h2 : n ≤ c) :
    ∃ A2 c2, (∀ q, (Instr.sliceAt 31 (.slice A n c) (some (.int .i64 (j : Int))) none none).run Tryz.prog q = .ok (.slice A2 (l.drop j).length c2) q) ∧
      Hid (∀ w, Rd w (.slice A n c) l → Rd w (.slice A2 (l.drop j).length c2) (l.drop j)) := by
  subst hn
  have e1 : ∀ (A : Option Addr) lo hi c z, ∃ A' c', sliced A lo hi c z = .slice A' (hi - lo) c' := by
    intro A lo hi c z; unfold sliced; split <;> exact ⟨_, _, rfl⟩
  obtain ⟨A2, c2, h4⟩ := e1 A j l.length c 5
  have l2 : (l.drop j).length = l.length - j := by simp
  refine ⟨A2, c2, fun q => by rw [l2, ← h4]; exact subL_hi j h1 h2, Lib.hid fun w h => ?_⟩
  have := rd_subV h j l.length h1 (Nat.le_refl _)
  rw [List.take_of_length_le (by simp)] at this
  rw [l2, ← h4]; exact this
set_option maxHeartbeats 4000000 in
theorem l3Put (zs : List Pf) (z : Pf) (v : Value) (w : World) (hv : Rd w v zs) (hat : ∀ y ∈ zs, Pf.at_ w y) (hz : Pf.at_ w z) (hn : zs.length ≤ 4194304) :
    Calls Tryz.prog 111 #[v, lfv z] w fun e w' => ∃ A c, e = .returned (.slice A (insP zs z).length c) ∧ Own w [.own (.slice A (insP zs z).length c) (insP zs z)] w' := by
  obtain ⟨A, c, rfl, hc, hl⟩ := hv.val
  have HIN := Lib.hid (insP_at z zs)
  have HAT := Lib.hid hat
  clear hat
  obtain ⟨⟨Az, nz, cz⟩, ⟨zp, zf, zr, zd, zv⟩⟩ := z
  simp only [Pf.at_, Sv.v] at hz
  obtain rfl : nz = zp.length := hz.len
  obtain ⟨res, hres⟩ : ∃ res, insP zs ⟨⟨Az, zp.length, cz⟩, ⟨zp, zf, zr, zd, zv⟩⟩ = res := ⟨_, rfl⟩
  rw [hres] at HIN ⊢
  clear hres
  have HS := ((Own.start w).box [.slice Az zp.length cz, .bool zf, .int .i64 zr, .int .i64 zd, .string zv] 103).lit ([] : List Pf) #[] 103 rfl rfl (by simp)
  simp only [World.size_alloc] at HS
  show Calls Tryz.prog 111 #[.slice A zs.length c, .agg #[.slice Az zp.length cz, .bool zf, .int .i64 zr, .int .i64 zd, .string zv]] w _
  obtain ⟨sz, hsz⟩ : ∃ n, w.heap.size = n := ⟨_, rfl⟩
  go_enter Tryz.func111, Tryz.ntmps111
  go_wp2
  rw [hsz] at HS
  clear hsz
  go_loopw [5, 6] (fun q i wr => ∃ (ps : List Pf) (u : Value), ps.length ≤ zs.length ∧ i = .int .i64 ps.length ∧ q = u ∧ Hid (ps = zs.take ps.length ∧ ∀ y ∈ ps, before y.l ⟨zp, zf, zr, zd, zv⟩ = true) ∧ Own w [.own u ps, .box sz 103 [.slice Az zp.length cz, .bool zf, .int .i64 zr, .int .i64 zd, .string zv]] wr) (fun _ i _ => zs.length - (intOf i).toNat)
  case atStart => exact ⟨[], _, by simp, rfl, rfl, Lib.hid (by simp), HS⟩
  case round =>
    obtain ⟨ps, u, hk, rfl, rfl, HB, HS'⟩ := hrel
    clear HS
    obtain ⟨Au, cu, rfl, _, _⟩ := (HS'.rd 0 rfl).val
    by_cases hlt : ps.length < zs.length
    · obtain ⟨b, o, rfl⟩ := hv.fix (by omega)
      have hcl := fun (w0 : World) (H : Own w [] w0) => Pf.cells (H.old hv) ps.length hlt
      have hat := HAT.out zs[ps.length] (List.getElem_mem hlt)
      have HTK := Lib.hid (List.take_succ_eq_append_getElem hlt)
      have HB2 := Lib.hid (fun h : before zs[ps.length].l ⟨zp, zf, zr, zd, zv⟩ = true => show ps ++ [zs[ps.length]] = zs.take (ps.length + 1) ∧ ∀ y ∈ ps ++ [zs[ps.length]], before y.l ⟨zp, zf, zr, zd, zv⟩ = true from ⟨by rw [HTK.out, ← HB.out.1], fun y hy => by
        rcases List.mem_append.1 hy with hy | hy
        · exact HB.out.2 y hy
        · rw [List.mem_singleton] at hy; rw [hy]; exact h⟩)
      have HB3 := Lib.hid (fun h : before zs[ps.length].l ⟨zp, zf, zr, zd, zv⟩ = false => show res = (ps ++ [⟨⟨Az, zp.length, cz⟩, ⟨zp, zf, zr, zd, zv⟩⟩]) ++ zs.drop ps.length by
        have := HIN.out ps.length hk (by rw [← HB.out.1]; exact HB.out.2) (fun _ => h)
        rw [← HB.out.1] at this; exact this)
      obtain ⟨y, hy⟩ : ∃ y, zs[ps.length] = y := ⟨_, rfl⟩
      simp only [hy] at hcl hat HTK HB2 HB3
      clear hy
      have HCL := Lib.hid hcl
      clear hcl
      obtain ⟨⟨Ay, ny, cy⟩, ⟨yp, yf, yr, yd, yv⟩⟩ := y
      simp only [Pf.at_, Sv.v] at hat
      obtain rfl : ny = yp.length := hat.len
      simp only [Sv.v] at HCL HTK HB2 HB3
      have hcall : ∀ p : Ext wr, _ := fun p => l3Before ⟨yp, yf, yr, yd, yv⟩ ⟨zp, zf, zr, zd, zv⟩ (.slice Ay yp.length cy) (.slice Az zp.length cz) p.to ((HS'.of_below p.h).old hat) ((HS'.of_below p.h).old hz)
      have hG : ∀ p : Ext wr, _ := fun p => HCL.out p.to (HS'.of_below p.h).drop.drop
      have hL : ∀ p : Ext wr, p.to.cell? ⟨sz, 0, none⟩ = some (.slice Az zp.length cz) ∧ p.to.cell? ⟨sz, 1, none⟩ = some (.bool zf) ∧ p.to.cell? ⟨sz, 2, none⟩ = some (.int .i64 zr) ∧ p.to.cell? ⟨sz, 3, none⟩ = some (.int .i64 zd) ∧ p.to.cell? ⟨sz, 4, none⟩ = some (.string zv) := fun p => by
        have F := ((HS'.of_below p.h).drop).facts
        simp only [Own.Facts, Own.Cells, Nat.zero_add] at F
        exact ⟨F.1.1.1, F.1.1.2.1, F.1.1.2.2.1, F.1.1.2.2.2.1, F.1.1.2.2.2.2.1⟩
      cases hb : before ⟨yp, yf, yr, yd, yv⟩ ⟨zp, zf, zr, zd, zv⟩
      · have HQ := Lib.hid (HB3.out hb)
        simp only [hb] at hcall
        clear hb HB2 HB3 HTK
        go_wp2
        (refine wp_region_ext (by kernel_rfl) (by kernel_rfl) ?_; (repeat (quiet_step (first | exact q_call (hcall _)))); refine wpQuiet_nil ?_; rintro _ ⟨⟨w1, hw1⟩, rfl⟩)
        have H2 := HS'.of_below hw1
        clear hcall hG hL
        obtain ⟨D2, d2, hs2, HV⟩ := subPf (some ⟨b, o, none⟩) zs ps.length rfl hk hc
        have F := H2.drop.facts
        simp only [Own.Facts, Own.Cells, Nat.zero_add] at F
        have HL := (H2.lit [(⟨⟨Az, zp.length, cz⟩, ⟨zp, zf, zr, zd, zv⟩⟩ : Pf)] #[.slice Az zp.length cz, .bool zf, .int .i64 zr, .int .i64 zd, .string zv] 103 rfl rfl (by simp)).pick 1 rfl
        simp only [List.eraseIdx_cons_succ, List.eraseIdx_cons_zero] at HL
        have hdl : (zs.drop ps.length).length ≤ 4194304 := by rw [List.length_drop]; omega
        obtain ⟨ds, hds⟩ : ∃ ds, zs.drop ps.length = ds := ⟨_, rfl⟩
        rw [hds] at hs2 HV HQ hdl
        clear hds
        go_wp2_with (first
          | (refine wp_app2 (α := Pf) rfl _ _ 31 rfl (by kernel_rfl) _ _ HL rfl _ _ rfl (HL.rd 1 rfl) (by show (_ + 1) * 64 ≤ _; omega) (by show _ + 1 ≤ _; omega) ?_; clear HL F; intro v5 q5 w5 hq5 hql5 H5; have hl6 : q5.length ≤ 4194305 := (by simp only [List.length_cons, List.length_nil] at hql5; omega); clear hql5; obtain ⟨A5, c5, rfl, _, _⟩ := (H5.rd 0 rfl).val)
          | (refine wp_app2 (α := Pf) rfl _ _ 31 rfl (by kernel_rfl) _ _ H5 rfl _ _ rfl (HV.out _ (H5.old hv)) (by show (_ + _) * 64 ≤ _; omega) (by omega) ?_; intro v6 q6 w6 hq6 hql6 H6; obtain ⟨A6, c6, rfl, _, _⟩ := (H6.rd 0 rfl).val))
        have HR := Lib.hid (show q6 = res by rw [HQ.out, hq6.out, hq5.out])
        go_ret
        exact ⟨A6, c6, by rw [← HR.out]; rfl, by rw [← HR.out]; exact H6.only⟩
      · have HQ := Lib.hid (HB2.out hb)
        simp only [hb] at hcall
        clear hb HB2 HB3 HTK
        go_wp2
        (refine wp_region_ext (by kernel_rfl) (by kernel_rfl) ?_; (repeat (quiet_step (first | exact q_call (hcall _)))); refine wpQuiet_nil ?_; rintro _ ⟨⟨w1, hw1⟩, rfl⟩)
        have H2 := HS'.of_below hw1
        clear hcall hG hL
        have hcl := HCL.out _ H2.drop.drop
        have HL := (H2.lit [(⟨⟨Ay, yp.length, cy⟩, ⟨yp, yf, yr, yd, yv⟩⟩ : Pf)] #[.slice Ay yp.length cy, .bool yf, .int .i64 yr, .int .i64 yd, .string yv] 103 rfl rfl (by simp)).pick 1 rfl
        simp only [List.eraseIdx_cons_succ, List.eraseIdx_cons_zero] at HL
        go_wp2_with (refine wp_app2 (α := Pf) rfl _ _ 31 rfl (by kernel_rfl) _ _ HL rfl _ _ rfl (HL.rd 1 rfl) (by show (_ + 1) * 64 ≤ _; omega) (by show _ + 1 ≤ _; omega) ?_; clear HL; intro v5 q5 w5 hq5 hql5 H5)
        have HW := (H5.pick 1 rfl).drop
        simp only [List.eraseIdx_cons_succ, List.eraseIdx_cons_zero] at HW
        have HQ5 := Lib.hid (show q5 = zs.take q5.length ∧ ∀ y ∈ q5, before y.l ⟨zp, zf, zr, zd, zv⟩ = true by
          have e := hq5.out
          have el : q5.length = ps.length + 1 := by rw [e]; simp
          rw [el, e]; exact HQ.out)
        have el : q5.length = ps.length + 1 := by rw [hq5.out]; simp
        clear hql5 H5 hq5
        go_roundw
        case rel => exact ⟨q5, _, by omega, by rw [el]; go_num, rfl, HQ5, HW⟩
        case measure => simp [intOf]; omega
    · have HQ := Lib.hid (show res = (ps ++ [⟨⟨Az, zp.length, cz⟩, ⟨zp, zf, zr, zd, zv⟩⟩]) ++ zs.drop ps.length by
        have := HIN.out ps.length hk (by rw [← HB.out.1]; exact HB.out.2) (fun h => absurd h hlt)
        rw [← HB.out.1] at this; exact this)
      go_wp2
      (refine wp_region_ext (by kernel_rfl) (by kernel_rfl) ?_; (repeat (quiet_step (first | fail))); refine wpQuiet_nil ?_; rintro _ ⟨⟨w1, hw1⟩, rfl⟩)
      have H2 := HS'.of_below hw1
      obtain ⟨D2, d2, hs2, HV⟩ := subPf A zs ps.length rfl hk hc
      have F := H2.drop.facts
      simp only [Own.Facts, Own.Cells, Nat.zero_add] at F
      have HL := (H2.lit [(⟨⟨Az, zp.length, cz⟩, ⟨zp, zf, zr, zd, zv⟩⟩ : Pf)] #[.slice Az zp.length cz, .bool zf, .int .i64 zr, .int .i64 zd, .string zv] 103 rfl rfl (by simp)).pick 1 rfl
      simp only [List.eraseIdx_cons_succ, List.eraseIdx_cons_zero] at HL
      have hdl : (zs.drop ps.length).length ≤ 4194304 := by rw [List.length_drop]; omega
      obtain ⟨ds, hds⟩ : ∃ ds, zs.drop ps.length = ds := ⟨_, rfl⟩
      rw [hds] at hs2 HV HQ hdl
      clear hds
      go_wp2_with (first
        | (refine wp_app2 (α := Pf) rfl _ _ 31 rfl (by kernel_rfl) _ _ HL rfl _ _ rfl (HL.rd 1 rfl) (by show (_ + 1) * 64 ≤ _; omega) (by show _ + 1 ≤ _; omega) ?_; clear HL F; intro v5 q5 w5 hq5 hql5 H5; have hl6 : q5.length ≤ 4194305 := (by simp only [List.length_cons, List.length_nil] at hql5; omega); clear hql5; obtain ⟨A5, c5, rfl, _, _⟩ := (H5.rd 0 rfl).val)
        | (refine wp_app2 (α := Pf) rfl _ _ 31 rfl (by kernel_rfl) _ _ H5 rfl _ _ rfl (HV.out _ (H5.old hv)) (by show (_ + _) * 64 ≤ _; omega) (by omega) ?_; intro v6 q6 w6 hq6 hql6 H6; obtain ⟨A6, c6, rfl, _, _⟩ := (H6.rd 0 rfl).val))
      have HR := Lib.hid (show q6 = res by rw [HQ.out, hq6.out, hq5.out])
      go_ret
      exact ⟨A6, c6, by rw [← HR.out]; rfl, by rw [← HR.out]; exact H6.only⟩
end Go.Proofs.YtohgelmkagcimaaGreat
namespace Go.Proofs.YtohgelmkagcimaaGreat
set_option linter.unusedSimpArgs false
set_option linter.unusedVariables false
open Go.RowKit Go.Ow
attribute [local irreducible] wpQuiet
set_option maxRecDepth 100000
theorem own_at {W w : World} {R : List Ds} (HS : Own W R w) {z : Pf} (h : pown z ∈ R) : Pf.at_ w z := by
  obtain ⟨i, hi⟩ := List.getElem?_of_mem h
  exact HS.rd i hi
theorem perm_put {r s t1 t2 t3 t4 : Ds} {ps ps2 : List Pf} {z : Pf} (h : ps2.Perm (z :: ps)) : (r :: s :: pown z :: t1 :: t2 :: t3 :: t4 :: ps.map pown).Perm (r :: s :: t1 :: t2 :: t3 :: t4 :: ps2.map pown) := by
  have h1 : (pown z :: ([t1, t2, t3, t4] ++ ps.map pown)).Perm ([t1, t2, t3, t4] ++ pown z :: ps.map pown) := List.perm_middle.symm
  have h2 : (pown z :: ps.map pown).Perm (ps2.map pown) := (h.map pown).symm
  exact ((h1.trans (List.Perm.append_left _ h2)).cons s).cons r
theorem perm_fin {r s : Ds} {L : List Ds} : (r :: s :: L).Perm (r :: (L ++ [s])) := List.Perm.cons _ (List.perm_append_comm (l₁ := [s]))
set_option maxHeartbeats 16000000 in
theorem l3Join (a b : St) (va vac vb vbc : Value) (w : World) (h1 : Rd w va a.l) (hac : Rd w vac a.c) (h2 : Rd w vb b.l) (hbc : Rd w vbc b.c) (hna : a.l.length ≤ 1048576) (hnb : b.l.length ≤ 1048576) (hpa : ∀ y ∈ a.l, y.p.length ≤ 1048576) (hpb : ∀ y ∈ b.l, y.p.length ≤ 1048576) (hca : a.c.length ≤ 1048576) (hcb : b.c.length ≤ 1048576) :
    Calls Tryz.prog 64 #[.agg #[va, vac], .agg #[vb, vbc]] w fun e w' => ∃ A c A2 c2, e = .returned (.agg #[.slice A (joinL a b).length c, .slice A2 (uni a.c b.c).length c2]) ∧ Own w [.own (.slice A (joinL a b).length c) (joinL a b), .own (.slice A2 (uni a.c b.c).length c2) (uni a.c b.c)] w' := by
  have HBL := Lib.hid h2
  obtain ⟨zsa, hza, hata, hpfa⟩ := rd_pf h1
  obtain ⟨zsb, hzb, hatb, hpfb⟩ := rd_pf h2
  have hla : a.l.length = zsa.length := by rw [← hza]; simp
  have hlb : b.l.length = zsb.length := by rw [← hzb]; simp
  rw [hla] at hna
  rw [hlb] at hnb
  have HZa := Lib.hid hza
  have HZb := Lib.hid hzb
  have HATa := Lib.hid hata
  have HATb := Lib.hid hatb
  have HPa := Lib.hid hpa
  have HPb := Lib.hid hpb
  clear hza hzb hata hatb hpa hpb hla hlb h1 h2
  obtain ⟨A1, c1, rfl, _, _⟩ := hpfa.val
  obtain ⟨A2, c2, rfl, _, _⟩ := hac.val
  obtain ⟨B1, d1, rfl, _, _⟩ := hpfb.val
  obtain ⟨B2, d2, rfl, _, _⟩ := hbc.val
  have HS := ((((Own.start w).box [.slice A1 zsa.length c1, .slice A2 a.c.length c2] 36).box (b := w.heap.size + 1) [.slice B1 zsb.length d1, .slice B2 b.c.length d2] 36).box (b := w.heap.size + 1 + 1) [.slice none 0 0, .slice none 0 0] 36).lit ([] : List Pf) #[] 103 rfl rfl (by simp)
  simp only [World.size_alloc] at HS
  go_enter Tryz.func64, Tryz.ntmps64
  go_wp2_with fail
  refine (l2UnionC a.c b.c _ _ _ (HS.old hac) (HS.old hbc) (by omega)).mono ?_
  rintro e w1 ⟨vr, rfl, hs⟩
  obtain ⟨Ar, cr, rfl, _, _⟩ := (hs.rd 0 rfl).val
  obtain ⟨U, hU⟩ : ∃ U, uni a.c b.c = U := ⟨_, rfl⟩
  rw [hU] at hs ⊢
  obtain ⟨ur, hur⟩ : ∃ n, U.length = n := ⟨_, rfl⟩
  rw [hur] at hs ⊢
  have HU := Lib.hid hU
  have HUR := Lib.hid hur
  clear hU hur
  replace HS := HS.call1 hs
  clear hs
  obtain ⟨sz, hsz⟩ : ∃ n, w.heap.size = n := ⟨_, rfl⟩
  obtain ⟨bo, hbo⟩ : ∃ n, w1.heap.size = n := ⟨_, rfl⟩
  rw [hsz] at HS ⊢
  have HB := HS.box (b := bo) [.slice (some ⟨sz + 1 + 1 + 1, 0, none⟩) 0 0, .slice Ar ur cr] 36 hbo
  replace HS := HB.pick 2 rfl
  simp only [List.eraseIdx_cons_succ, List.eraseIdx_cons_zero] at HS
  clear HB
  have F := HS.facts; simp only [Own.Facts, Own.Cells, World.size_alloc, List.cons_append, List.nil_append, List.eraseIdx_cons_succ, List.eraseIdx_cons_zero, List.eraseIdx_zero, List.tail_cons, Nat.zero_add] at F
  go_wp2
  clear F
  try simp only [hbo, hsz]
  clear hbo hsz
  go_loopw [6] (fun i wr => ∃ (k : Nat) (ps : List Pf) (u : Value), k ≤ zsa.length ∧ i = .int .i64 k ∧ ps.length ≤ 0 + k ∧ Hid (ps.map (·.l) = ((a.l.take k).filter (kA b)).foldl insL []) ∧ Own w (.own u ps :: .box bo 36 [u, .slice Ar ur cr] :: .own (.slice Ar ur cr) U :: .box (sz + 1 + 1) 36 [.slice none 0 0, .slice none 0 0] :: .box (sz + 1) 36 [.slice B1 zsb.length d1, .slice B2 b.c.length d2] :: .box sz 36 [.slice A1 zsa.length c1, .slice A2 a.c.length c2] :: ps.map pown) wr) (fun i _ => zsa.length - (intOf i).toNat)
  case atStart => exact ⟨0, [], _, by omega, rfl, by simp, Lib.hid rfl, HS⟩
  case round =>
    obtain ⟨k, ps, u, hk, rfl, hpl, HPM, HS'⟩ := hrel
    clear HS
    have HS := HS'
    clear HS'
    obtain ⟨Au, cu, rfl, _, _⟩ := (HS.rd 0 rfl).val
    have HPA := Lib.hid (fun (wq : World) (X : List Ds) (H : Own w (X ++ ps.map pown) wq) => show ∀ y ∈ ps, Pf.at_ wq y from fun y hy => own_at H (List.mem_append_right _ (List.mem_map.2 ⟨y, hy, rfl⟩)))
    obtain ⟨PW, hPW⟩ : ∃ PW, ps.map pown = PW := ⟨_, rfl⟩
    rw [hPW] at HS
    simp only [hPW] at HPA
    have HPW := Lib.hid hPW
    clear hPW
    have F := HS.facts; simp only [Own.Facts, Own.Cells, World.size_alloc, List.cons_append, List.nil_append, List.eraseIdx_cons_succ, List.eraseIdx_cons_zero, List.eraseIdx_zero, List.tail_cons, Nat.zero_add] at F
    by_cases hlt : k < zsa.length
    · obtain ⟨b1, o1, rfl⟩ := hpfa.fix (by omega)
      have hcell := Pf.cells (HS.old hpfa) k hlt
      have hat := HATa.out zsa[k] (List.getElem_mem hlt)
      have hpz := HPa.out zsa[k].l (by rw [← HZa.out]; exact List.mem_map.2 ⟨_, List.getElem_mem hlt, rfl⟩)
      have HTK := Lib.hid (show a.l.take (k + 1) = a.l.take k ++ [zsa[k].l] by
        rw [← HZa.out, List.take_succ_eq_append_getElem (by simpa using hlt)]; simp)
      obtain ⟨z, hz⟩ : ∃ z, zsa[k] = z := ⟨_, rfl⟩
      rw [hz] at hat hpz hcell HTK
      clear hz
      have HNO := Lib.hid (fun h : (kA b) z.l = false => show ps.map (·.l) = ((a.l.take (k + 1)).filter (kA b)).foldl insL [] by
        rw [HTK.out, List.filter_append, List.filter_cons_of_neg (by simp [h]), List.filter_nil, List.append_nil]; exact HPM.out)
      have HYES := Lib.hid (fun h : (kA b) z.l = true => fun z' : Pf => fun he : z'.l = z.l => show (insP ps z').map (·.l) = ((a.l.take (k + 1)).filter (kA b)).foldl insL [] by
        rw [HTK.out, List.filter_append, List.filter_cons_of_pos (p := kA b) h, List.filter_nil, List.foldl_append, ← HPM.out, insP_l, he]; rfl)
      clear HTK HPM
      obtain ⟨⟨Az, nz, cz⟩, ⟨zp, zf, zr, zd, zv⟩⟩ := z
      obtain rfl : nz = zp.length := hat.len
      simp only [Pf.at_, Sv.v] at hat hpz hcell
      obtain ⟨bl, hbl⟩ : ∃ bl, wr.heap.size = bl := ⟨_, rfl⟩
      have HSL := HS.box (b := bl) [.slice Az zp.length cz, .bool zf, .int .i64 zr, .int .i64 zd, .string zv] 103 hbl
      replace HS := HSL
      clear HSL
      have F0 := F
      clear F
      have F := HS.facts; simp only [Own.Facts, Own.Cells, World.size_alloc, List.cons_append, List.nil_append, List.eraseIdx_cons_succ, List.eraseIdx_cons_zero, List.eraseIdx_zero, List.tail_cons, Nat.zero_add] at F
      go_wp2_with fail
      refine (l3Find b.l ⟨zp, zf, zr, zd, zv⟩ _ _ _ (HS.old HBL.out) (HS.old hat)).mono ?_
      rintro e w2 ⟨⟨q, rfl, hq⟩, hb⟩
      have HSL := HS.of_below hb
      clear hb HS F F0
      have HS := HSL
      have F := HS.facts; simp only [Own.Facts, Own.Cells, World.size_alloc, List.cons_append, List.nil_append, List.eraseIdx_cons_succ, List.eraseIdx_cons_zero, List.eraseIdx_zero, List.tail_cons, Nat.zero_add] at F
      cases hm : decide ((⟨zp, zf, zr, zd, zv⟩ : Lf) ∈ b.l)
      · have hq0 : ¬ 0 ≤ q := by rw [hm] at hq; simpa using hq
        have HM := Lib.hid hm
        clear hm hq
        go_wp2_with fail
        refine (l2Has b.c zr zd _ _ (HS.old hbc)).mono ?_
        rintro e w3 ⟨rfl, hb⟩
        have HSL2 := HS.of_below hb
        clear hb HS F HSL
        have HSL := HSL2
        clear HSL2
        have HS := HSL
        have F := HS.facts; simp only [Own.Facts, Own.Cells, World.size_alloc, List.cons_append, List.nil_append, List.eraseIdx_cons_succ, List.eraseIdx_cons_zero, List.eraseIdx_zero, List.tail_cons, Nat.zero_add] at F
        cases hh : hasB b.c zr zd
        · have HK := Lib.hid (show kA b ⟨zp, zf, zr, zd, zv⟩ = true by unfold kA; rw [HM.out, hh]; rfl)
          clear hh
          go_wp2
          have HY := Lib.hid (HYES.out HK.out)
          clear HYES HNO
          replace HS := HSL
          clear F HSL
          have F := HS.facts; simp only [Own.Facts, Own.Cells, World.size_alloc, List.cons_append, List.nil_append, List.eraseIdx_cons_succ, List.eraseIdx_cons_zero, List.eraseIdx_zero, List.tail_cons, Nat.zero_add] at F
          go_region_with (first | (go_at_call 112; refine (l3Leaf zp zf zr zd zv _ _ (by first | exact HS.old hat | exact HS.drew.old hat) hpz).mono ?_; rintro e w1 ⟨A5, c5, rfl, hs⟩; (first | have H' := HS.call1 hs | have H' := HS.drew.call1 hs | have H' := (HS.box0 [_] _).call1 hs | have H' := ((HS.box0 [_] _).box0 [_] _).call1 hs | have H' := (HS.box0 [_] _).drew.call1 hs | have H' := (HS.alloc _).call1 hs | have H' := ((HS.alloc _).alloc _).call1 hs | have H' := (HS.alloc _).drew.call1 hs); clear HS; have HS := H'; clear H'; have F := HS.facts; simp only [Own.Facts, Own.Cells, World.size_alloc, List.cons_append, List.nil_append, List.eraseIdx_cons_succ, List.eraseIdx_cons_zero, List.eraseIdx_zero, List.tail_cons, Nat.zero_add] at F) | (go_at_call 111; refine (l3Put ps ⟨⟨A5, zp.length, c5⟩, ⟨zp, zf, zr, zd, zv⟩⟩ _ _ (HS.rd 2 rfl) (HPA.out _ [_, _, _, _, _, _, _, _] HS) (HS.rd 0 rfl) (by omega)).mono ?_; rintro e w1 ⟨A6, c6, rfl, hs⟩; (first | have H' := HS.call1 hs | have H' := HS.drew.call1 hs | have H' := (HS.box0 [_] _).call1 hs | have H' := ((HS.box0 [_] _).box0 [_] _).call1 hs | have H' := (HS.box0 [_] _).drew.call1 hs | have H' := (HS.alloc _).call1 hs | have H' := ((HS.alloc _).alloc _).call1 hs | have H' := (HS.alloc _).drew.call1 hs); clear HS; have HS := H'; clear H'; have F := HS.facts; simp only [Own.Facts, Own.Cells, World.size_alloc, List.cons_append, List.nil_append, List.eraseIdx_cons_succ, List.eraseIdx_cons_zero, List.eraseIdx_zero, List.tail_cons, Nat.zero_add] at F))
          all_goals
            have H4 := (HS.pick 4 rfl).set 0 (.slice A6 (insP ps ⟨⟨A5, zp.length, c5⟩, ⟨zp, zf, zr, zd, zv⟩⟩).length c6)
            simp only [List.eraseIdx_cons_succ, List.eraseIdx_cons_zero, List.set_cons_zero] at H4
            have H5 := (((H4.pick 1 rfl).pick 3 rfl).drop.pick 3 rfl).drop
            simp only [List.eraseIdx_cons_succ, List.eraseIdx_cons_zero] at H5
            have hip := insP_perm ⟨⟨A5, zp.length, c5⟩, ⟨zp, zf, zr, zd, zv⟩⟩ ps
            have hil : (insP ps ⟨⟨A5, zp.length, c5⟩, ⟨zp, zf, zr, zd, zv⟩⟩).length = ps.length + 1 := by rw [hip.length_eq]; simp
            rw [← HPW.out] at H5
            have H6 := H5.perm (perm_put hip)
            have HR := Lib.hid (HY.out ⟨⟨A5, zp.length, c5⟩, ⟨zp, zf, zr, zd, zv⟩⟩ rfl)
            obtain ⟨ps2, hps2⟩ : ∃ ps2, insP ps ⟨⟨A5, zp.length, c5⟩, ⟨zp, zf, zr, zd, zv⟩⟩ = ps2 := ⟨_, rfl⟩
            simp only [hps2] at HR hil H6 ⊢
            have hil2 : ps2.length ≤ ps.length + 1 := by omega
            clear hps2 hip HS H4 H5 F hcell hil
            go_wp2
            go_roundw
            case rel => exact ⟨k + 1, ps2, _, by omega, by go_num, by omega, HR, H6⟩
            case measure => simp [intOf]; omega
        · have HK := Lib.hid (show kA b ⟨zp, zf, zr, zd, zv⟩ = false by unfold kA; rw [HM.out, hh]; rfl)
          clear hh
          go_wp2
          have HNO := Lib.hid (HNO.out HK.out)
          clear HYES
          replace HS := HSL.drop
          clear HSL F
          rw [← HPW.out] at HS
          go_wp2
          go_roundw
          case rel => exact ⟨k + 1, ps, _, by omega, by go_num, by omega, HNO, HS⟩
          case measure => simp [intOf]; omega
      · have hq0 : 0 ≤ q := by rw [hm] at hq; simpa using hq
        have HK := Lib.hid (show kA b ⟨zp, zf, zr, zd, zv⟩ = true by unfold kA; rw [hm]; rfl)
        clear hm hq
        go_wp2
        have HY := Lib.hid (HYES.out HK.out)
        clear HYES HNO
        replace HS := HSL
        clear F HSL
        have F := HS.facts; simp only [Own.Facts, Own.Cells, World.size_alloc, List.cons_append, List.nil_append, List.eraseIdx_cons_succ, List.eraseIdx_cons_zero, List.eraseIdx_zero, List.tail_cons, Nat.zero_add] at F
        go_region_with (first | (go_at_call 112; refine (l3Leaf zp zf zr zd zv _ _ (by first | exact HS.old hat | exact HS.drew.old hat) hpz).mono ?_; rintro e w1 ⟨A5, c5, rfl, hs⟩; (first | have H' := HS.call1 hs | have H' := HS.drew.call1 hs | have H' := (HS.box0 [_] _).call1 hs | have H' := ((HS.box0 [_] _).box0 [_] _).call1 hs | have H' := (HS.box0 [_] _).drew.call1 hs | have H' := (HS.alloc _).call1 hs | have H' := ((HS.alloc _).alloc _).call1 hs | have H' := (HS.alloc _).drew.call1 hs); clear HS; have HS := H'; clear H'; have F := HS.facts; simp only [Own.Facts, Own.Cells, World.size_alloc, List.cons_append, List.nil_append, List.eraseIdx_cons_succ, List.eraseIdx_cons_zero, List.eraseIdx_zero, List.tail_cons, Nat.zero_add] at F) | (go_at_call 111; refine (l3Put ps ⟨⟨A5, zp.length, c5⟩, ⟨zp, zf, zr, zd, zv⟩⟩ _ _ (HS.rd 2 rfl) (HPA.out _ [_, _, _, _, _, _, _, _] HS) (HS.rd 0 rfl) (by omega)).mono ?_; rintro e w1 ⟨A6, c6, rfl, hs⟩; (first | have H' := HS.call1 hs | have H' := HS.drew.call1 hs | have H' := (HS.box0 [_] _).call1 hs | have H' := ((HS.box0 [_] _).box0 [_] _).call1 hs | have H' := (HS.box0 [_] _).drew.call1 hs | have H' := (HS.alloc _).call1 hs | have H' := ((HS.alloc _).alloc _).call1 hs | have H' := (HS.alloc _).drew.call1 hs); clear HS; have HS := H'; clear H'; have F := HS.facts; simp only [Own.Facts, Own.Cells, World.size_alloc, List.cons_append, List.nil_append, List.eraseIdx_cons_succ, List.eraseIdx_cons_zero, List.eraseIdx_zero, List.tail_cons, Nat.zero_add] at F))
        all_goals
          have H4 := (HS.pick 4 rfl).set 0 (.slice A6 (insP ps ⟨⟨A5, zp.length, c5⟩, ⟨zp, zf, zr, zd, zv⟩⟩).length c6)
          simp only [List.eraseIdx_cons_succ, List.eraseIdx_cons_zero, List.set_cons_zero] at H4
          have H5 := (((H4.pick 1 rfl).pick 3 rfl).drop.pick 3 rfl).drop
          simp only [List.eraseIdx_cons_succ, List.eraseIdx_cons_zero] at H5
          have hip := insP_perm ⟨⟨A5, zp.length, c5⟩, ⟨zp, zf, zr, zd, zv⟩⟩ ps
          have hil : (insP ps ⟨⟨A5, zp.length, c5⟩, ⟨zp, zf, zr, zd, zv⟩⟩).length = ps.length + 1 := by rw [hip.length_eq]; simp
          rw [← HPW.out] at H5
          have H6 := H5.perm (perm_put hip)
          have HR := Lib.hid (HY.out ⟨⟨A5, zp.length, c5⟩, ⟨zp, zf, zr, zd, zv⟩⟩ rfl)
          obtain ⟨ps2, hps2⟩ : ∃ ps2, insP ps ⟨⟨A5, zp.length, c5⟩, ⟨zp, zf, zr, zd, zv⟩⟩ = ps2 := ⟨_, rfl⟩
          simp only [hps2] at HR hil H6 ⊢
          have hil2 : ps2.length ≤ ps.length + 1 := by omega
          clear hps2 hip HS H4 H5 F hcell hil
          go_wp2
          go_roundw
          case rel => exact ⟨k + 1, ps2, _, by omega, by go_num, by omega, HR, H6⟩
          case measure => simp [intOf]; omega
    · obtain rfl : k = zsa.length := by omega
      have HP1 := Lib.hid (show ps.map (·.l) = (a.l.filter (kA b)).foldl insL [] by
        rw [HPM.out, List.take_of_length_le (by rw [← HZa.out]; simp)])
      rw [← HPW.out] at HS
      clear HPM HPA HPW
      go_wp2
      clear F
      go_loopw [8] (fun i wr => ∃ (k : Nat) (ps : List Pf) (u : Value), k ≤ zsb.length ∧ i = .int .i64 k ∧ ps.length ≤ zsa.length + k ∧ Hid (ps.map (·.l) = ((b.l.take k).filter (kB a)).foldl insL ((a.l.filter (kA b)).foldl insL [])) ∧ Own w (.own u ps :: .box bo 36 [u, .slice Ar ur cr] :: .own (.slice Ar ur cr) U :: .box (sz + 1 + 1) 36 [.slice none 0 0, .slice none 0 0] :: .box (sz + 1) 36 [.slice B1 zsb.length d1, .slice B2 b.c.length d2] :: .box sz 36 [.slice A1 zsa.length c1, .slice A2 a.c.length c2] :: ps.map pown) wr) (fun i _ => zsb.length - (intOf i).toNat)
      case atStart => exact ⟨0, ps, _, by omega, rfl, by omega, Lib.hid (by rw [List.take_zero]; exact HP1.out), HS⟩
      case round =>
        obtain ⟨k, ps, u, hk, rfl, hpl, HPM, HS'⟩ := hrel
        clear HS
        have HS := HS'
        clear HS'
        obtain ⟨Au, cu, rfl, _, _⟩ := (HS.rd 0 rfl).val
        have HPA := Lib.hid (fun (wq : World) (X : List Ds) (H : Own w (X ++ ps.map pown) wq) => show ∀ y ∈ ps, Pf.at_ wq y from fun y hy => own_at H (List.mem_append_right _ (List.mem_map.2 ⟨y, hy, rfl⟩)))
        obtain ⟨PW, hPW⟩ : ∃ PW, ps.map pown = PW := ⟨_, rfl⟩
        rw [hPW] at HS
        simp only [hPW] at HPA
        have HPW := Lib.hid hPW
        clear hPW
        have F := HS.facts; simp only [Own.Facts, Own.Cells, World.size_alloc, List.cons_append, List.nil_append, List.eraseIdx_cons_succ, List.eraseIdx_cons_zero, List.eraseIdx_zero, List.tail_cons, Nat.zero_add] at F
        by_cases hlt : k < zsb.length
        · obtain ⟨b1, o1, rfl⟩ := hpfb.fix (by omega)
          have hcell := Pf.cells (HS.old hpfb) k hlt
          have hat := HATb.out zsb[k] (List.getElem_mem hlt)
          have hpz := HPb.out zsb[k].l (by rw [← HZb.out]; exact List.mem_map.2 ⟨_, List.getElem_mem hlt, rfl⟩)
          have HTK := Lib.hid (show b.l.take (k + 1) = b.l.take k ++ [zsb[k].l] by
            rw [← HZb.out, List.take_succ_eq_append_getElem (by simpa using hlt)]; simp)
          obtain ⟨z, hz⟩ : ∃ z, zsb[k] = z := ⟨_, rfl⟩
          rw [hz] at hat hpz hcell HTK
          clear hz
          have HNO := Lib.hid (fun h : (kB a) z.l = false => show ps.map (·.l) = ((b.l.take (k + 1)).filter (kB a)).foldl insL ((a.l.filter (kA b)).foldl insL []) by
            rw [HTK.out, List.filter_append, List.filter_cons_of_neg (by simp [h]), List.filter_nil, List.append_nil]; exact HPM.out)
          have HYES := Lib.hid (fun h : (kB a) z.l = true => fun z' : Pf => fun he : z'.l = z.l => show (insP ps z').map (·.l) = ((b.l.take (k + 1)).filter (kB a)).foldl insL ((a.l.filter (kA b)).foldl insL []) by
            rw [HTK.out, List.filter_append, List.filter_cons_of_pos (p := kB a) h, List.filter_nil, List.foldl_append, ← HPM.out, insP_l, he]; rfl)
          clear HTK HPM
          obtain ⟨⟨Az, nz, cz⟩, ⟨zp, zf, zr, zd, zv⟩⟩ := z
          obtain rfl : nz = zp.length := hat.len
          simp only [Pf.at_, Sv.v] at hat hpz hcell
          obtain ⟨bl, hbl⟩ : ∃ bl, wr.heap.size = bl := ⟨_, rfl⟩
          have HSL := HS.box (b := bl) [.slice Az zp.length cz, .bool zf, .int .i64 zr, .int .i64 zd, .string zv] 103 hbl
          replace HS := HSL
          clear HSL
          have F0 := F
          clear F
          have F := HS.facts; simp only [Own.Facts, Own.Cells, World.size_alloc, List.cons_append, List.nil_append, List.eraseIdx_cons_succ, List.eraseIdx_cons_zero, List.eraseIdx_zero, List.tail_cons, Nat.zero_add] at F
          go_wp2_with fail
          refine (l2Has a.c zr zd _ _ (HS.old hac)).mono ?_
          rintro e w3 ⟨rfl, hb⟩
          have HSL := HS.of_below hb
          clear hb HS F F0
          have HS := HSL
          have F := HS.facts; simp only [Own.Facts, Own.Cells, World.size_alloc, List.cons_append, List.nil_append, List.eraseIdx_cons_succ, List.eraseIdx_cons_zero, List.eraseIdx_zero, List.tail_cons, Nat.zero_add] at F
          cases hh : hasB a.c zr zd
          · have HK := Lib.hid (show kB a ⟨zp, zf, zr, zd, zv⟩ = true by unfold kB; rw [hh]; rfl)
            clear hh
            go_wp2
            have HY := Lib.hid (HYES.out HK.out)
            clear HYES HNO
            replace HS := HSL
            clear F HSL
            have F := HS.facts; simp only [Own.Facts, Own.Cells, World.size_alloc, List.cons_append, List.nil_append, List.eraseIdx_cons_succ, List.eraseIdx_cons_zero, List.eraseIdx_zero, List.tail_cons, Nat.zero_add] at F
            go_region_with (first | (go_at_call 112; refine (l3Leaf zp zf zr zd zv _ _ (by first | exact HS.old hat | exact HS.drew.old hat) hpz).mono ?_; rintro e w1 ⟨A5, c5, rfl, hs⟩; (first | have H' := HS.call1 hs | have H' := HS.drew.call1 hs | have H' := (HS.box0 [_] _).call1 hs | have H' := ((HS.box0 [_] _).box0 [_] _).call1 hs | have H' := (HS.box0 [_] _).drew.call1 hs | have H' := (HS.alloc _).call1 hs | have H' := ((HS.alloc _).alloc _).call1 hs | have H' := (HS.alloc _).drew.call1 hs); clear HS; have HS := H'; clear H'; have F := HS.facts; simp only [Own.Facts, Own.Cells, World.size_alloc, List.cons_append, List.nil_append, List.eraseIdx_cons_succ, List.eraseIdx_cons_zero, List.eraseIdx_zero, List.tail_cons, Nat.zero_add] at F) | (go_at_call 111; refine (l3Put ps ⟨⟨A5, zp.length, c5⟩, ⟨zp, zf, zr, zd, zv⟩⟩ _ _ (HS.rd 2 rfl) (HPA.out _ [_, _, _, _, _, _, _, _] HS) (HS.rd 0 rfl) (by omega)).mono ?_; rintro e w1 ⟨A6, c6, rfl, hs⟩; (first | have H' := HS.call1 hs | have H' := HS.drew.call1 hs | have H' := (HS.box0 [_] _).call1 hs | have H' := ((HS.box0 [_] _).box0 [_] _).call1 hs | have H' := (HS.box0 [_] _).drew.call1 hs | have H' := (HS.alloc _).call1 hs | have H' := ((HS.alloc _).alloc _).call1 hs | have H' := (HS.alloc _).drew.call1 hs); clear HS; have HS := H'; clear H'; have F := HS.facts; simp only [Own.Facts, Own.Cells, World.size_alloc, List.cons_append, List.nil_append, List.eraseIdx_cons_succ, List.eraseIdx_cons_zero, List.eraseIdx_zero, List.tail_cons, Nat.zero_add] at F))
            all_goals
              have H4 := (HS.pick 4 rfl).set 0 (.slice A6 (insP ps ⟨⟨A5, zp.length, c5⟩, ⟨zp, zf, zr, zd, zv⟩⟩).length c6)
              simp only [List.eraseIdx_cons_succ, List.eraseIdx_cons_zero, List.set_cons_zero] at H4
              have H5 := (((H4.pick 1 rfl).pick 3 rfl).drop.pick 3 rfl).drop
              simp only [List.eraseIdx_cons_succ, List.eraseIdx_cons_zero] at H5
              have hip := insP_perm ⟨⟨A5, zp.length, c5⟩, ⟨zp, zf, zr, zd, zv⟩⟩ ps
              have hil : (insP ps ⟨⟨A5, zp.length, c5⟩, ⟨zp, zf, zr, zd, zv⟩⟩).length = ps.length + 1 := by rw [hip.length_eq]; simp
              rw [← HPW.out] at H5
              have H6 := H5.perm (perm_put hip)
              have HR := Lib.hid (HY.out ⟨⟨A5, zp.length, c5⟩, ⟨zp, zf, zr, zd, zv⟩⟩ rfl)
              obtain ⟨ps2, hps2⟩ : ∃ ps2, insP ps ⟨⟨A5, zp.length, c5⟩, ⟨zp, zf, zr, zd, zv⟩⟩ = ps2 := ⟨_, rfl⟩
              simp only [hps2] at HR hil H6 ⊢
              have hil2 : ps2.length ≤ ps.length + 1 := by omega
              clear hps2 hip HS H4 H5 F hcell hil
              go_wp2
              go_roundw
              case rel => exact ⟨k + 1, ps2, _, by omega, by go_num, by omega, HR, H6⟩
              case measure => simp [intOf]; omega
          · have HK := Lib.hid (show kB a ⟨zp, zf, zr, zd, zv⟩ = false by unfold kB; rw [hh]; rfl)
            clear hh
            go_wp2
            have HNO := Lib.hid (HNO.out HK.out)
            clear HYES
            replace HS := HSL.drop
            clear HSL F
            rw [← HPW.out] at HS
            go_wp2
            go_roundw
            case rel => exact ⟨k + 1, ps, _, by omega, by go_num, by omega, HNO, HS⟩
            case measure => simp [intOf]; omega
        · obtain rfl : k = zsb.length := by omega
          have HQ := Lib.hid (show ps.map (·.l) = joinL a b by
            rw [HPM.out, List.take_of_length_le (by rw [← HZb.out]; simp)]
            unfold joinL
            rw [List.foldl_append]; rfl)
          go_wp2
          have H2 := ((HS.pick 3 rfl).set 0 (.slice Au ps.length cu)).set 1 (.slice Ar ur cr)
          simp only [List.eraseIdx_cons_succ, List.eraseIdx_cons_zero, List.set_cons_zero, List.set_cons_succ] at H2
          have H3 := (H2.drop.pick 1 rfl).drop
          have H4 := ((H3.pick 2 rfl).drop.pick 2 rfl).drop
          simp only [List.eraseIdx_cons_succ, List.eraseIdx_cons_zero] at H4
          rw [← HPW.out] at H4
          have H5 := (H4.perm perm_fin).deepen
          have hlen : ps.length = (joinL a b).length := by rw [← HQ.out]; simp
          rw [HQ.out] at H5
          exact bodyPost_ret (v := .agg #[.slice Au ps.length cu, .slice Ar ur cr]) (by simp [results, Tryz.results64, go_sem, *]) rfl ⟨Au, cu, Ar, cr, by rw [← hlen, HU.out, HUR.out], by rw [← hlen, HU.out, HUR.out]; exact H5⟩
end Go.Proofs.YtohgelmkagcimaaGreat
