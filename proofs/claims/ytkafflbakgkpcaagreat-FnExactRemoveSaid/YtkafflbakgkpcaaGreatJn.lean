/- One leaf put into a row in order, by the reference. The join of states, by the reference. -/
import Derived.Test.YtkafflbakgkpcaaGreatJm
import Derived.Test.YtkafflbakgkpcaaGreatLj
import Derived.Test.YtkafflbakgkpcaaGreatYb
import Derived.Test.YtkafflbakgkpcaaGreatYa
import Derived.Test.YtkafflbakgkpcaaGreatFm
import Derived.Test.YtkafflbakgkpcaaGreatV7
import Derived.Test.YtkafflbakgkpcaaGreatM5
namespace Go.Proofs.YtkafflbakgkpcaaGreat
set_option linter.unusedSimpArgs false
set_option linter.unusedVariables false
open Go.RowKit Go.Ow
attribute [local irreducible] wpQuiet
set_option maxRecDepth 100000
theorem subPf {n c : Nat} (A : Option Addr) (l : List Pf) (j : Nat) (hn : n = l.length) (h1 : j ≤ n) (h2 : n ≤ c) :
    ∃ A2 c2, (∀ q, (Instr.sliceAt 31 (.slice A n c) (some (.int .i64 (j : Int))) none none).run Tryz.prog q = .ok (.slice A2 (l.drop j).length c2) q) ∧
      Hid (∀ w, Rd w (.slice A n c) l → Rd w (.slice A2 (l.drop j).length c2) (l.drop j)) := by
  subst hn
  have e1 : ∀ (A : Option Addr) lo hi c z, ∃ A' c', sliced A lo hi c z = .slice A' (hi - lo) c' := by
    intro A lo hi c z; unfold sliced; split <;> exact ⟨_, _, rfl⟩
  obtain ⟨A2, c2, h4⟩ := e1 A j l.length c 5
  have l2 : (l.drop j).length = l.length - j := by simp
  refine ⟨A2, c2, fun q => by rw [l2, ← h4]; exact subL_hi j h1 h2, Lib.hid fun w h => ?_⟩
  have := rd_subV h j l.length h1 (Nat.le_refl _)
  rw [List.take_of_length_le (by simp)] at this
  rw [l2, ← h4]; exact this
set_option maxHeartbeats 4000000 in
theorem l3Put (zs : List Pf) (z : Pf) (v : Value) (w : World) (hv : Rd w v zs) (hat : ∀ y ∈ zs, Pf.at_ w y) (hz : Pf.at_ w z) (hn : zs.length ≤ 4194304) :
    Calls Tryz.prog 52 #[v, lfv z] w fun e w' => ∃ A c, e = .returned (.slice A (insP zs z).length c) ∧ Own w [.own (.slice A (insP zs z).length c) (insP zs z)] w' := by
  obtain ⟨A, c, rfl, hc, hl⟩ := hv.val
  have HIN := Lib.hid (insP_at z zs)
  have HAT := Lib.hid hat
  clear hat
  obtain ⟨⟨Az, nz, cz⟩, ⟨zp, zf, zr, zd, zv⟩⟩ := z
  simp only [Pf.at_, Sv.v] at hz
  obtain rfl : nz = zp.length := hz.len
  obtain ⟨res, hres⟩ : ∃ res, insP zs ⟨⟨Az, zp.length, cz⟩, ⟨zp, zf, zr, zd, zv⟩⟩ = res := ⟨_, rfl⟩
  rw [hres] at HIN ⊢
  clear hres
  have HS := ((Own.start w).box [.slice Az zp.length cz, .bool zf, .int .i64 zr, .int .i64 zd, .string zv] 57).lit ([] : List Pf) #[] 57 rfl rfl (by simp)
  simp only [World.size_alloc] at HS
  show Calls Tryz.prog 52 #[.slice A zs.length c, .agg #[.slice Az zp.length cz, .bool zf, .int .i64 zr, .int .i64 zd, .string zv]] w _
  obtain ⟨sz, hsz⟩ : ∃ n, w.heap.size = n := ⟨_, rfl⟩
  go_enter Tryz.func52, Tryz.ntmps52
  go_wp2
  rw [hsz] at HS
  clear hsz
  go_loopw [5, 6] (fun q i wr => ∃ (ps : List Pf) (u : Value), ps.length ≤ zs.length ∧ i = .int .i64 ps.length ∧ q = u ∧ Hid (ps = zs.take ps.length ∧ ∀ y ∈ ps, before y.l ⟨zp, zf, zr, zd, zv⟩ = true) ∧ Own w [.own u ps, .box sz 57 [.slice Az zp.length cz, .bool zf, .int .i64 zr, .int .i64 zd, .string zv]] wr) (fun _ i _ => zs.length - (intOf i).toNat)
  case atStart => exact ⟨[], _, by simp, rfl, rfl, Lib.hid (by simp), HS⟩
  case round =>
    obtain ⟨ps, u, hk, rfl, rfl, HB, HS'⟩ := hrel
    clear HS
    obtain ⟨Au, cu, rfl, _, _⟩ := (HS'.rd 0 rfl).val
    by_cases hlt : ps.length < zs.length
    · obtain ⟨b, o, rfl⟩ := hv.fix (by omega)
      have hcl := fun (w0 : World) (H : Own w [] w0) => Pf.cells (H.old hv) ps.length hlt
      have hat := HAT.out zs[ps.length] (List.getElem_mem hlt)
      have HTK := Lib.hid (List.take_succ_eq_append_getElem hlt)
      have HB2 := Lib.hid (fun h : before zs[ps.length].l ⟨zp, zf, zr, zd, zv⟩ = true => show ps ++ [zs[ps.length]] = zs.take (ps.length + 1) ∧ ∀ y ∈ ps ++ [zs[ps.length]], before y.l ⟨zp, zf, zr, zd, zv⟩ = true from ⟨by rw [HTK.out, ← HB.out.1], fun y hy => by
        rcases List.mem_append.1 hy with hy | hy
        · exact HB.out.2 y hy
        · rw [List.mem_singleton] at hy; rw [hy]; exact h⟩)
      have HB3 := Lib.hid (fun h : before zs[ps.length].l ⟨zp, zf, zr, zd, zv⟩ = false => show res = (ps ++ [⟨⟨Az, zp.length, cz⟩, ⟨zp, zf, zr, zd, zv⟩⟩]) ++ zs.drop ps.length by
        have := HIN.out ps.length hk (by rw [← HB.out.1]; exact HB.out.2) (fun _ => h)
        rw [← HB.out.1] at this; exact this)
      obtain ⟨y, hy⟩ : ∃ y, zs[ps.length] = y := ⟨_, rfl⟩
      simp only [hy] at hcl hat HTK HB2 HB3
      clear hy
      have HCL := Lib.hid hcl
      clear hcl
      obtain ⟨⟨Ay, ny, cy⟩, ⟨yp, yf, yr, yd, yv⟩⟩ := y
      simp only [Pf.at_, Sv.v] at hat
      obtain rfl : ny = yp.length := hat.len
      simp only [Sv.v] at HCL HTK HB2 HB3
      have hcall : ∀ p : Ext wr, _ := fun p => l3Before ⟨yp, yf, yr, yd, yv⟩ ⟨zp, zf, zr, zd, zv⟩ (.slice Ay yp.length cy) (.slice Az zp.length cz) p.to ((HS'.of_below p.h).old hat) ((HS'.of_below p.h).old hz)
      have hG : ∀ p : Ext wr, _ := fun p => HCL.out p.to (HS'.of_below p.h).drop.drop
      have hL : ∀ p : Ext wr, p.to.cell? ⟨sz, 0, none⟩ = some (.slice Az zp.length cz) ∧ p.to.cell? ⟨sz, 1, none⟩ = some (.bool zf) ∧ p.to.cell? ⟨sz, 2, none⟩ = some (.int .i64 zr) ∧ p.to.cell? ⟨sz, 3, none⟩ = some (.int .i64 zd) ∧ p.to.cell? ⟨sz, 4, none⟩ = some (.string zv) := fun p => by
        have F := ((HS'.of_below p.h).drop).facts
        simp only [Own.Facts, Own.Cells, Nat.zero_add] at F
        exact ⟨F.1.1.1, F.1.1.2.1, F.1.1.2.2.1, F.1.1.2.2.2.1, F.1.1.2.2.2.2.1⟩
      cases hb : before ⟨yp, yf, yr, yd, yv⟩ ⟨zp, zf, zr, zd, zv⟩
      · have HQ := Lib.hid (HB3.out hb)
        simp only [hb] at hcall
        clear hb HB2 HB3 HTK
        go_wp2
        (refine wp_region_ext (by kernel_rfl) (by kernel_rfl) ?_; (repeat (quiet_step (first | exact q_call (hcall _)))); refine wpQuiet_nil ?_; rintro _ ⟨⟨w1, hw1⟩, rfl⟩)
        have H2 := HS'.of_below hw1
        clear hcall hG hL
        obtain ⟨D2, d2, hs2, HV⟩ := subPf (some ⟨b, o, none⟩) zs ps.length rfl hk hc
        have F := H2.drop.facts
        simp only [Own.Facts, Own.Cells, Nat.zero_add] at F
        have HL := (H2.lit [(⟨⟨Az, zp.length, cz⟩, ⟨zp, zf, zr, zd, zv⟩⟩ : Pf)] #[.slice Az zp.length cz, .bool zf, .int .i64 zr, .int .i64 zd, .string zv] 57 rfl rfl (by simp)).pick 1 rfl
        simp only [List.eraseIdx_cons_succ, List.eraseIdx_cons_zero] at HL
        have hdl : (zs.drop ps.length).length ≤ 4194304 := by rw [List.length_drop]; omega
        obtain ⟨ds, hds⟩ : ∃ ds, zs.drop ps.length = ds := ⟨_, rfl⟩
        rw [hds] at hs2 HV HQ hdl
        clear hds
        go_wp2_with (first
          | (refine wp_app2 (α := Pf) rfl _ _ 31 rfl (by kernel_rfl) _ _ HL rfl _ _ rfl (HL.rd 1 rfl) (by show (_ + 1) * 64 ≤ _; omega) (by show _ + 1 ≤ _; omega) ?_; clear HL F; intro v5 q5 w5 hq5 hql5 H5; have hl6 : q5.length ≤ 4194305 := (by simp only [List.length_cons, List.length_nil] at hql5; omega); clear hql5; obtain ⟨A5, c5, rfl, _, _⟩ := (H5.rd 0 rfl).val)
          | (refine wp_app2 (α := Pf) rfl _ _ 31 rfl (by kernel_rfl) _ _ H5 rfl _ _ rfl (HV.out _ (H5.old hv)) (by show (_ + _) * 64 ≤ _; omega) (by omega) ?_; intro v6 q6 w6 hq6 hql6 H6; obtain ⟨A6, c6, rfl, _, _⟩ := (H6.rd 0 rfl).val))
        have HR := Lib.hid (show q6 = res by rw [HQ.out, hq6.out, hq5.out])
        go_ret
        exact ⟨A6, c6, by rw [← HR.out]; rfl, by rw [← HR.out]; exact H6.only⟩
      · have HQ := Lib.hid (HB2.out hb)
        simp only [hb] at hcall
        clear hb HB2 HB3 HTK
        go_wp2
        (refine wp_region_ext (by kernel_rfl) (by kernel_rfl) ?_; (repeat (quiet_step (first | exact q_call (hcall _)))); refine wpQuiet_nil ?_; rintro _ ⟨⟨w1, hw1⟩, rfl⟩)
        have H2 := HS'.of_below hw1
        clear hcall hG hL
        have hcl := HCL.out _ H2.drop.drop
        have HL := (H2.lit [(⟨⟨Ay, yp.length, cy⟩, ⟨yp, yf, yr, yd, yv⟩⟩ : Pf)] #[.slice Ay yp.length cy, .bool yf, .int .i64 yr, .int .i64 yd, .string yv] 57 rfl rfl (by simp)).pick 1 rfl
        simp only [List.eraseIdx_cons_succ, List.eraseIdx_cons_zero] at HL
        go_wp2_with (refine wp_app2 (α := Pf) rfl _ _ 31 rfl (by kernel_rfl) _ _ HL rfl _ _ rfl (HL.rd 1 rfl) (by show (_ + 1) * 64 ≤ _; omega) (by show _ + 1 ≤ _; omega) ?_; clear HL; intro v5 q5 w5 hq5 hql5 H5)
        have HW := (H5.pick 1 rfl).drop
        simp only [List.eraseIdx_cons_succ, List.eraseIdx_cons_zero] at HW
        have HQ5 := Lib.hid (show q5 = zs.take q5.length ∧ ∀ y ∈ q5, before y.l ⟨zp, zf, zr, zd, zv⟩ = true by
          have e := hq5.out
          have el : q5.length = ps.length + 1 := by rw [e]; simp
          rw [el, e]; exact HQ.out)
        have el : q5.length = ps.length + 1 := by rw [hq5.out]; simp
        clear hql5 H5 hq5
        go_roundw
        case rel => exact ⟨q5, _, by omega, by rw [el]; go_num, rfl, HQ5, HW⟩
        case measure => simp [intOf]; omega
    · have HQ := Lib.hid (show res = (ps ++ [⟨⟨Az, zp.length, cz⟩, ⟨zp, zf, zr, zd, zv⟩⟩]) ++ zs.drop ps.length by
        have := HIN.out ps.length hk (by rw [← HB.out.1]; exact HB.out.2) (fun h => absurd h hlt)
        rw [← HB.out.1] at this; exact this)
      go_wp2
      (refine wp_region_ext (by kernel_rfl) (by kernel_rfl) ?_; (repeat (quiet_step (first | fail))); refine wpQuiet_nil ?_; rintro _ ⟨⟨w1, hw1⟩, rfl⟩)
      have H2 := HS'.of_below hw1
      obtain ⟨D2, d2, hs2, HV⟩ := subPf A zs ps.length rfl hk hc
      have F := H2.drop.facts
      simp only [Own.Facts, Own.Cells, Nat.zero_add] at F
      have HL := (H2.lit [(⟨⟨Az, zp.length, cz⟩, ⟨zp, zf, zr, zd, zv⟩⟩ : Pf)] #[.slice Az zp.length cz, .bool zf, .int .i64 zr, .int .i64 zd, .string zv] 57 rfl rfl (by simp)).pick 1 rfl
      simp only [List.eraseIdx_cons_succ, List.eraseIdx_cons_zero] at HL
      have hdl : (zs.drop ps.length).length ≤ 4194304 := by rw [List.length_drop]; omega
      obtain ⟨ds, hds⟩ : ∃ ds, zs.drop ps.length = ds := ⟨_, rfl⟩
      rw [hds] at hs2 HV HQ hdl
      clear hds
      go_wp2_with (first
        | (refine wp_app2 (α := Pf) rfl _ _ 31 rfl (by kernel_rfl) _ _ HL rfl _ _ rfl (HL.rd 1 rfl) (by show (_ + 1) * 64 ≤ _; omega) (by show _ + 1 ≤ _; omega) ?_; clear HL F; intro v5 q5 w5 hq5 hql5 H5; have hl6 : q5.length ≤ 4194305 := (by simp only [List.length_cons, List.length_nil] at hql5; omega); clear hql5; obtain ⟨A5, c5, rfl, _, _⟩ := (H5.rd 0 rfl).val)
        | (refine wp_app2 (α := Pf) rfl _ _ 31 rfl (by kernel_rfl) _ _ H5 rfl _ _ rfl (HV.out _ (H5.old hv)) (by show (_ + _) * 64 ≤ _; omega) (by omega) ?_; intro v6 q6 w6 hq6 hql6 H6; obtain ⟨A6, c6, rfl, _, _⟩ := (H6.rd 0 rfl).val))
      have HR := Lib.hid (show q6 = res by rw [HQ.out, hq6.out, hq5.out])
      go_ret
      exact ⟨A6, c6, by rw [← HR.out]; rfl, by rw [← HR.out]; exact H6.only⟩
end Go.Proofs.YtkafflbakgkpcaaGreat
namespace Go.Proofs.YtkafflbakgkpcaaGreat
set_option linter.unusedSimpArgs false
set_option linter.unusedVariables false
open Go.RowKit Go.Ow
attribute [local irreducible] wpQuiet
set_option maxRecDepth 100000
theorem own_at {W w : World} {R : List Ds} (HS : Own W R w) {z : Pf} (h : pown z ∈ R) : Pf.at_ w z := by
  obtain ⟨i, hi⟩ := List.getElem?_of_mem h
  exact HS.rd i hi
theorem perm_put {r s t1 t2 t3 t4 : Ds} {ps ps2 : List Pf} {z : Pf} (h : ps2.Perm (z :: ps)) : (r :: s :: pown z :: t1 :: t2 :: t3 :: t4 :: ps.map pown).Perm (r :: s :: t1 :: t2 :: t3 :: t4 :: ps2.map pown) := by
  have h1 : (pown z :: ([t1, t2, t3, t4] ++ ps.map pown)).Perm ([t1, t2, t3, t4] ++ pown z :: ps.map pown) := List.perm_middle.symm
  have h2 : (pown z :: ps.map pown).Perm (ps2.map pown) := (h.map pown).symm
  exact ((h1.trans (List.Perm.append_left _ h2)).cons s).cons r
theorem perm_fin {r s : Ds} {L : List Ds} : (r :: s :: L).Perm (r :: (L ++ [s])) := List.Perm.cons _ (List.perm_append_comm (l₁ := [s]))
end Go.Proofs.YtkafflbakgkpcaaGreat
