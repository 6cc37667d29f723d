/- PutState: the program's groups of leaves. PutState: the program's tree of bytes. PutState: the program's tree of bytes, at every depth. -/
import Derived.Test.YtohgelmkagcimaaGreatYa
import Derived.Test.YtohgelmkagcimaaGreatP2
import Derived.Test.YtohgelmkagcimaaGreatL1
import Derived.Deep.RegionLaw
namespace Go.Proofs.YtohgelmkagcimaaGreat
set_option linter.unusedSimpArgs false
set_option linter.unusedVariables false
open Go.RowKit Go.Ow
attribute [local irreducible] wpQuiet
set_option maxRecDepth 100000
instance : Ty Sv := ⟨31⟩
instance : ElZ Tryz.prog Sv := { bytes := 24, info := El.of (by kernel_rfl), zero := ⟨none, 0, 0⟩, infoz := ElZ.of (by kernel_rfl) }
instance : ElZ Tryz.prog Pf := { bytes := 64, info := El.of (by kernel_rfl), zero := ⟨⟨none, 0, 0⟩, lf0⟩, infoz := ElZ.of (by kernel_rfl) }
/-- Rows told one by one. -/
def gown (svs : List Sv) (gs : List (List Pf)) : List Ds := (svs.zip gs).map fun p => .own p.1.v p.2
theorem gown_snoc (svs : List Sv) (gs : List (List Pf)) (s : Sv) (g : List Pf) (h : svs.length = gs.length) : gown (svs ++ [s]) (gs ++ [g]) = gown svs gs ++ [.own s.v g] := by
  unfold gown
  rw [List.zip_append h]
  simp
theorem perm_in {a b : Ds} {X Y : List Ds} : (a :: b :: (X ++ Y)).Perm (b :: ((X ++ [a]) ++ Y)) := by
  rw [List.append_assoc, List.singleton_append]
  exact (List.Perm.swap b a _).trans (List.perm_middle.symm.cons b)
/-- The last row, taken out. -/
theorem Own.glast {W w : World} {R : List Ds} {v : Value} {svs : List Sv} {gs : List (List Pf)} {s : Sv} {g : List Pf} (hl : svs.length = gs.length) (h : Own W (.own v (svs ++ [s]) :: (gown (svs ++ [s]) (gs ++ [g]) ++ R)) w) : Own W (.own s.v g :: .own v (svs ++ [s]) :: (gown svs gs ++ R)) w := by
  rw [gown_snoc svs gs s g hl] at h
  exact h.perm perm_in.symm
theorem Own.gback {W w : World} {R : List Ds} {v : Value} {svs : List Sv} {gs : List (List Pf)} {s : Sv} {g : List Pf} (hl : svs.length = gs.length) (h : Own W (.own s.v g :: .own v (svs ++ [s]) :: (gown svs gs ++ R)) w) : Own W (.own v (svs ++ [s]) :: (gown (svs ++ [s]) (gs ++ [g]) ++ R)) w := by
  rw [gown_snoc svs gs s g hl]
  exact h.perm perm_in
theorem Own.mem {W w : World} {R : List Ds} {r : Ds} (h : Own W R w) (hr : r ∈ R) : ∃ f, r.P w f := by
  obtain ⟨i, hi, rfl⟩ := List.getElem_of_mem hr
  obtain ⟨_, fp, ⟨f, g, _, hp, _⟩, _⟩ := h.pick i (List.getElem?_eq_getElem hi)
  exact ⟨f, hp⟩
theorem Own.rdm {α : Type} [Cd α] [Ty α] {W w : World} {R : List Ds} {v : Value} {xs : List α} (h : Own W R w) (hr : Ds.own v xs ∈ R) : Rd w v xs := by
  obtain ⟨f, hf⟩ := Own.mem h hr
  exact Dp.rd hf
theorem gown_mem (svs : List Sv) (gs : List (List Pf)) (h : svs.length = gs.length) (i : Nat) (hi : i < gs.length) : Ds.own (svs[i]'(by omega)).v gs[i] ∈ gown svs gs := by
  unfold gown
  refine List.mem_map.2 ⟨(svs[i]'(by omega), gs[i]), ?_, rfl⟩
  rw [List.mem_iff_getElem]
  exact ⟨i, by simp; omega, by simp⟩
theorem Sv.row {W w : World} {R : List Ds} {g n cap : Nat} {xs : List Sv} (h : Own W (.own (.slice (some ⟨g, 0, none⟩) n cap) xs :: R) w) (i : Nat) (hi : i < xs.length) : w.cell? ⟨g, i, none⟩ = some xs[i].v ∧ ∀ j, w.frozen? ⟨g, j, none⟩ = false := by
  have := h.rowc.1 i hi 0 (by decide)
  have e : i * Cd.z Sv + 0 = i := by show i * 1 + 0 = _; omega
  rw [e] at this
  exact ⟨this, h.rowc.2⟩
theorem Sv.put {W w : World} {R : List Ds} {g n cap : Nat} {xs : List Sv} (h : Own W (.own (.slice (some ⟨g, 0, none⟩) n cap) xs :: R) w) (i : Nat) (hi : i < xs.length) (x : Sv) : Own W (.own (.slice (some ⟨g, 0, none⟩) n cap) (xs.set i x) :: R) (w.setCell ⟨g, i, none⟩ x.v) := by
  have := h.put i hi 0 (by decide) x.v x rfl
  have e : i * Cd.z Sv + 0 = i := by show i * 1 + 0 = _; omega
  rw [e] at this
  exact this
def keyZ (d : Nat) (z : Pf) : ByteArray × Nat := keyAt d z.l
theorem last_take {α : Type} (zs : List α) (k : Nat) (h0 : 0 < k) (hk : k ≤ zs.length) : (zs.take k).getLast? = some (zs[k - 1]'(by omega)) := by
  rw [List.getLast?_eq_getElem?, List.length_take, List.getElem?_take_of_lt (by omega), List.getElem?_eq_getElem (by omega)]
  congr 2; omega
theorem grpZ_more (d : Nat) (zs : List Pf) (k : Nat) (h0 : 0 < k) (hk : k < zs.length) (hq : keyAt d zs[k].l = keyAt d (zs[k - 1]'(by omega)).l) :
    ∃ gs g, grps (keyZ d) (zs.take k) = gs ++ [g] ∧ grps (keyZ d) (zs.take (k + 1)) = gs ++ [g ++ [zs[k]]] := by
  have := grps_more (keyZ d) zs[k] (zs.take k).length (zs.take k) _ (Nat.le_refl _) (last_take zs k h0 (by omega)) hq
  rw [List.take_succ_eq_append_getElem hk]
  exact this
theorem grpZ_new (d : Nat) (zs : List Pf) (k : Nat) (hk : k < zs.length) (hq : ∀ h : 0 < k, keyAt d zs[k].l ≠ keyAt d (zs[k - 1]'(by omega)).l) : grps (keyZ d) (zs.take (k + 1)) = grps (keyZ d) (zs.take k) ++ [[zs[k]]] := by
  have := grps_new (keyZ d) zs[k] (zs.take k).length (zs.take k) (Nat.le_refl _) (fun a ha => by
    rcases Nat.eq_zero_or_pos k with h0 | h0
    · subst h0; simp at ha
    · rw [last_take zs k h0 (by omega)] at ha
      cases ha
      exact hq h0)
  rw [List.take_succ_eq_append_getElem hk]
  exact this
theorem grpZ_len (d : Nat) (zs : List Pf) (k : Nat) : (grps (keyZ d) (zs.take k)).length ≤ k := by
  have := grps_count (keyZ d) (zs.take k).length (zs.take k) (Nat.le_refl _)
  rw [List.length_take] at this
  omega
theorem snoc_len {α : Type} (l : List α) (n : Nat) (h : l.length = n + 1) : ∃ a x, l = a ++ [x] ∧ a.length = n := by
  refine ⟨l.take n, l[n]'(by omega), ?_, by simp; omega⟩
  rw [← List.take_succ_eq_append_getElem (by omega), List.take_of_length_le (by omega)]
def kdN (n : Nat) (fl : Bool) (d : Nat) : Nat := if d + 1 < n then 3 else if fl = true then 2 else 1
theorem kdN_is (x : Lf) (d : Nat) : kdAt x d = kdN x.p.length x.fl d := rfl
theorem kindAtQ (A : Option Addr) (n c : Nat) (fl : Bool) (dr ds : Int) (v : ByteArray) (d : Nat) (w : World) (hd : d ≤ 100) (hl : n ≤ 140737488355328) : Calls Tryz.prog 139 #[.agg #[.slice A n c, .bool fl, .int .i64 dr, .int .i64 ds, .string v], .int .i64 d] w fun e w' => e = .returned (.int .i64 (kdN n fl d)) ∧ Below w.heap.size w w' := by
  have h := kindAt ⟨List.replicate n ByteArray.empty, fl, dr, ds, v⟩ A c d w hd (by simpa using hl)
  rw [kdN_is] at h
  simp only [List.length_replicate] at h
  exact h
theorem Sv.rd {w : World} {b o n c : Nat} {xs : List Sv} (h : Rd w (.slice (some ⟨b, o, none⟩) n c) xs) (i : Nat) (hi : i < xs.length) : w.cell? ⟨b, o + i, none⟩ = some xs[i].v := by
  have := h.get i hi 0 (by decide)
  have e : o + i * Cd.z Sv + 0 = o + i := by show o + i * 1 + 0 = _; omega
  rw [e] at this
  exact this
theorem perm_out {a b : Ds} {X R : List Ds} : (a :: (X ++ (b :: R))).Perm (b :: a :: (X ++ R)) := ((List.perm_middle).cons a).trans (.swap _ _ _)
theorem implTextQ (s : ByteArray) (w : World) (hs : s.size ≤ 140737488351232) : Calls Tryz.prog 140 #[.string s] w fun e w' => ∃ A c, e = .returned (.slice A (txt s).length c) ∧ Own w [.own (.slice A (txt s).length c) (txt s)] w' :=
  (implPutText s w hs).mono fun e w' ⟨v', he, h⟩ => by
    obtain ⟨A, c, rfl, _, _⟩ := (h.rd 0 rfl).val
    exact ⟨A, c, he, h⟩
def gZ (T : List Lf → List UInt8) (d : Nat) (g : List Pf) : List UInt8 := gB T d (g.map (·.l))
theorem gZs (T : List Lf → List UInt8) (d : Nat) (zs : List Pf) : ((grps (keyZ d) zs).map (gZ T d)).flatten = ((grps (keyAt d) (zs.map (·.l))).map (gB T d)).flatten := by
  rw [grps_map (fun z : Pf => z.l) (keyAt d) zs.length zs (Nat.le_refl _), List.map_map]
  rfl
theorem gZs_len (d : Nat) (zs : List Pf) : (grps (keyAt d) (zs.map (·.l))).length = (grps (keyZ d) zs).length := by
  rw [grps_map (fun z : Pf => z.l) (keyAt d) zs.length zs (Nat.le_refl _), List.length_map]
  rfl
end Go.Proofs.YtohgelmkagcimaaGreat
namespace Go.Proofs.YtohgelmkagcimaaGreat
set_option linter.unusedSimpArgs false
set_option linter.unusedVariables false
open Go.RowKit Go.Ow
attribute [local irreducible] wpQuiet
set_option maxRecDepth 100000
set_option maxHeartbeats 16000000 in
theorem writeMapStep (f d : Nat) (hd : d ≤ 7) (hf : f ≤ 7)
    (IH : ∀ (W : World) (R : List Ds) (out : List UInt8) (vo : Value) (zs : List Pf) (A : Option Addr) (c : Nat) (w : World), Own W (.own vo out :: R) w → (∀ (X : List Ds) (w' : World), Own W (X ++ R) w' → Rd w' (.slice A zs.length c) zs ∧ ∀ z ∈ zs, Pf.at_ w' z) → 0 < zs.length → (∀ z ∈ zs, LfG (d + 1) z.l) → zs.length ≤ 1000 → out.length + 1000000 * f ≤ 1000000000 →
      Calls Tryz.prog 97 #[vo, .slice A zs.length c, .int .i64 ((d : Int) + 1)] w fun e w' => ∃ A c q, e = .returned (.slice A q.length c) ∧ Hid (q = out ++ treeB f (d + 1) (zs.map (·.l))) ∧ Own W (.own (.slice A q.length c) q :: R) w')
    {W : World} {R : List Ds} (out : List UInt8) (vo : Value) (zs : List Pf) (A : Option Addr) (c : Nat) (w : World) (HS : Own W (.own vo out :: R) w) (hv : ∀ (X : List Ds) (w' : World), Own W (X ++ R) w' → Rd w' (.slice A zs.length c) zs ∧ ∀ z ∈ zs, Pf.at_ w' z) (hg : ∀ z ∈ zs, LfG d z.l) (hn : zs.length ≤ 1000) (ho : out.length + 1000000 * (f + 1) ≤ 1000000000) :
    Calls Tryz.prog 97 #[vo, .slice A zs.length c, .int .i64 d] w fun e w' => ∃ A c q, e = .returned (.slice A q.length c) ∧ Hid (q = out ++ treeB (f + 1) d (zs.map (·.l))) ∧ Own W (.own (.slice A q.length c) q :: R) w' := by
  have HIH := Lib.hid IH
  have HV := Lib.hid hv
  have HG := Lib.hid hg
  have HV2 := Lib.hid (show ∀ (X : List Ds) (w' : World), Own W (X ++ (.own vo out :: R)) w' → Rd w' (.slice A zs.length c) zs ∧ ∀ z ∈ zs, Pf.at_ w' z from fun X w' h => HV.out (X ++ [.own vo out]) w' (by rw [List.append_assoc]; exact h))
  clear IH hv hg
  obtain ⟨A0, c0, rfl, _, _⟩ := (HS.rd 0 rfl).val
  have HL := HS.lit ([] : List Sv) #[] 31 rfl rfl (by simp)
  go_enter Tryz.func97, Tryz.ntmps97
  go_wp2
  clear HS
  go_loopw [7, 19] (fun gv i wr => ∃ (k ns : Nat) (svs : List Sv) (gs : List (List Pf)) (B : Option Addr) (e : Nat), k ≤ zs.length ∧ i = .int .i64 k ∧ gv = .slice B ns e ∧ ns ≤ k ∧ Hid (ns = svs.length ∧ svs.length = gs.length) ∧ Hid (gs = grps (keyZ d) (zs.take k)) ∧ Own W (.own (.slice B ns e) svs :: (gown svs gs ++ (.own (.slice A0 out.length c0) out :: R))) wr) (fun _ i _ => zs.length - (intOf i).toNat)
  case atStart => exact ⟨0, 0, [], [], _, _, by omega, rfl, rfl, by omega, Lib.hid ⟨rfl, rfl⟩, Lib.hid (by rw [List.take_zero, grps_nil]), HL⟩
  case round =>
    obtain ⟨k, ns, svs, gs, B, e, hk, rfl, rfl, hsk, HLEN, HGS, HS⟩ := hrel
    clear HL
    by_cases hlt : k < zs.length
    · obtain ⟨b, o, rfl⟩ := (HV2.out (.own (.slice B ns e) svs :: gown svs gs) wr HS).1.fix (by omega)
      have hcl : ∀ (w' : World), Below wr.heap.size wr w' → _ := fun w' hb => Pf.cells ((HV2.out (.own (.slice B ns e) svs :: gown svs gs) w' (HS.of_below hb)).1) k hlt
      have hzk := HG.out _ (List.getElem_mem hlt)
      have hat : ∀ (w' : World), Below wr.heap.size wr w' → Pf.at_ w' zs[k] := fun w' hb => (HV2.out (.own (.slice B ns e) svs :: gown svs gs) w' (HS.of_below hb)).2 _ (List.getElem_mem hlt)
      have HNEW := Lib.hid (grpZ_new d zs k hlt)
      have HMORE : Hid (∀ (h0 : 0 < k), keyAt d zs[k].l = keyAt d (zs[k - 1]'(by omega)).l → ∃ gs g, grps (keyZ d) (zs.take k) = gs ++ [g] ∧ grps (keyZ d) (zs.take (k + 1)) = gs ++ [g ++ [zs[k]]]) := Lib.hid fun h0 => grpZ_more d zs k h0 hlt
      obtain ⟨z, hz⟩ : ∃ z, zs[k] = z := ⟨_, rfl⟩
      simp only [hz] at hcl hzk hat HNEW HMORE
      clear hz
      obtain ⟨⟨Az, nz, cz⟩, ⟨zp, zf, zr, zd, zv⟩⟩ := z
      simp only [Sv.v, Pf.at_] at hcl hzk hat
      obtain rfl : nz = zp.length := (hat wr (Below.refl _ _)).len
      have hc0 := hcl wr (Below.refl _ _)
      have HAT := Lib.hid hat
      clear hat hcl
      have HB := HS.box (b := wr.heap.size) [.slice Az zp.length cz, .bool zf, .int .i64 zr, .int .i64 zd, .string zv] 103
      have hnl : zp.length ≤ 8 := hzk.2.1
      have hnd : d < zp.length := hzk.1
      by_cases h0 : k = 0
      · have hgd : decide (0 < k) = false := by simp; omega
        have HN := Lib.hid (HNEW.out fun h => by omega)
        have hk0 : k ≤ 0 := by omega
        clear h0
        go_wp2
        (refine wp_region_ext (by kernel_rfl) (by kernel_rfl) ?_; (repeat (quiet_step (first | fail))); refine wpQuiet_nil ?_; rintro _ ⟨⟨w1, hw1⟩, rfl⟩)
        have HSQ := HB.of_below hw1
        rename_i wQ
        clear HB HS hc0 hw1
        have F := HSQ.only.facts
        simp only [Own.Facts, Own.Cells, Nat.zero_add] at F
        have HL1 := HSQ.lit [(⟨⟨Az, zp.length, cz⟩, ⟨zp, zf, zr, zd, zv⟩⟩ : Pf)] #[.slice Az zp.length cz, .bool zf, .int .i64 zr, .int .i64 zd, .string zv] 103 rfl rfl (by simp)
        have HL2 := (HL1.lit [(⟨some ⟨wQ.heap.size, 0, none⟩, 1, 1⟩ : Sv)] #[.slice (some ⟨wQ.heap.size, 0, none⟩) 1 1] 31 rfl rfl (by simp)).pick 3 rfl
        simp only [World.size_alloc, List.eraseIdx_cons_succ, List.eraseIdx_cons_zero] at HL2
        have hns : ns + 1 ≤ 1001 := by omega
        go_wp2_with (refine wp_app2 (α := Sv) rfl _ _ 167 rfl (by kernel_rfl) _ _ HL2 rfl _ _ rfl (HL2.rd 1 rfl) (by show (_ + 1) * 24 ≤ _; rw [← HLEN.out.1]; omega) (by show _ + 1 ≤ _; rw [← HLEN.out.1]; omega) ?_; clear HL1 HL2 F; intro v2 q2 w2 hq2 hql2 H2)
        obtain ⟨B2, e2, rfl, _, _⟩ := (H2.rd 0 rfl).val
        have hq3 := hq2.out
        clear hq2 hql2
        subst hq3
        have H3 := ((H2.pick 1 rfl).drop.pick 2 rfl).drop.pick 1 rfl
        simp only [List.eraseIdx_cons_succ, List.eraseIdx_cons_zero] at H3
        have H4 := Own.gback (s := ⟨some ⟨wQ.heap.size, 0, none⟩, 1, 1⟩) HLEN.out.2 H3
        have hl4 : (svs ++ [(⟨some ⟨wQ.heap.size, 0, none⟩, 1, 1⟩ : Sv)]).length ≤ k + 1 := by rw [List.length_append, ← HLEN.out.1]; simp; omega
        go_roundw
        case rel => exact ⟨k + 1, _, svs ++ [⟨some ⟨wQ.heap.size, 0, none⟩, 1, 1⟩], gs ++ [[(⟨⟨Az, zp.length, cz⟩, ⟨zp, zf, zr, zd, zv⟩⟩ : Pf)]], B2, e2, by omega, by go_num, rfl, hl4, Lib.hid ⟨rfl, by simp [HLEN.out.2]⟩, Lib.hid (by rw [HN.out, HGS.out]), H4⟩
        case measure => simp [intOf]; omega
      · obtain ⟨m, hm0⟩ : ∃ m, k - 1 = m := ⟨_, rfl⟩
        simp only [hm0] at HNEW HMORE
        have hm : m < zs.length := by omega
        have hE : ∀ p : Ext (wr.alloc (.cells #[.slice Az zp.length cz, .bool zf, .int .i64 zr, .int .i64 zd, .string zv] 103)), _ := fun p => HV2.out (.box wr.heap.size 103 [.slice Az zp.length cz, .bool zf, .int .i64 zr, .int .i64 zd, .string zv] :: .own (.slice B ns e) svs :: gown svs gs) p.to (HB.of_below p.h)
        have hF2 : ∀ p : Ext (wr.alloc (.cells #[.slice Az zp.length cz, .bool zf, .int .i64 zr, .int .i64 zd, .string zv] 103)), _ := fun p => Pf.cells (hE p).1 m hm
        have hF3 : ∀ p : Ext (wr.alloc (.cells #[.slice Az zp.length cz, .bool zf, .int .i64 zr, .int .i64 zd, .string zv] 103)), _ := fun p => (hE p).2 _ (List.getElem_mem hm)
        have hF4 : ∀ p : Ext (wr.alloc (.cells #[.slice Az zp.length cz, .bool zf, .int .i64 zr, .int .i64 zd, .string zv] 103)), Rd p.to (.slice Az zp.length cz) zp := fun p => HAT.out p.to (((Below.refl _ _).alloc (Nat.le_refl _) _).trans (p.h.mono (by simp)))
        have hF1 : ∀ p : Ext (wr.alloc (.cells #[.slice Az zp.length cz, .bool zf, .int .i64 zr, .int .i64 zd, .string zv] 103)), _ := fun p => (HB.of_below p.h).only.facts
        simp only [Own.Facts, Own.Cells, Nat.zero_add, and_true] at hF1
        have hyk := HG.out _ (List.getElem_mem hm)
        obtain ⟨y, hy⟩ : ∃ y, zs[m] = y := ⟨_, rfl⟩
        simp only [hy] at hF2 hF3 hyk HNEW HMORE
        clear hy hE
        obtain ⟨⟨Ay, ny, cy⟩, ⟨yp, yf, yr, yd, yv⟩⟩ := y
        simp only [Sv.v, Pf.at_] at hF2 hF3 hyk
        obtain rfl : ny = yp.length := (hF3 default).len
        have hyl : yp.length ≤ 8 := hyk.2.1
        have hyd : d < yp.length := hyk.1
        obtain ⟨bz, oz, rfl⟩ := (hF4 default).fix (by omega)
        obtain ⟨by_, oy, rfl⟩ := (hF3 default).fix (by omega)
        have hN1 : ∀ p : Ext _, p.to.cell? ⟨bz, oz + d, none⟩ = some (.string (nmAt ⟨zp, zf, zr, zd, zv⟩ d)) := fun p => by
          have := Sg.rd (hF4 p) d hnd
          rw [this]; unfold nmAt; rw [List.getElem?_eq_getElem hnd]; rfl
        have hN2 : ∀ p : Ext _, p.to.cell? ⟨by_, oy + d, none⟩ = some (.string (nmAt ⟨yp, yf, yr, yd, yv⟩ d)) := fun p => by
          have := Sg.rd (hF3 p) d hyd
          rw [this]; unfold nmAt; rw [List.getElem?_eq_getElem hyd]; rfl
        clear hF3 hF4
        have hgd : decide (0 < k) = true := by simp; omega
        have HKM := Lib.hid (show (k : Int) - 1 = (m : Int) by omega)
        have HKW := Lib.hid (show IntKind.i64.wrap (m : Int) = (m : Int) from i64w rfl (by omega) (by omega))
        have hk1 : 1 ≤ k := by omega
        have hd100 : d ≤ 100 := by omega
        have hz140 : zp.length ≤ 140737488355328 := by omega
        have hy140 : yp.length ≤ 140737488355328 := by omega
        clear h0 hm0
        by_cases n1 : nmAt ⟨zp, zf, zr, zd, zv⟩ d = nmAt ⟨yp, yf, yr, yd, yv⟩ d
        · have n2 : ((nmAt ⟨zp, zf, zr, zd, zv⟩ d).toList == (nmAt ⟨yp, yf, yr, yd, yv⟩ d).toList) = true := by rw [str_eq]; simp [n1]
          by_cases k1 : kdAt ⟨zp, zf, zr, zd, zv⟩ d = kdAt ⟨yp, yf, yr, yd, yv⟩ d
          · have k2 : ((kdN zp.length zf d : Int) == (kdN yp.length yf d : Int)) = true := by have k1 :  (kdN zp.length zf d = kdN yp.length yf d) := k1; simp [k1]
            obtain ⟨gs0, g, hg1, hg2⟩ := HMORE.out (by omega) (by show keyAt d _ = keyAt d _; unfold keyAt; rw [n1, k1])
            have HN := Lib.hid hg2
            have hgs := HGS.out.trans hg1
            clear n1 k1 HNEW HMORE hg1 hg2
            subst hgs
            obtain ⟨svs0, sv, hsv, hs0⟩ := snoc_len svs gs0.length (by rw [HLEN.out.2]; simp)
            have HS0 := Lib.hid hs0
            clear hs0
            subst hsv
            obtain rfl : ns = svs0.length + 1 := by rw [HLEN.out.1]; simp
            have HG3 := HS
            obtain ⟨e', hB0⟩ : ∃ g0, B = some ⟨g0, 0, none⟩ := HS.fix (by simp)
            subst hB0
            have hkm := HKM.out
            have hkw := HKW.out
            go_wp2
            (refine wp_region_ext (by kernel_rfl) (by kernel_rfl) ?_; (repeat (quiet_step (first | exact q_call (kindAtQ _ _ _ _ _ _ _ _ _ hd100 (by omega))))); refine wpQuiet_nil ?_; rintro _ ⟨⟨w1, hw1⟩, rfl⟩)
            have HSQ := HB.of_below hw1
            rename_i wQ
            clear HB HS HG3 hc0 hw1 hF1 hF2 hN1 hN2 n2 k2 hkm hkw
            have F := HSQ.only.facts
            simp only [Own.Facts, Own.Cells, Nat.zero_add] at F
            have H1 := HSQ.drop
            have H2 := Own.glast HS0.out H1
            have hrow := Sv.row (H2.pick 1 rfl) svs0.length (by simp)
            simp only [List.getElem_append_right (Nat.le_refl _), Nat.sub_self, List.getElem_cons_zero] at hrow
            have hsl : svs0.length + 1 ≤ 1001 := by omega
            have hgl : g.length ≤ 1001 := by
              have h1 := congrArg List.length HN.out
              have h2 := mem_len _ g (show g ∈ gs0 ++ [g] by simp)
              rw [HGS.out, grps_flat (keyZ d) _ _ (Nat.le_refl _), List.length_take] at h2
              omega
            obtain ⟨Ag, ng, cg⟩ := sv
            simp only [Sv.v] at H2 hrow
            have hii : (svs0.length : Int) < (svs0.length : Int) + 1 := by omega
            have hij : (0 : Int) ≤ (svs0.length : Int) := by omega
            have hrowA := Sv.row ((H2.lit [(⟨⟨some ⟨bz, oz, none⟩, zp.length, cz⟩, ⟨zp, zf, zr, zd, zv⟩⟩ : Pf)] #[.slice (some ⟨bz, oz, none⟩) zp.length cz, .bool zf, .int .i64 zr, .int .i64 zd, .string zv] 103 rfl rfl (by simp)).pick 2 rfl) svs0.length (by simp)
            simp only [List.getElem_append_right (Nat.le_refl _), Nat.sub_self, List.getElem_cons_zero, Sv.v] at hrowA
            have HL := ((H2.lit [(⟨⟨some ⟨bz, oz, none⟩, zp.length, cz⟩, ⟨zp, zf, zr, zd, zv⟩⟩ : Pf)] #[.slice (some ⟨bz, oz, none⟩) zp.length cz, .bool zf, .int .i64 zr, .int .i64 zd, .string zv] 103 rfl rfl (by simp)).drew).pick 1 rfl
            simp only [List.eraseIdx_cons_succ, List.eraseIdx_cons_zero] at HL
            go_wp2
            go_region_law (refine hp_app (α := Pf) _ _ 31 rfl (by rfl) (by kernel_rfl) _ _ HL rfl _ _ rfl (HL.rd 1 rfl) (by show (_ + 1) * 64 ≤ _; omega) (by show _ + 1 ≤ _; omega) ?_; intro v3 w3 HS3; obtain ⟨A3, c3, rfl, _, _⟩ := (HS3.rd 0 rfl).val; have hrow3 := Sv.row (HS3.pick 2 rfl) svs0.length (by simp))
            all_goals
              have hset : (svs0 ++ [(⟨Ag, ng, cg⟩ : Sv)]).set svs0.length ⟨A3, g.length + 1, c3⟩ = svs0 ++ [⟨A3, g.length + 1, c3⟩] := by rw [List.set_append_right _ _ (Nat.le_refl _)]; simp
              have hgl3 : (g ++ [(⟨⟨some ⟨bz, oz, none⟩, zp.length, cz⟩, ⟨zp, zf, zr, zd, zv⟩⟩ : Pf)]).length = g.length + 1 := by simp
              have H4 := Sv.put (HS3.pick 2 rfl) svs0.length (by simp) ⟨A3, g.length + 1, c3⟩
              rw [hset] at H4
              have H5 := (H4.pick 2 rfl).drop.pick 1 rfl
              simp only [List.eraseIdx_cons_succ, List.eraseIdx_cons_zero] at H5
              rw [hgl3] at H5
              have H6 := Own.gback (s := ⟨A3, g.length + 1, c3⟩) HS0.out H5
              have hlf : svs0.length + 1 = (svs0 ++ [(⟨A3, g.length + 1, c3⟩ : Sv)]).length := by simp
              have hlg : (svs0 ++ [(⟨A3, g.length + 1, c3⟩ : Sv)]).length = (gs0 ++ [g ++ [(⟨⟨some ⟨bz, oz, none⟩, zp.length, cz⟩, ⟨zp, zf, zr, zd, zv⟩⟩ : Pf)]]).length := by simp [HS0.out]
              have HLF := Lib.hid (And.intro hlf hlg)
              clear hlf hlg hset hgl3 H4 H5 HS3 hrow3 hrowA hrow HL H1 H2 F
              go_wp2
              go_roundw
              case rel => exact ⟨k + 1, svs0.length + 1, svs0 ++ [⟨A3, g.length + 1, c3⟩], gs0 ++ [g ++ [(⟨⟨some ⟨bz, oz, none⟩, zp.length, cz⟩, ⟨zp, zf, zr, zd, zv⟩⟩ : Pf)]], some ⟨e', 0, none⟩, e, by omega, by go_num, rfl, by omega, HLF, Lib.hid HN.out.symm, H6⟩
              case measure => simp [intOf]; omega
          · have k2 : ((kdN zp.length zf d : Int) == (kdN yp.length yf d : Int)) = false := by have k1 : ¬ (kdN zp.length zf d = kdN yp.length yf d) := k1; simp; omega
            have HN := Lib.hid (HNEW.out fun _ h => k1 (congrArg Prod.snd h))
            clear n1 k1 HNEW HMORE
            have hkm := HKM.out
            have hkw := HKW.out
            go_wp2
            (refine wp_region_ext (by kernel_rfl) (by kernel_rfl) ?_; (repeat (quiet_step (first | exact q_call (kindAtQ _ _ _ _ _ _ _ _ _ hd100 (by omega))))); refine wpQuiet_nil ?_; rintro _ ⟨⟨w1, hw1⟩, rfl⟩)
            have HSQ := HB.of_below hw1
            rename_i wQ
            clear HB HS hc0 hw1 hF1 hF2 hN1 hN2 n2 k2 hkm hkw
            have F := HSQ.only.facts
            simp only [Own.Facts, Own.Cells, Nat.zero_add] at F
            have HL1 := HSQ.lit [(⟨⟨some ⟨bz, oz, none⟩, zp.length, cz⟩, ⟨zp, zf, zr, zd, zv⟩⟩ : Pf)] #[.slice (some ⟨bz, oz, none⟩) zp.length cz, .bool zf, .int .i64 zr, .int .i64 zd, .string zv] 103 rfl rfl (by simp)
            have HL2 := (HL1.lit [(⟨some ⟨wQ.heap.size, 0, none⟩, 1, 1⟩ : Sv)] #[.slice (some ⟨wQ.heap.size, 0, none⟩) 1 1] 31 rfl rfl (by simp)).pick 3 rfl
            simp only [World.size_alloc, List.eraseIdx_cons_succ, List.eraseIdx_cons_zero] at HL2
            have hns : ns + 1 ≤ 1001 := by omega
            go_wp2_with (refine wp_app2 (α := Sv) rfl _ _ 167 rfl (by kernel_rfl) _ _ HL2 rfl _ _ rfl (HL2.rd 1 rfl) (by show (_ + 1) * 24 ≤ _; rw [← HLEN.out.1]; omega) (by show _ + 1 ≤ _; rw [← HLEN.out.1]; omega) ?_; clear HL1 HL2 F; intro v2 q2 w2 hq2 hql2 H2)
            obtain ⟨B2, e2, rfl, _, _⟩ := (H2.rd 0 rfl).val
            have hq3 := hq2.out
            clear hq2 hql2
            subst hq3
            have H3 := ((H2.pick 1 rfl).drop.pick 2 rfl).drop.pick 1 rfl
            simp only [List.eraseIdx_cons_succ, List.eraseIdx_cons_zero] at H3
            have H4 := Own.gback (s := ⟨some ⟨wQ.heap.size, 0, none⟩, 1, 1⟩) HLEN.out.2 H3
            have hl4 : (svs ++ [(⟨some ⟨wQ.heap.size, 0, none⟩, 1, 1⟩ : Sv)]).length ≤ k + 1 := by rw [List.length_append, ← HLEN.out.1]; simp; omega
            go_roundw
            case rel => exact ⟨k + 1, _, svs ++ [⟨some ⟨wQ.heap.size, 0, none⟩, 1, 1⟩], gs ++ [[(⟨⟨some ⟨bz, oz, none⟩, zp.length, cz⟩, ⟨zp, zf, zr, zd, zv⟩⟩ : Pf)]], B2, e2, by omega, by go_num, rfl, hl4, Lib.hid ⟨rfl, by simp [HLEN.out.2]⟩, Lib.hid (by rw [HN.out, HGS.out]), H4⟩
            case measure => simp [intOf]; omega
        · have n2 : ((nmAt ⟨zp, zf, zr, zd, zv⟩ d).toList == (nmAt ⟨yp, yf, yr, yd, yv⟩ d).toList) = false := by rw [str_eq]; simp [n1]
          have HN := Lib.hid (HNEW.out fun _ h => n1 (congrArg Prod.fst h))
          clear n1 HNEW HMORE
          have hkm := HKM.out
          have hkw := HKW.out
          go_wp2
          (refine wp_region_ext (by kernel_rfl) (by kernel_rfl) ?_; (repeat (quiet_step (first | fail))); refine wpQuiet_nil ?_; rintro _ ⟨⟨w1, hw1⟩, rfl⟩)
          have HSQ := HB.of_below hw1
          rename_i wQ
          clear HB HS hc0 hw1 hF1 hF2 hN1 hN2 n2 hkm hkw
          have F := HSQ.only.facts
          simp only [Own.Facts, Own.Cells, Nat.zero_add] at F
          have HL1 := HSQ.lit [(⟨⟨some ⟨bz, oz, none⟩, zp.length, cz⟩, ⟨zp, zf, zr, zd, zv⟩⟩ : Pf)] #[.slice (some ⟨bz, oz, none⟩) zp.length cz, .bool zf, .int .i64 zr, .int .i64 zd, .string zv] 103 rfl rfl (by simp)
          have HL2 := (HL1.lit [(⟨some ⟨wQ.heap.size, 0, none⟩, 1, 1⟩ : Sv)] #[.slice (some ⟨wQ.heap.size, 0, none⟩) 1 1] 31 rfl rfl (by simp)).pick 3 rfl
          simp only [World.size_alloc, List.eraseIdx_cons_succ, List.eraseIdx_cons_zero] at HL2
          have hns : ns + 1 ≤ 1001 := by omega
          go_wp2_with (refine wp_app2 (α := Sv) rfl _ _ 167 rfl (by kernel_rfl) _ _ HL2 rfl _ _ rfl (HL2.rd 1 rfl) (by show (_ + 1) * 24 ≤ _; rw [← HLEN.out.1]; omega) (by show _ + 1 ≤ _; rw [← HLEN.out.1]; omega) ?_; clear HL1 HL2 F; intro v2 q2 w2 hq2 hql2 H2)
          obtain ⟨B2, e2, rfl, _, _⟩ := (H2.rd 0 rfl).val
          have hq3 := hq2.out
          clear hq2 hql2
          subst hq3
          have H3 := ((H2.pick 1 rfl).drop.pick 2 rfl).drop.pick 1 rfl
          simp only [List.eraseIdx_cons_succ, List.eraseIdx_cons_zero] at H3
          have H4 := Own.gback (s := ⟨some ⟨wQ.heap.size, 0, none⟩, 1, 1⟩) HLEN.out.2 H3
          have hl4 : (svs ++ [(⟨some ⟨wQ.heap.size, 0, none⟩, 1, 1⟩ : Sv)]).length ≤ k + 1 := by rw [List.length_append, ← HLEN.out.1]; simp; omega
          go_roundw
          case rel => exact ⟨k + 1, _, svs ++ [⟨some ⟨wQ.heap.size, 0, none⟩, 1, 1⟩], gs ++ [[(⟨⟨some ⟨bz, oz, none⟩, zp.length, cz⟩, ⟨zp, zf, zr, zd, zv⟩⟩ : Pf)]], B2, e2, by omega, by go_num, rfl, hl4, Lib.hid ⟨rfl, by simp [HLEN.out.2]⟩, Lib.hid (by rw [HN.out, HGS.out]), H4⟩
          case measure => simp [intOf]; omega
    · have hke : k = zs.length := by omega
      have hns : ns ≤ 1000 := by omega
      have HGS2 := Lib.hid (show gs = grps (keyZ d) zs by rw [HGS.out, hke, List.take_length])
      have HLS := HLEN
      clear hke HGS HV2
      have hM : (((grps (keyAt d) (zs.map (·.l))).map (gB (treeB f (d + 1)) d)).flatten).length ≤ 800000 := by
        have h1 := treeB_len (f + 1) d (zs.map (·.l)) (fun l hl => by obtain ⟨z, hz, rfl⟩ := List.mem_map.1 hl; exact HG.out z hz) (by simpa using hn)
        rw [treeB, List.length_append, List.length_map] at h1
        have h2 : zs.length * (70 * (f + 1) + 230) ≤ 1000 * (70 * (f + 1) + 230) := Nat.mul_le_mul_right _ hn
        omega
      obtain ⟨BB, hBB⟩ : ∃ B, ((grps (keyAt d) (zs.map (·.l))).map (gB (treeB f (d + 1)) d)).flatten = B := ⟨_, rfl⟩
      rw [hBB] at hM
      have HTB := Lib.hid (show treeB (f + 1) d (zs.map (·.l)) = uv ns ++ BB by rw [treeB, hBB, gZs_len, ← HGS2.out, ← HLS.out.2, ← HLS.out.1])
      have HBB := Lib.hid (show (gs.map (gZ (treeB f (d + 1)) d)).flatten = BB by rw [HGS2.out, gZs, hBB])
      clear hBB
      have hT : Hid (∀ g : List Lf, (∀ l ∈ g, LfG (d + 1) l) → g.length ≤ 1000 → (treeB f (d + 1) g).length ≤ 800000) := Lib.hid fun g h1 h2 => by
        have h3 := treeB_len f (d + 1) g h1 h2
        have h4 : g.length * (70 * f + 230) ≤ 1000 * (70 * f + 230) := Nat.mul_le_mul_right _ h2
        omega
      have HS1 := HS.perm perm_out
      clear HS
      have hu0 := uv_len10 ns (by omega)
      obtain ⟨R2, hR2⟩ : ∃ R2, Ds.own (.slice B ns e) svs :: (gown svs gs ++ R) = R2 := ⟨_, rfl⟩
      rw [hR2] at HS1
      have HRW : Hid (∀ (X : List Ds) (w' : World), Own W (X ++ R2) w' → Rd w' (.slice B ns e) svs) := Lib.hid fun X w' h => by
        subst hR2
        exact Own.rdm h (by simp)
      have HRG : Hid (∀ (j : Nat) (hj : j < gs.length) (hj2 : j < svs.length) (X : List Ds) (w' : World), Own W (X ++ R2) w' → Rd w' svs[j].v gs[j] ∧ ∀ z ∈ gs[j], Pf.at_ w' z) := Lib.hid fun j hj hj2 X w' h => by
        subst hR2
        refine ⟨Own.rdm h ?_, fun z hz => ?_⟩
        · have := gown_mem svs gs HLS.out.2 j hj
          simp [this]
        · have hzz : z ∈ zs := by
            have h2 : z ∈ gs.flatten := List.mem_flatten.2 ⟨_, List.getElem_mem hj, hz⟩
            rw [HGS2.out, grps_flat (keyZ d) _ _ (Nat.le_refl _)] at h2
            exact h2
          exact (HV.out (X ++ (.own (.slice B ns e) svs :: gown svs gs)) w' (by rw [List.append_assoc]; exact h)).2 z hzz
      have HBK : Hid (∀ (q : Value) (qs : List UInt8) (w' : World), Own W (.own q qs :: R2) w' → Own W (.own q qs :: R) w') := Lib.hid fun q qs w' h => by
        subst hR2
        have h1 : Own W ((.own (.slice B ns e) svs :: gown svs gs) ++ (.own q qs :: R)) w' := h.perm (by
          refine (List.Perm.swap _ _ _).trans ?_
          exact (List.perm_middle.symm).cons _)
        have dropAll : ∀ (X Y : List Ds), Own W (X ++ Y) w' → Own W Y w' := by
          intro X
          induction X with
          | nil => intro Y h; exact h
          | cons x X ih => intro Y h; exact ih Y h.drop
        exact dropAll _ _ h1
      clear hR2
      go_wp2_with fail
      refine (putInt2 out ns _ _ HS1 (by omega) (by omega)).mono ?_
      rintro e1 w1 ⟨A1, c1, q1, rfl, hq1, hql1, HS2⟩
      clear HS1
      have hq1l : q1.length ≤ out.length + 800010 := by omega
      have HQ1 := Lib.hid (show q1 ++ ((gs.drop 0).map (gZ (treeB f (d + 1)) d)).flatten = out ++ (uv ns ++ BB) by rw [hq1.out, List.drop_zero, HBB.out, List.append_assoc])
      clear hq1 hql1
      go_wp2
      go_loopw [0, 81] (fun o i wr => ∃ (j : Nat) (q : List UInt8) (A : Option Addr) (c : Nat), j ≤ ns ∧ i = .int .i64 j ∧ o = .slice A q.length c ∧ q.length ≤ out.length + 800010 ∧ Hid (q ++ ((gs.drop j).map (gZ (treeB f (d + 1)) d)).flatten = out ++ (uv ns ++ BB)) ∧ Own W (.own (.slice A q.length c) q :: R2) wr) (fun _ i _ => ns - (intOf i).toNat)
      case atStart => exact ⟨0, q1, A1, c1, by omega, rfl, rfl, hq1l, HQ1, HS2⟩
      case round =>
        obtain ⟨j, q, A2, c2, hj, rfl, rfl, hql, HQ, HS⟩ := hrel
        clear HS2 HQ1 hq1l
        by_cases hjl : j < ns
        · have hj1 : j < svs.length := by rw [← HLS.out.1]; exact hjl
          have hj2 : j < gs.length := by rw [← HLS.out.2]; exact hj1
          obtain ⟨gb, go, hgb⟩ : ∃ b o, B = some ⟨b, o, none⟩ := (HRW.out [.own (.slice A2 q.length c2) q] wr HS).fix (by omega)
          subst hgb
          have hcell := Sv.rd (HRW.out [.own (.slice A2 q.length c2) q] wr HS) j hj1
          have HR := Lib.hid (HRG.out j hj2 hj1)
          have hmem : gs[j] ∈ grps (keyZ d) zs := by rw [← HGS2.out]; exact List.getElem_mem hj2
          obtain ⟨x, t, hgx, hkey⟩ := grps_ne (keyZ d) zs.length zs (Nat.le_refl _) _ hmem
          have hsub := grps_sub (keyZ d) zs _ hmem
          have hdrop : (gs.drop j) = gs[j] :: gs.drop (j + 1) := List.drop_eq_getElem_cons hj2
          have hq2 := HQ.out
          rw [hdrop, List.map_cons, List.flatten_cons, ← List.append_assoc] at hq2
          obtain ⟨g, hg⟩ : ∃ g, gs[j] = g := ⟨_, rfl⟩
          obtain ⟨⟨Ag, ng, cg⟩, hsv⟩ : ∃ s, svs[j] = s := ⟨_, rfl⟩
          simp only [hg, hsv, Sv.v] at hcell HR hmem hgx hkey hsub hq2
          obtain rfl : ng = g.length := ((HR.out [.own (.slice A2 q.length c2) q] wr HS).1).len
          have hql2 : (q ++ gZ (treeB f (d + 1)) d g).length ≤ out.length + 800010 := by
            have h1 := congrArg List.length hq2
            simp only [List.length_append] at h1 hM ⊢
            omega
          have HQ2 := Lib.hid hq2
          have hg0 : 0 < g.length := by rw [hgx]; simp
          have hgn : g.length ≤ 1000 := by have := hsub.2; omega
          have HGM := Lib.hid (show ∀ z ∈ g, LfG d z.l from fun z hz => HG.out z (hsub.1 z hz))
          have hxG := HGM.out x (by rw [hgx]; simp)
          obtain ⟨bg, og, hAg⟩ : ∃ b o, Ag = some ⟨b, o, none⟩ := ((HR.out [.own (.slice A2 q.length c2) q] wr HS).1).fix hg0
          subst hAg
          have HXC : Hid (∀ (X : List Ds) (w' : World), Own W (X ++ R2) w' → (w'.cell? ⟨bg, og, none⟩ = some x.s.v ∧ w'.cell? ⟨bg, og + 1, none⟩ = some (.bool x.l.fl) ∧ w'.cell? ⟨bg, og + 2, none⟩ = some (.int .i64 x.l.dr) ∧ w'.cell? ⟨bg, og + 3, none⟩ = some (.int .i64 x.l.ds) ∧ w'.cell? ⟨bg, og + 4, none⟩ = some (.string x.l.v)) ∧ Pf.at_ w' x) := Lib.hid fun X w' h => by
            have h1 := HR.out X w' h
            have h2 := Pf.cells h1.1 0 hg0
            have h3 : g[0] = x := by simp [hgx]
            rw [h3] at h2
            simp only [Nat.zero_mul, Nat.add_zero] at h2
            exact ⟨h2, h1.2 x (by rw [hgx]; simp)⟩
          have HGB : Hid (gZ (treeB f (d + 1)) d g = (txt (nmAt x.l d) ++ [UInt8.ofNat (kdAt x.l d)]) ++ (if kdAt x.l d = 3 then treeB f (d + 1) (g.map (·.l)) else uv g.length ++ lfsB (kdAt x.l d) (g.map (·.l)))) := Lib.hid (by
            rw [hgx]; show gB _ d (x.l :: t.map (·.l)) = _; rw [gB]; simp only [List.length_map, List.length_cons, List.map_cons])
          have HKG := Lib.hid (show ∀ z ∈ g, kdAt z.l d = kdAt x.l d from fun z hz => congrArg Prod.snd (hkey z hz))
          clear hq2 hgx hkey hsub hdrop hmem hg hsv
          obtain ⟨⟨Ax, nx, cx⟩, ⟨xp, xf, xr, xs, xv⟩⟩ := x
          simp only [Sv.v, Pf.at_] at HXC hxG HGB HKG
          obtain rfl : nx = xp.length := ((HXC.out [.own (.slice A2 q.length c2) q] wr HS).2).len
          have hxl : xp.length ≤ 8 := hxG.2.1
          have hxd : d < xp.length := hxG.1
          obtain ⟨bx, ox, hAx⟩ : ∃ b o, Ax = some ⟨b, o, none⟩ := ((HXC.out [.own (.slice A2 q.length c2) q] wr HS).2).fix (by omega)
          subst hAx
          have HXN : Hid (∀ (X : List Ds) (w' : World), Own W (X ++ R2) w' → w'.cell? ⟨bx, ox + d, none⟩ = some (.string (nmAt ⟨xp, xf, xr, xs, xv⟩ d))) := Lib.hid fun X w' h => by
            have := Sg.rd (HXC.out X w' h).2 d hxd
            rw [this]; unfold nmAt; rw [List.getElem?_eq_getElem hxd]; rfl
          have hnm := nm_size hxG
          have hkd := kd_le ⟨xp, xf, xr, xs, xv⟩ d
          have hcx := (HXC.out [.own (.slice A2 q.length c2) q] wr HS).1
          have hd100 : d ≤ 100 := by omega
          have hjn : (0 : Int) ≤ (j : Int) := by omega
          go_wp2_with fail
          refine (kindAtQ _ _ _ _ _ _ _ _ _ hd100 (by omega)).mono ?_
          rintro e2 w2 ⟨rfl, hb2⟩
          have HS2 := HS.of_below hb2
          clear HS hb2 hcx hcell
          have hcx := (HXC.out [.own (.slice A2 q.length c2) q] w2 HS2).1
          have hcn := HXN.out [.own (.slice A2 q.length c2) q] w2 HS2
          have hkn : kdN xp.length xf d = kdAt ⟨xp, xf, xr, xs, xv⟩ d := rfl
          obtain ⟨kk, hkk⟩ : ∃ k, kdAt ⟨xp, xf, xr, xs, xv⟩ d = k := ⟨_, rfl⟩
          obtain ⟨nm, hnm2⟩ : ∃ n, nmAt ⟨xp, xf, xr, xs, xv⟩ d = n := ⟨_, rfl⟩
          rw [hkk] at HGB hkn HKG hkd
          rw [hnm2] at HGB hnm hcn
          rw [hkn]
          clear hkk hnm2 hkn HXN HXC hxG
          have htl := txt_len nm 40 hnm (by omega)
          have hk3 := hkd.1
          by_cases hke : kk = 3
          · have hkb : ((kk : Int) == 3) = true := by simp [hke]
            have HGB2 := Lib.hid (show gZ (treeB f (d + 1)) d g = (txt nm ++ [UInt8.ofNat kk]) ++ treeB f (d + 1) (g.map (·.l)) by rw [HGB.out, if_pos hke])
            have HGD := Lib.hid (show ∀ z ∈ g, LfG (d + 1) z.l from fun z hz => kd_deep (HGM.out z hz) ((HKG.out z hz).trans hke))
            have hT1 := hT.out (g.map (·.l)) (fun l hl => by obtain ⟨z, hz, rfl⟩ := List.mem_map.1 hl; exact HGD.out z hz) (by simpa using hgn)
            clear hke
            go_wp2_with fail
            refine (implTextQ nm _ (by omega)).mono ?_
            rintro e3 w3 ⟨A3, c3, rfl, hs3⟩
            have HS3 := (HS2.call hs3).pick 1 rfl
            clear HS2 hs3 hcx hcn
            go_wp2_with (first | (refine wp_app2 (α := UInt8) rfl _ _ 39 rfl (by kernel_rfl) _ _ HS3 rfl _ _ rfl (HS3.rd 1 rfl) (by show (_ + _) * 1 ≤ _; omega) (by omega) ?_; intro v4 q4 w4 hq4 hql4 H'; have HS4 := (H'.pick 1 rfl).drop; have HL4 := (HS4.lit [UInt8.ofNat kk] #[.int .u8 (kk : Int)] 5 rfl (u8_lit kk hk3) (by simp)).pick 1 rfl; clear H' HS3 HS4) | (refine wp_app2 (α := UInt8) rfl _ _ 39 rfl (by kernel_rfl) _ _ HL4 rfl _ _ rfl (HL4.rd 1 rfl) (by show (_ + 1) * 1 ≤ _; omega) (by show _ + 1 ≤ _; omega) ?_; intro v5 q5 w5 hq5 hql5 H'; have HS5 := (H'.pick 1 rfl).drop; clear H' HL4; obtain ⟨A5, c5, rfl, _, _⟩ := (HS5.rd 0 rfl).val))
            have hq5l : q5.length ≤ out.length + 800061 := by simp only [List.length_cons, List.length_nil] at hql5; omega
            clear hql4 hql5 hkb
            refine (HIH.out W R2 q5 _ g (some ⟨bg, og, none⟩) cg _ HS5 (fun X w' h => HR.out X w' h) hg0 HGD.out hgn (by omega)).mono ?_
            rintro e6 w6 ⟨A6, c6, q6, rfl, hq6, HS6⟩
            have hq : q6 = q ++ gZ (treeB f (d + 1)) d g := by rw [hq6.out, hq5.out, hq4.out, HGB2.out]; simp only [List.append_assoc]
            have hq6l : q6.length ≤ out.length + 800010 := by rw [hq]; exact hql2
            have HF := Lib.hid (show q6 ++ ((gs.drop (j + 1)).map (gZ (treeB f (d + 1)) d)).flatten = out ++ (uv ns ++ BB) by rw [hq]; exact HQ2.out)
            clear hq HS5 hq5l
            go_wp2
            go_roundw
            case rel => exact ⟨j + 1, q6, A6, c6, by omega, by go_num, rfl, hq6l, HF, HS6⟩
            case measure => simp [intOf]; omega
          · have hkb : ((kk : Int) == 3) = false := by simp; omega
            have HGB2 := Lib.hid (show gZ (treeB f (d + 1)) d g = (txt nm ++ [UInt8.ofNat kk]) ++ (uv g.length ++ lfsB kk (g.map (·.l))) by rw [HGB.out, if_neg hke])
            clear hke
            go_wp2_with fail
            refine (implTextQ nm _ (by omega)).mono ?_
            rintro e3 w3 ⟨A3, c3, rfl, hs3⟩
            have HS3 := (HS2.call hs3).pick 1 rfl
            clear HS2 hs3 hcx hcn
            go_wp2_with (first | (refine wp_app2 (α := UInt8) rfl _ _ 39 rfl (by kernel_rfl) _ _ HS3 rfl _ _ rfl (HS3.rd 1 rfl) (by show (_ + _) * 1 ≤ _; omega) (by omega) ?_; intro v4 q4 w4 hq4 hql4 H'; have HS4 := (H'.pick 1 rfl).drop; have HL4 := (HS4.lit [UInt8.ofNat kk] #[.int .u8 (kk : Int)] 5 rfl (u8_lit kk hk3) (by simp)).pick 1 rfl; clear H' HS3 HS4) | (refine wp_app2 (α := UInt8) rfl _ _ 39 rfl (by kernel_rfl) _ _ HL4 rfl _ _ rfl (HL4.rd 1 rfl) (by show (_ + 1) * 1 ≤ _; omega) (by show _ + 1 ≤ _; omega) ?_; intro v5 q5 w5 hq5 hql5 H'; have HS5 := (H'.pick 1 rfl).drop; clear H' HL4; obtain ⟨A5, c5, rfl, _, _⟩ := (HS5.rd 0 rfl).val))
            have hq5l : q5.length ≤ out.length + 800061 := by simp only [List.length_cons, List.length_nil] at hql5; omega
            clear hql4 hql5 hkb
            refine (putInt2 q5 g.length _ _ HS5 (by omega) (by omega)).mono ?_
            rintro e6 w6 ⟨A6, c6, q6, rfl, hq6, hql6, HS6⟩
            have HQ6 := Lib.hid (show q6 = q ++ ((txt nm ++ [UInt8.ofNat kk]) ++ uv g.length) by rw [hq6.out, hq5.out, hq4.out]; simp only [List.append_assoc])
            have hq6l : q6.length ≤ out.length + 800100 := by omega
            clear hq4 hq5 hq6 hql6 hq5l HS5
            go_wp2
            go_loopw [0, 117] (fun o i wr => ∃ (m : Nat) (q7 : List UInt8) (A : Option Addr) (c : Nat), m ≤ g.length ∧ i = .int .i64 m ∧ o = .slice A q7.length c ∧ q7.length ≤ out.length + 800100 + 230 * m ∧ Hid (q7 = q6 ++ lfsB kk ((g.take m).map (·.l))) ∧ Own W (.own (.slice A q7.length c) q7 :: R2) wr) (fun _ i _ => g.length - (intOf i).toNat)
            case atStart => exact ⟨0, q6, A6, c6, by omega, rfl, rfl, by omega, Lib.hid (by simp [lfsB]), HS6⟩
            case round =>
              obtain ⟨m, q7, A7, c7, hm, rfl, rfl, hq7l, HQ7, HS⟩ := hrel
              clear HS6
              by_cases hml : m < g.length
              · have hcy := Pf.cells (HR.out [.own (.slice A7 q7.length c7) q7] wr HS).1 m hml
                have hay := (HR.out [.own (.slice A7 q7.length c7) q7] wr HS).2 _ (List.getElem_mem hml)
                have hyG := HGM.out _ (List.getElem_mem hml)
                have htk : (g.take (m + 1)).map (fun z : Pf => z.l) = (g.take m).map (fun z : Pf => z.l) ++ [g[m].l] := by rw [List.take_succ_eq_append_getElem hml, List.map_append]; rfl
                obtain ⟨y, hy⟩ : ∃ y, g[m] = y := ⟨_, rfl⟩
                rw [hy] at hcy hay hyG htk
                clear hy
                obtain ⟨⟨Ay, ny, cy⟩, ⟨yp, yf, yr, ys, yv⟩⟩ := y
                simp only [Sv.v, Pf.at_] at hcy hay hyG htk
                obtain rfl : ny = yp.length := hay.len
                have HTK := Lib.hid htk
                have hlb := lfB_len kk hyG
                have hyv : yv.size ≤ 200 := hyG.2.2.2.1
                have htl2 := txt_len yv 200 hyv (by omega)
                obtain ⟨n1, e1⟩ : ∃ n : Nat, yr = n := ⟨yr.toNat, by have h : 0 ≤ yr ∧ yr ≤ 8 := hyG.2.2.2.2.1; omega⟩
                obtain ⟨n2, e2⟩ : ∃ n : Nat, ys = n := ⟨ys.toNat, by have h : 0 ≤ ys ∧ ys ≤ 1000000000 := hyG.2.2.2.2.2; omega⟩
                have hn1 : n1 ≤ 8 := by have h : 0 ≤ yr ∧ yr ≤ 8 := hyG.2.2.2.2.1; omega
                have hn2 : n2 ≤ 1000000000 := by have h : 0 ≤ ys ∧ ys ≤ 1000000000 := hyG.2.2.2.2.2; omega
                have HLB := Lib.hid (show lfB kk ⟨yp, yf, yr, ys, yv⟩ = uv n1 ++ (uv n2 ++ (if kk = 1 then txt yv else [])) by unfold lfB; rw [e1, e2]; rfl)
                subst e1 e2
                have hu1 := uv_len10 n1 (by omega)
                have hu2 := uv_len10 n2 (by omega)
                have HFIN : Hid (∀ q' : List UInt8, q' = q7 ++ lfB kk ⟨yp, yf, n1, n2, yv⟩ → q'.length ≤ out.length + 800100 + 230 * (m + 1) ∧ q' = q6 ++ lfsB kk ((g.take (m + 1)).map (·.l))) := Lib.hid fun q' hq => by
                  refine ⟨by rw [hq, List.length_append]; omega, ?_⟩
                  rw [hq, HTK.out, lfsB_snoc, HQ7.out, List.append_assoc]
                clear htk hay hlb hyG
                have HB := (HS.box (b := wr.heap.size) [.slice Ay yp.length cy, .bool yf, .int .i64 (n1 : Int), .int .i64 (n2 : Int), .string yv] 103).pick 1 rfl
                simp only [List.eraseIdx_cons_succ, List.eraseIdx_cons_zero] at HB
                clear HS
                have HS := HB
                clear HB
                have F := ((HS.pick 1 rfl).only).facts
                simp only [Own.Facts, Own.Cells, Nat.zero_add, and_true] at F
                have hmn : (0 : Int) ≤ (m : Int) := by omega
                by_cases hk1 : kk = 1
                · have hkc : ((kk : Int) == 1) = true := by simp [hk1]
                  have HLB := Lib.hid (show lfB kk ⟨yp, yf, n1, n2, yv⟩ = uv n1 ++ (uv n2 ++ txt yv) by rw [HLB.out, if_pos hk1])
                  clear hk1
                  go_wp2
                  go_region_held3 (fun w' => w'.cell? ⟨wr.heap.size, 2, none⟩ = some (.int .i64 (n1 : Int)) ∧ w'.cell? ⟨wr.heap.size, 3, none⟩ = some (.int .i64 (n2 : Int))) (first | go_keep) (first | (go_at_call 138; refine (putInt2 _ _ _ _ (by first | exact HS | exact HS.drew) (by omega) (by omega)).mono ?_; rintro e w1 ⟨A9, c9, q9, rfl, hq9, hql9, H9⟩; clear HS F; have HS := H9; clear H9; have F := ((HS.pick 1 rfl).only).facts; simp only [Own.Facts, Own.Cells, Nat.zero_add, and_true] at F))
                  obtain ⟨q8, hq8, hq7⟩ : ∃ q, Hid (q = q7 ++ uv n1) ∧ Hid (q9 = q ++ uv n2) := ⟨_, by assumption, hq9⟩
                  have hq9l : q9.length ≤ out.length + 800100 + 230 * m + 20 := by omega
                  clear hq9
                  go_wp2_with fail
                  refine (implTextQ yv _ (by omega)).mono ?_
                  rintro e3 w10 ⟨A10, c10, rfl, hs10⟩
                  have H10 := (HS.call hs10).pick 1 rfl
                  clear HS F hs10
                  go_wp2_with (refine wp_app2 (α := UInt8) rfl _ _ 39 rfl (by kernel_rfl) _ _ H10 rfl _ _ rfl (H10.rd 1 rfl) (by show (_ + _) * 1 ≤ _; omega) (by omega) ?_; intro v11 q11 w11 hq11 hql11 H'; have H11 := ((H'.pick 1 rfl).drop.pick 1 rfl).drop; clear H' H10; obtain ⟨A11, c11, rfl, _, _⟩ := (H11.rd 0 rfl).val)
                  obtain ⟨hF1, hF2⟩ := HFIN.out q11 (by rw [hq11.out, hq7.out, hq8.out, HLB.out]; simp only [List.append_assoc])
                  have HF2 := Lib.hid hF2
                  clear hF2
                  go_roundw
                  case rel => exact ⟨m + 1, q11, A11, c11, by omega, by go_num, rfl, hF1, HF2, H11⟩
                  case measure => simp [intOf]; omega
                · have hkc : ((kk : Int) == 1) = false := by simp; omega
                  have HLB := Lib.hid (show lfB kk ⟨yp, yf, n1, n2, yv⟩ = uv n1 ++ (uv n2 ++ []) by rw [HLB.out, if_neg hk1])
                  clear hk1
                  go_wp2
                  go_region_held3 (fun w' => w'.cell? ⟨wr.heap.size, 2, none⟩ = some (.int .i64 (n1 : Int)) ∧ w'.cell? ⟨wr.heap.size, 3, none⟩ = some (.int .i64 (n2 : Int))) (first | go_keep) (first | (go_at_call 138; refine (putInt2 _ _ _ _ (by first | exact HS | exact HS.drew) (by omega) (by omega)).mono ?_; rintro e w1 ⟨A9, c9, q9, rfl, hq9, hql9, H9⟩; clear HS F; have HS := H9; clear H9; have F := ((HS.pick 1 rfl).only).facts; simp only [Own.Facts, Own.Cells, Nat.zero_add, and_true] at F))
                  obtain ⟨q8, hq8, hq7⟩ : ∃ q, Hid (q = q7 ++ uv n1) ∧ Hid (q9 = q ++ uv n2) := ⟨_, by assumption, hq9⟩
                  have hq9l : q9.length ≤ out.length + 800100 + 230 * m + 20 := by omega
                  clear hq9
                  have H11 := (HS.pick 1 rfl).drop
                  obtain ⟨hF1, hF2⟩ := HFIN.out q9 (by rw [hq7.out, hq8.out, HLB.out]; simp only [List.append_assoc, List.append_nil])
                  have HF2 := Lib.hid hF2
                  clear hF2
                  go_wp2
                  go_roundw
                  case rel => exact ⟨m + 1, q9, A9, c9, by omega, by go_num, rfl, hF1, HF2, H11⟩
                  case measure => simp [intOf]; omega
              · have hq : q7 = q ++ gZ (treeB f (d + 1)) d g := by
                  obtain rfl : m = g.length := by omega
                  rw [HQ7.out, HQ6.out, HGB2.out, List.take_length]; simp only [List.append_assoc]
                have hq7l : q7.length ≤ out.length + 800010 := by rw [hq]; exact hql2
                have HF := Lib.hid (show q7 ++ ((gs.drop (j + 1)).map (gZ (treeB f (d + 1)) d)).flatten = out ++ (uv ns ++ BB) by rw [hq]; exact HQ2.out)
                clear hq
                go_wp2
                go_roundw
                case rel => exact ⟨j + 1, q7, A7, c7, by omega, by go_num, rfl, hq7l, HF, HS⟩
                case measure => simp [intOf]; omega
        · have HF := Lib.hid (show q = out ++ treeB (f + 1) d (zs.map (·.l)) by
            have := HQ.out
            rw [show gs.drop j = [] from List.drop_eq_nil_of_le (by have := HLS.out; omega)] at this
            rw [HTB.out, ← this]; simp)
          go_wp2
          go_ret
          exact ⟨A2, c2, q, rfl, HF, HBK.out _ _ _ HS⟩
end Go.Proofs.YtohgelmkagcimaaGreat
namespace Go.Proofs.YtohgelmkagcimaaGreat
set_option linter.unusedSimpArgs false
set_option linter.unusedVariables false
open Go.RowKit Go.Ow
attribute [local irreducible] wpQuiet
set_option maxRecDepth 100000
theorem writeMap (f : Nat) : ∀ (d : Nat), f + d = 7 → ∀ (W : World) (R : List Ds) (out : List UInt8) (vo : Value) (zs : List Pf) (A : Option Addr) (c : Nat) (w : World), Own W (.own vo out :: R) w → (∀ (X : List Ds) (w' : World), Own W (X ++ R) w' → Rd w' (.slice A zs.length c) zs ∧ ∀ z ∈ zs, Pf.at_ w' z) → (∀ z ∈ zs, LfG d z.l) → zs.length ≤ 1000 → out.length + 1000000 * (f + 1) ≤ 1000000000 →
    Calls Tryz.prog 97 #[vo, .slice A zs.length c, .int .i64 d] w fun e w' => ∃ A c q, e = .returned (.slice A q.length c) ∧ Hid (q = out ++ treeB (f + 1) d (zs.map (·.l))) ∧ Own W (.own (.slice A q.length c) q :: R) w' := by
  induction f with
  | zero =>
    intro d hd W R out vo zs A c w hs hv hg hn ho
    refine writeMapStep 0 d (by omega) (by omega) (fun W R out vo gs A c w _ _ h0 hg' _ _ => ?_) out vo zs A c w hs hv hg hn ho
    obtain ⟨x, t, rfl⟩ := List.exists_cons_of_length_pos h0
    have := hg' x (by simp)
    have h1 := this.1
    have h2 := this.2.1
    omega
  | succ f ih =>
    intro d hd W R out vo zs A c w hs hv hg hn ho
    exact writeMapStep (f + 1) d (by omega) (by omega) (fun W R out vo gs A c w hs hv _ hg' hn' ho' => ih (d + 1) (by omega) W R out vo gs A c w hs hv hg' hn' ho') out vo zs A c w hs hv hg hn ho
end Go.Proofs.YtohgelmkagcimaaGreat
