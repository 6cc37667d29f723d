/- A change of a live state: leaves taken back. -/
import Derived.Test.YtkafflbakgkpcaaGreatKa
import Derived.Test.YtkafflbakgkpcaaGreatKb
import Derived.Test.YtkafflbakgkpcaaGreatKc
import Derived.Test.YtkafflbakgkpcaaGreatLk
import Derived.Test.YtkafflbakgkpcaaGreatLw
/-FL-/
namespace Go.Proofs.YtkafflbakgkpcaaGreat
set_option linter.unusedSimpArgs false
set_option linter.unusedVariables false
open Go.RowKit Go.Ow Go.MapKept
attribute [local irreducible] wpQuiet
set_option maxRecDepth 100000
def chR (s : St) (gone : Lf → Bool) (put : List Lf) : St × St × Int := if chOk s gone put = true then (chN s gone put, chD s gone put, 0) else (⟨[], []⟩, ⟨[], []⟩, 4)
theorem fits2_is (x : St) : fits2 x = fitsB x.l x.c := rfl
theorem loop_takeP {q : Lf → Bool} {ys left left' T : List Pf} {z : Pf} (h : (ys ++ left.filter fun z => q z.l).Perm T) (hp : left.Perm (z :: left')) (hz : q z.l = true) : ((ys ++ [z]) ++ left'.filter fun z => q z.l).Perm T := by
  refine List.Perm.trans ?_ h
  rw [List.append_assoc]
  refine List.Perm.append_left _ ?_
  have := (hp.filter (fun z => q z.l)).symm
  rw [List.filter_cons_of_pos (p := fun z : Pf => q z.l) hz] at this
  exact this
theorem own_ne {W w : World} {R : List Ds} {b c t t2 : Nat} {cs ds : List Value} (h : Own W (.box b t cs :: .box c t2 ds :: R) w) : b ≠ c := by
  obtain ⟨_, fp, ⟨f, g, rfl, ⟨rfl, _⟩, f2, g2, rfl, ⟨rfl, _⟩, _⟩, hn, _⟩ := h
  intro e
  subst e
  simp at hn
set_option maxHeartbeats 32000000 in
theorem changeR (s : St) (gone : Lf → Bool) (bp : Nat) (vl vc : Value) (w : World) (h1 : Rd w vl s.l) (h2 : Rd w vc s.c) (hs : stOk s = true)
    (hG : ∀ (w' : World), Below w.heap.size w w' → ∀ (x : Lf) (vp : Value), Rd w' vp x.p → Calls Tryz.prog 32 #[.agg #[vp, .bool x.fl, .int .i64 x.dr, .int .i64 x.ds, .string x.v], .pointer (some ⟨bp, 0, none⟩)] w' fun e w'' => e = .returned (.bool (gone x)) ∧ Below w'.heap.size w' w'') :
    Calls Tryz.prog 31 #[.agg #[vl, vc], .func (.func 32) #[] #[.pointer (some ⟨bp, 0, none⟩)], .pointer none] w fun e w' => ∃ A c A2 c2 A3 c3 A4 c4, e = .returned (.tuple #[.agg #[.slice A (chR s gone []).1.l.length c, .slice A2 (chR s gone []).1.c.length c2], .agg #[.slice A3 (chR s gone []).2.1.l.length c3, .slice A4 (chR s gone []).2.1.c.length c4], .int .i64 (chR s gone []).2.2]) ∧
      Own w [.own (.slice A (chR s gone []).1.l.length c) (chR s gone []).1.l, .own (.slice A2 (chR s gone []).1.c.length c2) (chR s gone []).1.c, .own (.slice A3 (chR s gone []).2.1.l.length c3) (chR s gone []).2.1.l, .own (.slice A4 (chR s gone []).2.1.c.length c4) (chR s gone []).2.1.c] w' := by
  obtain ⟨zs, hz, hat, hpf⟩ := rd_pf h1
  obtain ⟨A1, c1, rfl, _, _⟩ := h1.val
  obtain ⟨A2, c2, rfl, _, _⟩ := h2.val
  have hl : s.l.length = zs.length := by rw [← hz]; simp
  have hn : zs.length ≤ 1000 := by rw [← hl]; exact stOk_len' hs
  have hca : s.c.length ≤ 1048576 := (stOk_lens hs).2
  have HG := Lib.hid hG
  have HOK := Lib.hid hs
  have HND := Lib.hid (show (zs.map dotP).Nodup by rw [← dots_lf, hz]; exact stOk_nodup hs)
  have HZ := Lib.hid hz
  have HAT := Lib.hid hat
  have HDI := Lib.hid (show ∀ z ∈ zs, dotIn z.l from fun z hz => okLeaf_dot (stOk_ctx' HOK.out) (stOk_leaf HOK.out z.l (by rw [← HZ.out]; exact List.mem_map.2 ⟨z, hz, rfl⟩)))
  have HPL := Lib.hid (show ∀ z ∈ zs, z.l.p.length ≤ 1048576 from fun z hz => stOk_paths HOK.out z.l (by rw [← HZ.out]; exact List.mem_map.2 ⟨z, hz, rfl⟩))
  rw [hl] at hpf
  obtain ⟨N, hN⟩ : ∃ N, chN s gone [] = N := ⟨_, rfl⟩
  obtain ⟨D0, hD0⟩ : ∃ D, chD s gone [] = D := ⟨_, rfl⟩
  have HCH := Lib.hid (And.intro hN hD0)
  have HR := Lib.hid (show chR s gone [] = if (fits2 N && fits2 D0) = true then (N, D0, 0) else (⟨[], []⟩, ⟨[], []⟩, 4) by unfold chR chOk; rw [hN, hD0])
  rw [hl]
  clear hG hs hz hat hl h1 hN hD0
  have HS := (((Own.start w).box [.slice A1 zs.length c1, .slice A2 s.c.length c2] 36).box (b := w.heap.size + 1) [.slice none 0 0, .slice none 0 0] 36).box (b := w.heap.size + 1 + 1) [.slice none 0 0, .slice none 0 0] 36
  go_enter Tryz.func31, Tryz.ntmps31
  go_wp2_with fail
  refine (implTreeOf s.l s.c zs _ _ _ (HS.old hpf) (HS.old h2) (by omega) hca HND.out).mono ?_
  rintro e w1 ⟨ct, bt, rfl, hs1⟩
  obtain ⟨bT, hbT⟩ : ∃ n, w1.heap.size = n := ⟨_, rfl⟩
  replace HS := HS.call hs1
  simp only [List.cons_append, List.nil_append] at HS
  replace HS := HS.box (b := bT) [.map (some bt), .map (some ct)] 98 hbT
  clear hs1
  have F := HS.facts
  simp only [List.eraseIdx_cons_succ, List.eraseIdx_cons_zero, List.cons_append, List.nil_append, Own.Facts, Own.Cells, Nat.zero_add, and_true, Ds.lm, Ds.lmf, Ds.iter, Ds.map, Ds.mapf] at F
  go_wp2_with (first | (refine wp_mklm rfl 96 (by rfl) HS ?_; clear HS F; intro w2 HS; simp only [World.size_alloc, hbT] at HS) | (refine wp_mkmap Sp rfl 87 (by rfl) HS ?_; intro w3 HS3; have HSD := HS3.box (b := w3.heap.size) [.map (some (bT + 1)), .map (some w2.heap.size)] 98; have F := HSD.facts; simp only [List.eraseIdx_cons_succ, List.eraseIdx_cons_zero, List.cons_append, List.nil_append, Own.Facts, Own.Cells, Nat.zero_add, and_true, Ds.lm, Ds.lmf, Ds.iter, Ds.map, Ds.mapf] at F))
  obtain ⟨cd, hcd⟩ : ∃ n, w2.heap.size = n := ⟨_, rfl⟩
  obtain ⟨bD, hbD⟩ : ∃ n, w3.heap.size = n := ⟨_, rfl⟩
  obtain ⟨bd, hbd⟩ : ∃ n, bT + 1 = n := ⟨_, rfl⟩
  rw [hcd, hbD, hbd] at HSD
  try simp only [hcd, hbD, hbd]
  clear HS HS3 hcd hbD hbd hbT F
  (first | replace HSD : Own _ (.lm bt zs :: _) _ := HSD.pick 0 rfl | replace HSD : Own _ (.lm bt zs :: _) _ := HSD.pick 1 rfl | replace HSD : Own _ (.lm bt zs :: _) _ := HSD.pick 2 rfl | replace HSD : Own _ (.lm bt zs :: _) _ := HSD.pick 3 rfl | replace HSD : Own _ (.lm bt zs :: _) _ := HSD.pick 4 rfl | replace HSD : Own _ (.lm bt zs :: _) _ := HSD.pick 5 rfl | replace HSD : Own _ (.lm bt zs :: _) _ := HSD.pick 6 rfl | replace HSD : Own _ (.lm bt zs :: _) _ := HSD.pick 7 rfl | replace HSD : Own _ (.lm bt zs :: _) _ := HSD.pick 8 rfl | replace HSD : Own _ (.lm bt zs :: _) _ := HSD.pick 9 rfl)
  try simp only [List.eraseIdx_cons_succ, List.eraseIdx_cons_zero, List.cons_append, List.nil_append] at HSD
  refine (cloneMap bt zs _ HSD).mono ?_
  rintro e w4 ⟨bC, em, ck, rfl, H4⟩
  obtain ⟨bI, hbI⟩ : ∃ n, w4.heap.size = n := ⟨_, rfl⟩
  have HE0 := Lib.hid (ents_start H4)
  go_wp2_with (refine wp_rangeL rfl _ rfl Tryz.underlying96 H4 rfl ?_; intro w5 HI)
  rw [hbI] at HI
  try simp only [hbI]
  clear hbI H4 HSD
  (first | replace HI : Own _ (.map none cd _ :: _) _ := HI.pick 0 rfl | replace HI : Own _ (.map none cd _ :: _) _ := HI.pick 1 rfl | replace HI : Own _ (.map none cd _ :: _) _ := HI.pick 2 rfl | replace HI : Own _ (.map none cd _ :: _) _ := HI.pick 3 rfl | replace HI : Own _ (.map none cd _ :: _) _ := HI.pick 4 rfl | replace HI : Own _ (.map none cd _ :: _) _ := HI.pick 5 rfl | replace HI : Own _ (.map none cd _ :: _) _ := HI.pick 6 rfl | replace HI : Own _ (.map none cd _ :: _) _ := HI.pick 7 rfl | replace HI : Own _ (.map none cd _ :: _) _ := HI.pick 8 rfl | replace HI : Own _ (.map none cd _ :: _) _ := HI.pick 9 rfl | replace HI : Own _ (.map none cd _ :: _) _ := HI.pick 10 rfl | replace HI : Own _ (.map none cd _ :: _) _ := HI.pick 11 rfl | replace HI : Own _ (.map none cd _ :: _) _ := HI.pick 12 rfl | replace HI : Own _ (.map none cd _ :: _) _ := HI.pick 13 rfl)
  (first | replace HI : Own _ (.lm bt _ :: _) _ := HI.pick 0 rfl | replace HI : Own _ (.lm bt _ :: _) _ := HI.pick 1 rfl | replace HI : Own _ (.lm bt _ :: _) _ := HI.pick 2 rfl | replace HI : Own _ (.lm bt _ :: _) _ := HI.pick 3 rfl | replace HI : Own _ (.lm bt _ :: _) _ := HI.pick 4 rfl | replace HI : Own _ (.lm bt _ :: _) _ := HI.pick 5 rfl | replace HI : Own _ (.lm bt _ :: _) _ := HI.pick 6 rfl | replace HI : Own _ (.lm bt _ :: _) _ := HI.pick 7 rfl | replace HI : Own _ (.lm bt _ :: _) _ := HI.pick 8 rfl | replace HI : Own _ (.lm bt _ :: _) _ := HI.pick 9 rfl | replace HI : Own _ (.lm bt _ :: _) _ := HI.pick 10 rfl | replace HI : Own _ (.lm bt _ :: _) _ := HI.pick 11 rfl | replace HI : Own _ (.lm bt _ :: _) _ := HI.pick 12 rfl | replace HI : Own _ (.lm bt _ :: _) _ := HI.pick 13 rfl)
  (first | replace HI : Own _ (.lmf _ _ _ _ :: _) _ := HI.pick 0 rfl | replace HI : Own _ (.lmf _ _ _ _ :: _) _ := HI.pick 1 rfl | replace HI : Own _ (.lmf _ _ _ _ :: _) _ := HI.pick 2 rfl | replace HI : Own _ (.lmf _ _ _ _ :: _) _ := HI.pick 3 rfl | replace HI : Own _ (.lmf _ _ _ _ :: _) _ := HI.pick 4 rfl | replace HI : Own _ (.lmf _ _ _ _ :: _) _ := HI.pick 5 rfl | replace HI : Own _ (.lmf _ _ _ _ :: _) _ := HI.pick 6 rfl | replace HI : Own _ (.lmf _ _ _ _ :: _) _ := HI.pick 7 rfl | replace HI : Own _ (.lmf _ _ _ _ :: _) _ := HI.pick 8 rfl | replace HI : Own _ (.lmf _ _ _ _ :: _) _ := HI.pick 9 rfl | replace HI : Own _ (.lmf _ _ _ _ :: _) _ := HI.pick 10 rfl | replace HI : Own _ (.lmf _ _ _ _ :: _) _ := HI.pick 11 rfl | replace HI : Own _ (.lmf _ _ _ _ :: _) _ := HI.pick 12 rfl | replace HI : Own _ (.lmf _ _ _ _ :: _) _ := HI.pick 13 rfl)
  (first | replace HI : Own _ (.iter _ _ _ _ :: _) _ := HI.pick 0 rfl | replace HI : Own _ (.iter _ _ _ _ :: _) _ := HI.pick 1 rfl | replace HI : Own _ (.iter _ _ _ _ :: _) _ := HI.pick 2 rfl | replace HI : Own _ (.iter _ _ _ _ :: _) _ := HI.pick 3 rfl | replace HI : Own _ (.iter _ _ _ _ :: _) _ := HI.pick 4 rfl | replace HI : Own _ (.iter _ _ _ _ :: _) _ := HI.pick 5 rfl | replace HI : Own _ (.iter _ _ _ _ :: _) _ := HI.pick 6 rfl | replace HI : Own _ (.iter _ _ _ _ :: _) _ := HI.pick 7 rfl | replace HI : Own _ (.iter _ _ _ _ :: _) _ := HI.pick 8 rfl | replace HI : Own _ (.iter _ _ _ _ :: _) _ := HI.pick 9 rfl | replace HI : Own _ (.iter _ _ _ _ :: _) _ := HI.pick 10 rfl | replace HI : Own _ (.iter _ _ _ _ :: _) _ := HI.pick 11 rfl | replace HI : Own _ (.iter _ _ _ _ :: _) _ := HI.pick 12 rfl | replace HI : Own _ (.iter _ _ _ _ :: _) _ := HI.pick 13 rfl)
  try simp only [List.eraseIdx_cons_succ, List.eraseIdx_cons_zero, List.cons_append, List.nil_append] at HI
  go_frame
  go_loopw [11] (fun _ wr => ∃ (seen : Array Nat) (left cur K D : List Pf) (g : List (Int × List Sp)), Hid (Ents (leftOf em seen).toList left) ∧ Hid (cur.Perm (left ++ K)) ∧ Hid ((K ++ left.filter fun z => !gone z.l).Perm (zs.filter fun z => !gone z.l)) ∧ Hid ((D ++ left.filter fun z => gone z.l).Perm (zs.filter fun z => gone z.l)) ∧ Hid (∀ z ∈ left, z ∈ zs) ∧ Hid (∀ k, Ns (mget g k) ∧ (∀ q, SpIn (mget g k) q ↔ ∃ z ∈ D, z.l.dr = k ∧ z.l.ds = q) ∧ (mget g k).length ≤ D.length) ∧ Own w (.iter bI bC ck seen :: .lmf em ck bC zs :: .lm bt cur :: .map none cd g :: .box bD 98 [.map (some bd), .map (some cd)] :: .lm bd [] :: .box bT 98 [.map (some bt), .map (some ct)] :: .map none ct (cloud [] s.c) :: .box (w.heap.size + 1 + 1) 36 [.slice none 0 0, .slice none 0 0] :: .box (w.heap.size + 1) 36 [.slice none 0 0, .slice none 0 0] :: [.box w.heap.size 36 [.slice A1 zs.length c1, .slice A2 s.c.length c2]]) wr) (fun _ wr => rleft em bI wr)
  case atStart => exact ⟨#[], zs, zs, [], [], [], HE0, Lib.hid (by simp), Lib.hid (by simp), Lib.hid (by simp), Lib.hid (fun z h => h), Lib.hid (fun k => ⟨by simp [mget, ns_nil], fun q => by simp [mget, SpIn], by simp [mget]⟩), HI⟩
  case round =>
    obtain ⟨seen, left, cur, K, D, g, HEN, HCU, HKE, HDE, HSB, HGG, HS⟩ := hrel
    clear HI
    go_wp2_with (refine wp_nextL rfl _ rfl HS rfl HEN.out ?_ ?_)
    · intro hd
      obtain rfl : left = [] := hd
      have HKE := Lib.hid (show K.Perm (zs.filter fun z => !gone z.l) by simpa using HKE.out)
      have HDE := Lib.hid (show D.Perm (zs.filter fun z => gone z.l) by simpa using HDE.out)
      have HCU := Lib.hid (show cur.Perm (zs.filter fun z => !gone z.l) from (show cur.Perm K by simpa using HCU.out).trans HKE.out)
      replace HS := HS.drop.drop
      have HGT := Lib.hid (show ∀ k, Ns (mget (cloud [] s.c) k) ∧ (∀ q, SpIn (mget (cloud [] s.c) k) q ↔ SpIn (spansOf s.c k) q ∨ ∃ x ∈ ([] : List Lf), x.dr = k ∧ x.ds = q) from fun k => ⟨(cloudNs (stOk_ctx' HOK.out) k).1, fun q => by rw [mget_cloud0]; simp⟩)
      have HGD := Lib.hid (show ∀ k, Ns (mget g k) ∧ (∀ q, SpIn (mget g k) q ↔ ∃ x ∈ D.map (·.l), x.dr = k ∧ x.ds = q) from fun k => ⟨(HGG.out k).1, fun q => by rw [(HGG.out k).2.1]; exact ⟨fun ⟨z, h1, h2⟩ => ⟨z.l, List.mem_map.2 ⟨z, h1, rfl⟩, h2⟩, fun ⟨x, hx, h2⟩ => let ⟨z, h1, e⟩ := List.mem_map.1 hx; ⟨z, h1, e ▸ h2⟩⟩⟩)
      have HLN := Lib.hid (show ∀ L : List Lf, L.Perm (cur.map (·.l)) → (∀ i j (_ : i < j) (hj : j < L.length), before L[j] (L[i]'(by omega)) = false) → L = N.l from fun L h1 h2 => by
        rw [← HCH.out.1]
        exact chN_is HOK.out gone (by simp) (by simp) (h1.trans (by rw [List.append_nil, ← HZ.out, ← filter_lf (fun x => !gone x)]; exact HCU.out.map _)) h2)
      have HLD := Lib.hid (show ∀ L : List Lf, L.Perm (([] : List Pf).map (·.l)) → L = D0.l from fun L h1 => by
        rw [← HCH.out.2]
        exact chD_is (put := []) (by simp) h1 s gone)
      have HRN := Lib.hid (show runsN (cloud [] s.c) 8 0 = N.c by
        rw [← HCH.out.1]
        exact chN_ctx HOK.out gone (put := []) (by simp) (fun k => (HGT.out k).1) (fun k q => (HGT.out k).2 q))
      have HRD := Lib.hid (show runsN g 8 0 = D0.c by
        rw [← HCH.out.2]
        exact chD_ctx HOK.out gone (put := []) (by simp) (D := D.map (·.l)) (by rw [List.append_nil, ← HZ.out, ← filter_lf gone]; exact HDE.out.map _) (fun k => (HGD.out k).1) (fun k q => (HGD.out k).2 q))
      have HLE := Lib.hid (show N.c.length ≤ 4194304 ∧ D0.c.length ≤ 4194304 by
        have := ch_len HOK.out gone (put := []) (by simp)
        rw [HCH.out.1, HCH.out.2] at this; omega)
      have hcl : cur.length ≤ 1000 := by
        have e := HCU.out.length_eq
        have e1 := List.length_filter_le (fun z : Pf => !gone z.l) zs
        omega
      have HCM := Lib.hid (show ∀ z ∈ cur, z ∈ zs from fun z hz => (List.mem_filter.1 (HCU.out.mem_iff.1 hz)).1)
      (first | replace HS : Own _ (.map none ct _ :: _) _ := HS.pick 0 rfl | replace HS : Own _ (.map none ct _ :: _) _ := HS.pick 1 rfl | replace HS : Own _ (.map none ct _ :: _) _ := HS.pick 2 rfl | replace HS : Own _ (.map none ct _ :: _) _ := HS.pick 3 rfl | replace HS : Own _ (.map none ct _ :: _) _ := HS.pick 4 rfl | replace HS : Own _ (.map none ct _ :: _) _ := HS.pick 5 rfl | replace HS : Own _ (.map none ct _ :: _) _ := HS.pick 6 rfl | replace HS : Own _ (.map none ct _ :: _) _ := HS.pick 7 rfl | replace HS : Own _ (.map none ct _ :: _) _ := HS.pick 8 rfl | replace HS : Own _ (.map none ct _ :: _) _ := HS.pick 9 rfl | replace HS : Own _ (.map none ct _ :: _) _ := HS.pick 10 rfl | replace HS : Own _ (.map none ct _ :: _) _ := HS.pick 11 rfl)
      obtain ⟨es1, ck1, HS1⟩ := HS.keep
      (first | replace HS1 : Own _ (.map none cd _ :: _) _ := HS1.pick 0 rfl | replace HS1 : Own _ (.map none cd _ :: _) _ := HS1.pick 1 rfl | replace HS1 : Own _ (.map none cd _ :: _) _ := HS1.pick 2 rfl | replace HS1 : Own _ (.map none cd _ :: _) _ := HS1.pick 3 rfl | replace HS1 : Own _ (.map none cd _ :: _) _ := HS1.pick 4 rfl | replace HS1 : Own _ (.map none cd _ :: _) _ := HS1.pick 5 rfl | replace HS1 : Own _ (.map none cd _ :: _) _ := HS1.pick 6 rfl | replace HS1 : Own _ (.map none cd _ :: _) _ := HS1.pick 7 rfl | replace HS1 : Own _ (.map none cd _ :: _) _ := HS1.pick 8 rfl | replace HS1 : Own _ (.map none cd _ :: _) _ := HS1.pick 9 rfl | replace HS1 : Own _ (.map none cd _ :: _) _ := HS1.pick 10 rfl | replace HS1 : Own _ (.map none cd _ :: _) _ := HS1.pick 11 rfl)
      obtain ⟨es2, ck2, HS2⟩ := HS1.keep
      have HS := HS2
      clear HS1 HS2
      (first | replace HS : Own _ (.lm bd _ :: _) _ := HS.pick 0 rfl | replace HS : Own _ (.lm bd _ :: _) _ := HS.pick 1 rfl | replace HS : Own _ (.lm bd _ :: _) _ := HS.pick 2 rfl | replace HS : Own _ (.lm bd _ :: _) _ := HS.pick 3 rfl | replace HS : Own _ (.lm bd _ :: _) _ := HS.pick 4 rfl | replace HS : Own _ (.lm bd _ :: _) _ := HS.pick 5 rfl | replace HS : Own _ (.lm bd _ :: _) _ := HS.pick 6 rfl | replace HS : Own _ (.lm bd _ :: _) _ := HS.pick 7 rfl | replace HS : Own _ (.lm bd _ :: _) _ := HS.pick 8 rfl | replace HS : Own _ (.lm bd _ :: _) _ := HS.pick 9 rfl | replace HS : Own _ (.lm bd _ :: _) _ := HS.pick 10 rfl | replace HS : Own _ (.lm bd _ :: _) _ := HS.pick 11 rfl)
      (first | replace HS : Own _ (.mapf _ _ ct _ :: _) _ := HS.pick 0 rfl | replace HS : Own _ (.mapf _ _ ct _ :: _) _ := HS.pick 1 rfl | replace HS : Own _ (.mapf _ _ ct _ :: _) _ := HS.pick 2 rfl | replace HS : Own _ (.mapf _ _ ct _ :: _) _ := HS.pick 3 rfl | replace HS : Own _ (.mapf _ _ ct _ :: _) _ := HS.pick 4 rfl | replace HS : Own _ (.mapf _ _ ct _ :: _) _ := HS.pick 5 rfl | replace HS : Own _ (.mapf _ _ ct _ :: _) _ := HS.pick 6 rfl | replace HS : Own _ (.mapf _ _ ct _ :: _) _ := HS.pick 7 rfl | replace HS : Own _ (.mapf _ _ ct _ :: _) _ := HS.pick 8 rfl | replace HS : Own _ (.mapf _ _ ct _ :: _) _ := HS.pick 9 rfl | replace HS : Own _ (.mapf _ _ ct _ :: _) _ := HS.pick 10 rfl | replace HS : Own _ (.mapf _ _ ct _ :: _) _ := HS.pick 11 rfl)
      (first | replace HS : Own _ (.lm bt _ :: _) _ := HS.pick 0 rfl | replace HS : Own _ (.lm bt _ :: _) _ := HS.pick 1 rfl | replace HS : Own _ (.lm bt _ :: _) _ := HS.pick 2 rfl | replace HS : Own _ (.lm bt _ :: _) _ := HS.pick 3 rfl | replace HS : Own _ (.lm bt _ :: _) _ := HS.pick 4 rfl | replace HS : Own _ (.lm bt _ :: _) _ := HS.pick 5 rfl | replace HS : Own _ (.lm bt _ :: _) _ := HS.pick 6 rfl | replace HS : Own _ (.lm bt _ :: _) _ := HS.pick 7 rfl | replace HS : Own _ (.lm bt _ :: _) _ := HS.pick 8 rfl | replace HS : Own _ (.lm bt _ :: _) _ := HS.pick 9 rfl | replace HS : Own _ (.lm bt _ :: _) _ := HS.pick 10 rfl | replace HS : Own _ (.lm bt _ :: _) _ := HS.pick 11 rfl)
      try simp only [List.eraseIdx_cons_succ, List.eraseIdx_cons_zero, List.cons_append, List.nil_append] at HS
      have F := HS.facts
      simp only [List.eraseIdx_cons_succ, List.eraseIdx_cons_zero, List.cons_append, List.nil_append, Own.Facts, Own.Cells, Nat.zero_add, and_true, Ds.lm, Ds.lmf, Ds.iter, Ds.map, Ds.mapf] at F
      go_upto_region 16 with fail
      go_cut [15, 16] (fun s15 s16 wx => ∃ (bN bM : Nat) (P1 P2 P3 P4 : Option Addr) (p1 p2 p3 p4 : Nat), s15 = .pointer (some ⟨bN, 0, none⟩) ∧ s16 = .pointer (some ⟨bM, 0, none⟩) ∧ Own w [.box bN 36 [.slice P1 N.l.length p1, .slice P2 N.c.length p2], .box bM 36 [.slice P3 D0.l.length p3, .slice P4 D0.c.length p4], .own (.slice P1 N.l.length p1) N.l, .own (.slice P2 N.c.length p2) N.c, .own (.slice P3 D0.l.length p3) D0.l, .own (.slice P4 D0.c.length p4) D0.c, .box (w.heap.size + 1 + 1) 36 [.slice none 0 0, .slice none 0 0], .box (w.heap.size + 1) 36 [.slice none 0 0, .slice none 0 0], .box w.heap.size 36 [.slice A1 zs.length c1, .slice A2 s.c.length c2]] wx)
      case first =>
        have hn0 : (wr.heap.size ≠ bT ∧ wr.heap.size ≠ bD) ∧ wr.heap.size + 1 ≠ bT ∧ wr.heap.size + 1 ≠ bD := by omega
        go_region_held3 (fun w' => (w'.cell? ⟨bT, 0, none⟩ = some (.map (some bt)) ∧ w'.cell? ⟨bT, 1, none⟩ = some (.map (some ct))) ∧ w'.cell? ⟨bD, 0, none⟩ = some (.map (some bd)) ∧ w'.cell? ⟨bD, 1, none⟩ = some (.map (some cd))) (first | go_keep) (first | ((fail_if_success (have hh := Q1)); (go_at_call 65; (refine (treeState (cloud [] s.c) es1 ck1 ct bt cur _ (by first | exact ((HS.drew.pick 1 rfl).pick 1 rfl) | exact (((HS.box0 [_, _] _).drew.pick 2 rfl).pick 2 rfl) | exact ((((HS.box0 [_, _] _).box0 [_, _] _).drew.pick 3 rfl).pick 3 rfl)) (fun z hz => HAT.out z (HCM.out z hz)) (fun z hz => HDI.out z (HCM.out z hz)) (fun z hz => HPL.out z (HCM.out z hz)) (by omega) (by rw [HRN.out]; exact HLE.out.1)).mono ?_); rintro e w1 ⟨vl1, vc1, L1, rfl, hp1, hl1, H1⟩; rw [HRN.out] at H1; obtain rfl := HLN.out L1 hp1 hl1; clear hp1 hl1; obtain ⟨Q1, q1, rfl, _, _⟩ := (H1.rd 0 rfl).val; obtain ⟨Q2, q2, rfl, _, _⟩ := (H1.rd 1 rfl).val; clear HS F; have HS := H1; clear H1; simp only [List.eraseIdx_cons_succ, List.eraseIdx_cons_zero, List.cons_append, List.nil_append, World.size_alloc] at HS; have F := HS.facts; simp only [List.eraseIdx_cons_succ, List.eraseIdx_cons_zero, List.cons_append, List.nil_append, Own.Facts, Own.Cells, Nat.zero_add, and_true, Ds.lm, Ds.lmf, Ds.iter, Ds.map, Ds.mapf] at F; have hnA : (w1.heap.size ≠ bT ∧ w1.heap.size ≠ bD) ∧ w1.heap.size + 1 ≠ bT ∧ w1.heap.size + 1 ≠ bD := (by omega); try (have hnC : w1.heap.size ≠ wr.heap.size ∧ wr.heap.size ≠ w1.heap.size := (by omega)))) | ((have hh := Q1; clear hh); go_at_call 65; (refine (treeState g es2 ck2 cd bd [] _ (by first | exact ((HS.pick 5 rfl).pick 5 rfl) | exact (((HS.box0 [_, _] _).pick 6 rfl).pick 6 rfl) | exact ((HS.pick 6 rfl).pick 6 rfl) | exact ((((HS.box0 [_, _] _).box0 [_, _] _).pick 7 rfl).pick 7 rfl) | exact (((HS.box0 [_, _] _).pick 7 rfl).pick 7 rfl) | exact ((HS.pick 7 rfl).pick 7 rfl)) (by simp) (by simp) (by simp) (by simp) (by rw [HRD.out]; exact HLE.out.2)).mono ?_); rintro e w1 ⟨vl2, vc2, L2, rfl, hp2, hl2, H2⟩; rw [HRD.out] at H2; obtain rfl := HLD.out L2 hp2; clear hp2 hl2; obtain ⟨Q3, q3, rfl, _, _⟩ := (H2.rd 0 rfl).val; obtain ⟨Q4, q4, rfl, _, _⟩ := (H2.rd 1 rfl).val; clear HS F; have HS := H2; clear H2; simp only [List.eraseIdx_cons_succ, List.eraseIdx_cons_zero, List.cons_append, List.nil_append, World.size_alloc] at HS; have F := HS.facts; simp only [List.eraseIdx_cons_succ, List.eraseIdx_cons_zero, List.cons_append, List.nil_append, Own.Facts, Own.Cells, Nat.zero_add, and_true, Ds.lm, Ds.lmf, Ds.iter, Ds.map, Ds.mapf] at F; have hnB : (w1.heap.size ≠ bT ∧ w1.heap.size ≠ bD) ∧ w1.heap.size + 1 ≠ bT ∧ w1.heap.size + 1 ≠ bD := (by omega)))
        all_goals
          go_wp2_with fail
          go_meet
          refine ⟨_, _, Q1, Q2, Q3, Q4, q1, q2, q3, q4, rfl, rfl, ?_⟩
        · refine meetK ((HS.box0 [_, _] _).box0 [_, _] _) ?_
          intro HM
          try simp only [World.size_alloc, size_set, List.eraseIdx_cons_succ, List.eraseIdx_cons_zero, List.cons_append, List.nil_append, List.set_cons_zero, List.set_cons_succ] at HM
          replace HM := HM.pick 14 rfl
          replace HM := HM.pick 14 rfl
          replace HM := HM.pick 14 rfl
          replace HM := HM.pick 6 rfl
          replace HM := HM.pick 6 rfl
          replace HM := HM.pick 10 rfl
          replace HM := HM.pick 10 rfl
          replace HM := HM.pick 7 rfl
          replace HM := HM.pick 8 rfl
          try simp only [List.eraseIdx_cons_succ, List.eraseIdx_cons_zero] at HM
          exact own_take 9 HM
        · refine meetK ((HS.box0 [_, _] _).box0 [_, _] _) ?_
          intro HM
          try simp only [World.size_alloc, size_set, List.eraseIdx_cons_succ, List.eraseIdx_cons_zero, List.cons_append, List.nil_append, List.set_cons_zero, List.set_cons_succ] at HM
          replace HM := HM.pick 14 rfl
          replace HM := HM.pick 14 rfl
          replace HM := HM.pick 14 rfl
          replace HM := HM.pick 6 rfl
          replace HM := HM.pick 6 rfl
          replace HM := HM.pick 10 rfl
          replace HM := HM.pick 10 rfl
          replace HM := HM.pick 8 rfl
          replace HM := HM.pick 8 rfl
          try simp only [List.eraseIdx_cons_succ, List.eraseIdx_cons_zero] at HM
          exact own_take 9 HM
        · refine meetK ((((HS.pick 4 rfl).set 0 _).set 1 _).box0 [_, _] _) ?_
          intro HM
          try simp only [World.size_alloc, size_set, List.eraseIdx_cons_succ, List.eraseIdx_cons_zero, List.cons_append, List.nil_append, List.set_cons_zero, List.set_cons_succ] at HM
          replace HM := HM.pick 14 rfl
          replace HM := HM.pick 14 rfl
          replace HM := HM.pick 14 rfl
          replace HM := HM.pick 6 rfl
          replace HM := HM.pick 6 rfl
          replace HM := HM.pick 10 rfl
          replace HM := HM.pick 10 rfl
          replace HM := HM.pick 7 rfl
          replace HM := HM.pick 8 rfl
          try simp only [List.eraseIdx_cons_succ, List.eraseIdx_cons_zero] at HM
          exact own_take 9 HM
        · refine meetK ((((((HS.pick 5 rfl).set 0 _).set 1 _).pick 5 rfl).set 0 _).set 1 _) ?_
          intro HM
          try simp only [World.size_alloc, size_set, List.eraseIdx_cons_succ, List.eraseIdx_cons_zero, List.cons_append, List.nil_append, List.set_cons_zero, List.set_cons_succ] at HM
          replace HM := HM.pick 14 rfl
          replace HM := HM.pick 14 rfl
          replace HM := HM.pick 14 rfl
          replace HM := HM.pick 6 rfl
          replace HM := HM.pick 6 rfl
          replace HM := HM.pick 10 rfl
          replace HM := HM.pick 10 rfl
          replace HM := HM.pick 7 rfl
          replace HM := HM.pick 8 rfl
          try simp only [List.eraseIdx_cons_succ, List.eraseIdx_cons_zero] at HM
          exact own_take 9 HM
        · refine meetK ((((HS.pick 4 rfl).set 0 _).set 1 _).box0 [_, _] _) ?_
          intro HM
          try simp only [World.size_alloc, size_set, List.eraseIdx_cons_succ, List.eraseIdx_cons_zero, List.cons_append, List.nil_append, List.set_cons_zero, List.set_cons_succ] at HM
          replace HM := HM.pick 14 rfl
          replace HM := HM.pick 14 rfl
          replace HM := HM.pick 14 rfl
          replace HM := HM.pick 6 rfl
          replace HM := HM.pick 6 rfl
          replace HM := HM.pick 10 rfl
          replace HM := HM.pick 10 rfl
          replace HM := HM.pick 8 rfl
          replace HM := HM.pick 8 rfl
          try simp only [List.eraseIdx_cons_succ, List.eraseIdx_cons_zero] at HM
          exact own_take 9 HM
        · refine meetK ((((((HS.pick 4 rfl).set 0 _).set 1 _).pick 5 rfl).set 0 _).set 1 _) ?_
          intro HM
          try simp only [World.size_alloc, size_set, List.eraseIdx_cons_succ, List.eraseIdx_cons_zero, List.cons_append, List.nil_append, List.set_cons_zero, List.set_cons_succ] at HM
          replace HM := HM.pick 14 rfl
          replace HM := HM.pick 14 rfl
          replace HM := HM.pick 14 rfl
          replace HM := HM.pick 6 rfl
          replace HM := HM.pick 6 rfl
          replace HM := HM.pick 10 rfl
          replace HM := HM.pick 10 rfl
          replace HM := HM.pick 7 rfl
          replace HM := HM.pick 8 rfl
          try simp only [List.eraseIdx_cons_succ, List.eraseIdx_cons_zero] at HM
          exact own_take 9 HM
        · refine meetK ((((HS.pick 8 rfl).set 0 _).set 1 _).box0 [_, _] _) ?_
          intro HM
          try simp only [World.size_alloc, size_set, List.eraseIdx_cons_succ, List.eraseIdx_cons_zero, List.cons_append, List.nil_append, List.set_cons_zero, List.set_cons_succ] at HM
          replace HM := HM.pick 14 rfl
          replace HM := HM.pick 14 rfl
          replace HM := HM.pick 14 rfl
          replace HM := HM.pick 6 rfl
          replace HM := HM.pick 6 rfl
          replace HM := HM.pick 10 rfl
          replace HM := HM.pick 10 rfl
          replace HM := HM.pick 7 rfl
          replace HM := HM.pick 8 rfl
          try simp only [List.eraseIdx_cons_succ, List.eraseIdx_cons_zero] at HM
          exact own_take 9 HM
        · refine meetK ((((((HS.pick 9 rfl).set 0 _).set 1 _).pick 5 rfl).set 0 _).set 1 _) ?_
          intro HM
          try simp only [World.size_alloc, size_set, List.eraseIdx_cons_succ, List.eraseIdx_cons_zero, List.cons_append, List.nil_append, List.set_cons_zero, List.set_cons_succ] at HM
          replace HM := HM.pick 14 rfl
          replace HM := HM.pick 14 rfl
          replace HM := HM.pick 14 rfl
          replace HM := HM.pick 6 rfl
          replace HM := HM.pick 6 rfl
          replace HM := HM.pick 10 rfl
          replace HM := HM.pick 10 rfl
          replace HM := HM.pick 7 rfl
          replace HM := HM.pick 8 rfl
          try simp only [List.eraseIdx_cons_succ, List.eraseIdx_cons_zero] at HM
          exact own_take 9 HM
        · refine meetK ((((((HS.pick 9 rfl).set 0 _).set 1 _).pick 9 rfl).set 0 _).set 1 _) ?_
          intro HM
          try simp only [World.size_alloc, size_set, List.eraseIdx_cons_succ, List.eraseIdx_cons_zero, List.cons_append, List.nil_append, List.set_cons_zero, List.set_cons_succ] at HM
          replace HM := HM.pick 14 rfl
          replace HM := HM.pick 14 rfl
          replace HM := HM.pick 14 rfl
          replace HM := HM.pick 6 rfl
          replace HM := HM.pick 6 rfl
          replace HM := HM.pick 10 rfl
          replace HM := HM.pick 10 rfl
          replace HM := HM.pick 7 rfl
          replace HM := HM.pick 8 rfl
          try simp only [List.eraseIdx_cons_succ, List.eraseIdx_cons_zero] at HM
          exact own_take 9 HM
        · refine meetK ((((HS.pick 8 rfl).set 0 _).set 1 _).box0 [_, _] _) ?_
          intro HM
          try simp only [World.size_alloc, size_set, List.eraseIdx_cons_succ, List.eraseIdx_cons_zero, List.cons_append, List.nil_append, List.set_cons_zero, List.set_cons_succ] at HM
          replace HM := HM.pick 14 rfl
          replace HM := HM.pick 14 rfl
          replace HM := HM.pick 14 rfl
          replace HM := HM.pick 6 rfl
          replace HM := HM.pick 6 rfl
          replace HM := HM.pick 10 rfl
          replace HM := HM.pick 10 rfl
          replace HM := HM.pick 8 rfl
          replace HM := HM.pick 8 rfl
          try simp only [List.eraseIdx_cons_succ, List.eraseIdx_cons_zero] at HM
          exact own_take 9 HM
        · refine meetK ((((((HS.pick 4 rfl).set 0 _).set 1 _).pick 9 rfl).set 0 _).set 1 _) ?_
          intro HM
          try simp only [World.size_alloc, size_set, List.eraseIdx_cons_succ, List.eraseIdx_cons_zero, List.cons_append, List.nil_append, List.set_cons_zero, List.set_cons_succ] at HM
          replace HM := HM.pick 14 rfl
          replace HM := HM.pick 14 rfl
          replace HM := HM.pick 14 rfl
          replace HM := HM.pick 6 rfl
          replace HM := HM.pick 6 rfl
          replace HM := HM.pick 10 rfl
          replace HM := HM.pick 10 rfl
          replace HM := HM.pick 7 rfl
          replace HM := HM.pick 8 rfl
          try simp only [List.eraseIdx_cons_succ, List.eraseIdx_cons_zero] at HM
          exact own_take 9 HM
        · refine meetK ((((((HS.pick 8 rfl).set 0 _).set 1 _).pick 9 rfl).set 0 _).set 1 _) ?_
          intro HM
          try simp only [World.size_alloc, size_set, List.eraseIdx_cons_succ, List.eraseIdx_cons_zero, List.cons_append, List.nil_append, List.set_cons_zero, List.set_cons_succ] at HM
          replace HM := HM.pick 14 rfl
          replace HM := HM.pick 14 rfl
          replace HM := HM.pick 14 rfl
          replace HM := HM.pick 6 rfl
          replace HM := HM.pick 6 rfl
          replace HM := HM.pick 10 rfl
          replace HM := HM.pick 10 rfl
          replace HM := HM.pick 7 rfl
          replace HM := HM.pick 8 rfl
          try simp only [List.eraseIdx_cons_succ, List.eraseIdx_cons_zero] at HM
          exact own_take 9 HM
      case rest =>
        clear HS F
        obtain ⟨bN, bM, P1, P2, P3, P4, p1, p2, p3, p4, rfl, rfl, HS⟩ := hcut
        have F := HS.facts
        simp only [List.eraseIdx_cons_succ, List.eraseIdx_cons_zero, List.cons_append, List.nil_append, Own.Facts, Own.Cells, Nat.zero_add, and_true, Ds.lm, Ds.lmf, Ds.iter, Ds.map, Ds.mapf] at F
        go_wp2_with fail
        refine (implFits N.l N.c _ _ _ (HS.rd 2 rfl) (HS.rd 3 rfl)).mono ?_; rintro e w9 ⟨rfl, hb⟩; (first | have H' := HS.of_below hb | have H' := HS.drew.of_below hb | have H' := (HS.box0 [_] _).of_below hb | have H' := ((HS.box0 [_] _).box0 [_] _).of_below hb | have H' := (HS.alloc _).of_below hb | have H' := ((HS.alloc _).alloc _).of_below hb); clear HS; have HS := H'; clear H'; have F := HS.facts; simp only [Own.Facts, Ds.lm, Ds.lmf, Ds.iter, Ds.map, Ds.mapf, Own.Cells, World.size_alloc, List.cons_append, List.nil_append, List.eraseIdx_cons_succ, List.eraseIdx_cons_zero, List.eraseIdx_zero, List.tail_cons, Nat.zero_add] at F
        cases hf : fitsB N.l N.c
        · have HQ := Lib.hid (show chR s gone [] = (⟨[], []⟩, ⟨[], []⟩, 4) by rw [HR.out, fits2_is, hf]; rfl)
          clear hf
          go_wp2
          have H2 := (((HS.pick 7 rfl).set 0 (.slice none 0 0)).set 1 (.slice none 0 0)).pick 7 rfl
          have H3 := ((H2.set 0 (.slice none 0 0)).set 1 (.slice none 0 0))
          have H4 := own_take 0 H3
          have H5 := (((H4.nil (α := Rn)).nil (α := Lf)).nil (α := Rn)).nil (α := Lf)
          exact bodyPost_ret (v := .tuple #[.agg #[.slice none 0 0, .slice none 0 0], .agg #[.slice none 0 0, .slice none 0 0], .int .i64 4]) (by simp [results, Tryz.results31, go_sem, *]) rfl ⟨none, 0, none, 0, none, 0, none, 0, by rw [HQ.out]; rfl, by rw [HQ.out]; exact H5⟩
        · have HFN := Lib.hid hf
          clear hf
          go_wp2_with fail
          refine (implFits D0.l D0.c _ _ _ (HS.rd 4 rfl) (HS.rd 5 rfl)).mono ?_; rintro e w10 ⟨rfl, hb⟩; (first | have H' := HS.of_below hb | have H' := HS.drew.of_below hb | have H' := (HS.box0 [_] _).of_below hb | have H' := ((HS.box0 [_] _).box0 [_] _).of_below hb | have H' := (HS.alloc _).of_below hb | have H' := ((HS.alloc _).alloc _).of_below hb); clear HS; have HS := H'; clear H'; have F := HS.facts; simp only [Own.Facts, Ds.lm, Ds.lmf, Ds.iter, Ds.map, Ds.mapf, Own.Cells, World.size_alloc, List.cons_append, List.nil_append, List.eraseIdx_cons_succ, List.eraseIdx_cons_zero, List.eraseIdx_zero, List.tail_cons, Nat.zero_add] at F
          cases hf2 : fitsB D0.l D0.c
          · have HQ := Lib.hid (show chR s gone [] = (⟨[], []⟩, ⟨[], []⟩, 4) by rw [HR.out, fits2_is, fits2_is, HFN.out, hf2]; rfl)
            clear hf2
            go_wp2
            have H2 := (((HS.pick 7 rfl).set 0 (.slice none 0 0)).set 1 (.slice none 0 0)).pick 7 rfl
            have H3 := ((H2.set 0 (.slice none 0 0)).set 1 (.slice none 0 0))
            have H4 := own_take 0 H3
            have H5 := (((H4.nil (α := Rn)).nil (α := Lf)).nil (α := Rn)).nil (α := Lf)
            exact bodyPost_ret (v := .tuple #[.agg #[.slice none 0 0, .slice none 0 0], .agg #[.slice none 0 0, .slice none 0 0], .int .i64 4]) (by simp [results, Tryz.results31, go_sem, *]) rfl ⟨none, 0, none, 0, none, 0, none, 0, by rw [HQ.out]; rfl, by rw [HQ.out]; exact H5⟩
          · have HQ := Lib.hid (show chR s gone [] = (N, D0, 0) by rw [HR.out, fits2_is, fits2_is, HFN.out, hf2]; rfl)
            clear hf2
            go_wp2
            have hd1 := own_ne (HS.pick 7 rfl)
            have hd2 := own_ne (HS.pick 6 rfl)
            have hd3 := own_ne (HS.drop.pick 6 rfl)
            have hd4 := own_ne (HS.drop.pick 5 rfl)
            have hd5 := hd3.symm
            have hd6 := hd4.symm
            first | go_region | go_big_region
            all_goals
              go_wp2
              have H2 := (((HS.pick 7 rfl).set 0 (.slice P1 N.l.length p1)).set 1 (.slice P2 N.c.length p2)).pick 7 rfl
              have H3 := ((H2.set 0 (.slice P3 D0.l.length p3)).set 1 (.slice P4 D0.c.length p4))
              have H4 := own_take 4 H3.drop.drop.drop.drop
              exact bodyPost_ret (v := .tuple #[.agg #[.slice P1 N.l.length p1, .slice P2 N.c.length p2], .agg #[.slice P3 D0.l.length p3, .slice P4 D0.c.length p4], .int .i64 0]) (by simp [results, Tryz.results31, go_sem, *]) rfl ⟨P1, p1, P2, p2, P3, p3, P4, p4, by rw [HQ.out], by rw [HQ.out]; first | exact H4 | exact H4.drew⟩
    · intro z left' x w' hpm hen2 HI2 hen
      have hz := HSB.out z (hpm.mem_iff.2 (by simp))
      have HSB2 := Lib.hid (show ∀ y ∈ left', y ∈ zs from fun y hy => HSB.out y (hpm.mem_iff.2 (by simp [hy])))
      have HLT := Lib.hid (show left'.length < left.length by rw [hpm.length_eq]; simp)
      have HE2 := Lib.hid hen2
      have HPX := Lib.hid hpm
      have HCZ := Lib.hid (show z ∈ cur from HCU.out.mem_iff.2 (List.mem_append_left _ (hpm.mem_iff.2 (by simp))))
      have hatz := HAT.out z hz
      have hdz := HDI.out z hz
      have HKN := Lib.hid (fun h : gone z.l = false => loop_takeP (q := fun x => !gone x) HKE.out hpm (by simp [h]))
      have HKS := Lib.hid (fun h : gone z.l = true => loop_skip (q := fun x => !gone x) HKE.out hpm (by simp [h]))
      have HDN := Lib.hid (fun h : gone z.l = false => loop_skip (q := gone) HDE.out hpm h)
      have HDS := Lib.hid (fun h : gone z.l = true => loop_takeP (q := gone) HDE.out hpm h)
      have HC1 := Lib.hid (show cur.Perm (left' ++ (K ++ [z])) from (HCU.out.trans (hpm.append_right K)).trans (by
        rw [List.cons_append, ← List.append_assoc]; exact List.perm_append_comm (l₁ := [z])))
      have HC2 := Lib.hid (fun (cur' : List Pf) (h : cur.Perm (z :: cur')) => show cur'.Perm (left' ++ K) from List.Perm.cons_inv (h.symm.trans (HCU.out.trans (hpm.append_right K))))
      have HDL := Lib.hid (show D.length ≤ 1000 by
        have e := HDE.out.length_eq
        have e1 := List.length_filter_le (fun z : Pf => gone z.l) zs
        rw [List.length_append] at e; omega)
      have HZV := Lib.hid (show (dotP z) = (z.l.dr, z.l.ds) from rfl)
      obtain ⟨z0, hz0⟩ : ∃ y, z = y := ⟨_, rfl⟩
      clear hpm hen2 hz hz0
      obtain ⟨⟨Az, nz, cz⟩, ⟨zp, zf, zr, zd, zv⟩⟩ := z
      simp only [Pf.at_, Sv.v] at hatz
      obtain rfl : nz = zp.length := hatz.len
      simp only [dotv, dotP, lfv, Sv.v] at hen ⊢
      have hzd : 1 ≤ zd ∧ zd ≤ 1000000000 := hdz.2
      clear hdz
      obtain ⟨nb, hnb⟩ : ∃ n, w'.heap.size = n := ⟨_, rfl⟩
      have HB := (HI2.box (b := nb) [.int .i64 zr, .int .i64 zd] 55 hnb).box (b := nb + 1) [.slice Az zp.length cz, .bool zf, .int .i64 zr, .int .i64 zd, .string zv] 57 (by simp only [World.size_alloc, hnb])
      clear HI2
      have F := HB.facts
      simp only [List.eraseIdx_cons_succ, List.eraseIdx_cons_zero, List.cons_append, List.nil_append, Own.Facts, Own.Cells, Nat.zero_add, and_true, Ds.lm, Ds.lmf, Ds.iter, Ds.map, Ds.mapf] at F
      go_wp2_with fail
      refine (HG.out _ HB.below ⟨zp, zf, zr, zd, zv⟩ _ (HB.old hatz)).mono ?_
      rintro e w6 ⟨rfl, hb⟩
      replace HB := HB.of_below hb
      clear hb F
      have F := HB.facts
      simp only [List.eraseIdx_cons_succ, List.eraseIdx_cons_zero, List.cons_append, List.nil_append, Own.Facts, Own.Cells, Nat.zero_add, and_true, Ds.lm, Ds.lmf, Ds.iter, Ds.map, Ds.mapf] at F
      cases hgo : gone ⟨zp, zf, zr, zd, zv⟩
      · have HKN := Lib.hid (HKN.out hgo)
        have HDN := Lib.hid (HDN.out hgo)
        clear hgo HKS HDS HC2
        have HW := HB.drop.drop
        clear HB F
        go_wp2
        go_roundw
        case rel => exact ⟨seen.push x, left', cur, _, D, g, HE2, HC1, HKN, HDN, HSB2, HGG, HW⟩
        case measure =>
          rw [HW.rleftL HE2.out, HS.rleftL HEN.out]
          exact HLT.out
      · have HKS := Lib.hid (HKS.out hgo)
        have HDS := Lib.hid (HDS.out hgo)
        clear hgo HKN HDN HC1
        (first | replace HB : Own _ (.lm bt _ :: _) _ := HB.pick 0 rfl | replace HB : Own _ (.lm bt _ :: _) _ := HB.pick 1 rfl | replace HB : Own _ (.lm bt _ :: _) _ := HB.pick 2 rfl | replace HB : Own _ (.lm bt _ :: _) _ := HB.pick 3 rfl | replace HB : Own _ (.lm bt _ :: _) _ := HB.pick 4 rfl | replace HB : Own _ (.lm bt _ :: _) _ := HB.pick 5 rfl | replace HB : Own _ (.lm bt _ :: _) _ := HB.pick 6 rfl | replace HB : Own _ (.lm bt _ :: _) _ := HB.pick 7 rfl | replace HB : Own _ (.lm bt _ :: _) _ := HB.pick 8 rfl | replace HB : Own _ (.lm bt _ :: _) _ := HB.pick 9 rfl | replace HB : Own _ (.lm bt _ :: _) _ := HB.pick 10 rfl | replace HB : Own _ (.lm bt _ :: _) _ := HB.pick 11 rfl | replace HB : Own _ (.lm bt _ :: _) _ := HB.pick 12 rfl | replace HB : Own _ (.lm bt _ :: _) _ := HB.pick 13 rfl | replace HB : Own _ (.lm bt _ :: _) _ := HB.pick 14 rfl | replace HB : Own _ (.lm bt _ :: _) _ := HB.pick 15 rfl)
        go_wp2_with (refine wp_ldel dotKey rfl _ _ rfl Tryz.underlying96 HB rfl ⟨⟨Az, zp.length, cz⟩, ⟨zp, zf, zr, zd, zv⟩⟩ rfl HCZ.out ?_; clear F; intro cur' w7 hp7 HB7; have F := HB7.facts; simp only [List.eraseIdx_cons_succ, List.eraseIdx_cons_zero, List.cons_append, List.nil_append, Own.Facts, Own.Cells, Nat.zero_add, and_true, Ds.lm, Ds.lmf, Ds.iter, Ds.map, Ds.mapf] at F)
        have HC2 := Lib.hid (HC2.out cur' hp7)
        clear hp7 HB
        (first | replace HB7 : Own _ (.map none cd _ :: _) _ := HB7.pick 0 rfl | replace HB7 : Own _ (.map none cd _ :: _) _ := HB7.pick 1 rfl | replace HB7 : Own _ (.map none cd _ :: _) _ := HB7.pick 2 rfl | replace HB7 : Own _ (.map none cd _ :: _) _ := HB7.pick 3 rfl | replace HB7 : Own _ (.map none cd _ :: _) _ := HB7.pick 4 rfl | replace HB7 : Own _ (.map none cd _ :: _) _ := HB7.pick 5 rfl | replace HB7 : Own _ (.map none cd _ :: _) _ := HB7.pick 6 rfl | replace HB7 : Own _ (.map none cd _ :: _) _ := HB7.pick 7 rfl | replace HB7 : Own _ (.map none cd _ :: _) _ := HB7.pick 8 rfl | replace HB7 : Own _ (.map none cd _ :: _) _ := HB7.pick 9 rfl | replace HB7 : Own _ (.map none cd _ :: _) _ := HB7.pick 10 rfl | replace HB7 : Own _ (.map none cd _ :: _) _ := HB7.pick 11 rfl | replace HB7 : Own _ (.map none cd _ :: _) _ := HB7.pick 12 rfl | replace HB7 : Own _ (.map none cd _ :: _) _ := HB7.pick 13 rfl | replace HB7 : Own _ (.map none cd _ :: _) _ := HB7.pick 14 rfl | replace HB7 : Own _ (.map none cd _ :: _) _ := HB7.pick 15 rfl)
        refine (addDot g cd zr zd _ HB7 (fun k => ⟨(HGG.out k).1, by have := (HGG.out k).2.2; have := HDL.out; omega⟩) hzd).mono ?_
        rintro e w8 ⟨rfl, g', H8, hg'⟩
        have HG2 := Lib.hid (show ∀ k, Ns (mget g' k) ∧ (∀ q, SpIn (mget g' k) q ↔ ∃ z ∈ D ++ [(⟨⟨Az, zp.length, cz⟩, ⟨zp, zf, zr, zd, zv⟩⟩ : Pf)], z.l.dr = k ∧ z.l.ds = q) ∧ (mget g' k).length ≤ (D ++ [(⟨⟨Az, zp.length, cz⟩, ⟨zp, zf, zr, zd, zv⟩⟩ : Pf)]).length from fun k => by
          obtain ⟨n1, n2, n3⟩ := hg' k
          obtain ⟨m1, m2, m3⟩ := HGG.out k
          refine ⟨n1, fun q => ?_, by rw [List.length_append]; simp only [List.length_cons, List.length_nil]; omega⟩
          rw [n2, m2]
          simp only [List.mem_append, List.mem_singleton]
          constructor
          · rintro (⟨y, hy, h⟩ | ⟨h3, h4⟩)
            · exact ⟨y, .inl hy, h⟩
            · exact ⟨_, .inr rfl, h3, h4⟩
          · rintro ⟨y, hy | rfl, h⟩
            · exact .inl ⟨y, hy, h⟩
            · exact .inr h)
        have HW := H8
        clear H8 HB7 F hg'
        (first | replace HW : Own _ (.box (nb + 1) _ _ :: _) _ := HW.pick 0 rfl | replace HW : Own _ (.box (nb + 1) _ _ :: _) _ := HW.pick 1 rfl | replace HW : Own _ (.box (nb + 1) _ _ :: _) _ := HW.pick 2 rfl | replace HW : Own _ (.box (nb + 1) _ _ :: _) _ := HW.pick 3 rfl | replace HW : Own _ (.box (nb + 1) _ _ :: _) _ := HW.pick 4 rfl | replace HW : Own _ (.box (nb + 1) _ _ :: _) _ := HW.pick 5 rfl | replace HW : Own _ (.box (nb + 1) _ _ :: _) _ := HW.pick 6 rfl | replace HW : Own _ (.box (nb + 1) _ _ :: _) _ := HW.pick 7 rfl | replace HW : Own _ (.box (nb + 1) _ _ :: _) _ := HW.pick 8 rfl | replace HW : Own _ (.box (nb + 1) _ _ :: _) _ := HW.pick 9 rfl | replace HW : Own _ (.box (nb + 1) _ _ :: _) _ := HW.pick 10 rfl | replace HW : Own _ (.box (nb + 1) _ _ :: _) _ := HW.pick 11 rfl | replace HW : Own _ (.box (nb + 1) _ _ :: _) _ := HW.pick 12 rfl | replace HW : Own _ (.box (nb + 1) _ _ :: _) _ := HW.pick 13 rfl | replace HW : Own _ (.box (nb + 1) _ _ :: _) _ := HW.pick 14 rfl | replace HW : Own _ (.box (nb + 1) _ _ :: _) _ := HW.pick 15 rfl)
        replace HW := HW.drop
        (first | replace HW : Own _ (.box nb _ _ :: _) _ := HW.pick 0 rfl | replace HW : Own _ (.box nb _ _ :: _) _ := HW.pick 1 rfl | replace HW : Own _ (.box nb _ _ :: _) _ := HW.pick 2 rfl | replace HW : Own _ (.box nb _ _ :: _) _ := HW.pick 3 rfl | replace HW : Own _ (.box nb _ _ :: _) _ := HW.pick 4 rfl | replace HW : Own _ (.box nb _ _ :: _) _ := HW.pick 5 rfl | replace HW : Own _ (.box nb _ _ :: _) _ := HW.pick 6 rfl | replace HW : Own _ (.box nb _ _ :: _) _ := HW.pick 7 rfl | replace HW : Own _ (.box nb _ _ :: _) _ := HW.pick 8 rfl | replace HW : Own _ (.box nb _ _ :: _) _ := HW.pick 9 rfl | replace HW : Own _ (.box nb _ _ :: _) _ := HW.pick 10 rfl | replace HW : Own _ (.box nb _ _ :: _) _ := HW.pick 11 rfl | replace HW : Own _ (.box nb _ _ :: _) _ := HW.pick 12 rfl | replace HW : Own _ (.box nb _ _ :: _) _ := HW.pick 13 rfl | replace HW : Own _ (.box nb _ _ :: _) _ := HW.pick 14 rfl | replace HW : Own _ (.box nb _ _ :: _) _ := HW.pick 15 rfl)
        replace HW := HW.drop
        (first | replace HW : Own _ (.map none cd _ :: _) _ := HW.pick 0 rfl | replace HW : Own _ (.map none cd _ :: _) _ := HW.pick 1 rfl | replace HW : Own _ (.map none cd _ :: _) _ := HW.pick 2 rfl | replace HW : Own _ (.map none cd _ :: _) _ := HW.pick 3 rfl | replace HW : Own _ (.map none cd _ :: _) _ := HW.pick 4 rfl | replace HW : Own _ (.map none cd _ :: _) _ := HW.pick 5 rfl | replace HW : Own _ (.map none cd _ :: _) _ := HW.pick 6 rfl | replace HW : Own _ (.map none cd _ :: _) _ := HW.pick 7 rfl | replace HW : Own _ (.map none cd _ :: _) _ := HW.pick 8 rfl | replace HW : Own _ (.map none cd _ :: _) _ := HW.pick 9 rfl | replace HW : Own _ (.map none cd _ :: _) _ := HW.pick 10 rfl | replace HW : Own _ (.map none cd _ :: _) _ := HW.pick 11 rfl | replace HW : Own _ (.map none cd _ :: _) _ := HW.pick 12 rfl | replace HW : Own _ (.map none cd _ :: _) _ := HW.pick 13 rfl | replace HW : Own _ (.map none cd _ :: _) _ := HW.pick 14 rfl | replace HW : Own _ (.map none cd _ :: _) _ := HW.pick 15 rfl)
        (first | replace HW : Own _ (.lm bt _ :: _) _ := HW.pick 0 rfl | replace HW : Own _ (.lm bt _ :: _) _ := HW.pick 1 rfl | replace HW : Own _ (.lm bt _ :: _) _ := HW.pick 2 rfl | replace HW : Own _ (.lm bt _ :: _) _ := HW.pick 3 rfl | replace HW : Own _ (.lm bt _ :: _) _ := HW.pick 4 rfl | replace HW : Own _ (.lm bt _ :: _) _ := HW.pick 5 rfl | replace HW : Own _ (.lm bt _ :: _) _ := HW.pick 6 rfl | replace HW : Own _ (.lm bt _ :: _) _ := HW.pick 7 rfl | replace HW : Own _ (.lm bt _ :: _) _ := HW.pick 8 rfl | replace HW : Own _ (.lm bt _ :: _) _ := HW.pick 9 rfl | replace HW : Own _ (.lm bt _ :: _) _ := HW.pick 10 rfl | replace HW : Own _ (.lm bt _ :: _) _ := HW.pick 11 rfl | replace HW : Own _ (.lm bt _ :: _) _ := HW.pick 12 rfl | replace HW : Own _ (.lm bt _ :: _) _ := HW.pick 13 rfl | replace HW : Own _ (.lm bt _ :: _) _ := HW.pick 14 rfl | replace HW : Own _ (.lm bt _ :: _) _ := HW.pick 15 rfl)
        (first | replace HW : Own _ (.lmf _ _ _ _ :: _) _ := HW.pick 0 rfl | replace HW : Own _ (.lmf _ _ _ _ :: _) _ := HW.pick 1 rfl | replace HW : Own _ (.lmf _ _ _ _ :: _) _ := HW.pick 2 rfl | replace HW : Own _ (.lmf _ _ _ _ :: _) _ := HW.pick 3 rfl | replace HW : Own _ (.lmf _ _ _ _ :: _) _ := HW.pick 4 rfl | replace HW : Own _ (.lmf _ _ _ _ :: _) _ := HW.pick 5 rfl | replace HW : Own _ (.lmf _ _ _ _ :: _) _ := HW.pick 6 rfl | replace HW : Own _ (.lmf _ _ _ _ :: _) _ := HW.pick 7 rfl | replace HW : Own _ (.lmf _ _ _ _ :: _) _ := HW.pick 8 rfl | replace HW : Own _ (.lmf _ _ _ _ :: _) _ := HW.pick 9 rfl | replace HW : Own _ (.lmf _ _ _ _ :: _) _ := HW.pick 10 rfl | replace HW : Own _ (.lmf _ _ _ _ :: _) _ := HW.pick 11 rfl | replace HW : Own _ (.lmf _ _ _ _ :: _) _ := HW.pick 12 rfl | replace HW : Own _ (.lmf _ _ _ _ :: _) _ := HW.pick 13 rfl | replace HW : Own _ (.lmf _ _ _ _ :: _) _ := HW.pick 14 rfl | replace HW : Own _ (.lmf _ _ _ _ :: _) _ := HW.pick 15 rfl)
        (first | replace HW : Own _ (.iter _ _ _ _ :: _) _ := HW.pick 0 rfl | replace HW : Own _ (.iter _ _ _ _ :: _) _ := HW.pick 1 rfl | replace HW : Own _ (.iter _ _ _ _ :: _) _ := HW.pick 2 rfl | replace HW : Own _ (.iter _ _ _ _ :: _) _ := HW.pick 3 rfl | replace HW : Own _ (.iter _ _ _ _ :: _) _ := HW.pick 4 rfl | replace HW : Own _ (.iter _ _ _ _ :: _) _ := HW.pick 5 rfl | replace HW : Own _ (.iter _ _ _ _ :: _) _ := HW.pick 6 rfl | replace HW : Own _ (.iter _ _ _ _ :: _) _ := HW.pick 7 rfl | replace HW : Own _ (.iter _ _ _ _ :: _) _ := HW.pick 8 rfl | replace HW : Own _ (.iter _ _ _ _ :: _) _ := HW.pick 9 rfl | replace HW : Own _ (.iter _ _ _ _ :: _) _ := HW.pick 10 rfl | replace HW : Own _ (.iter _ _ _ _ :: _) _ := HW.pick 11 rfl | replace HW : Own _ (.iter _ _ _ _ :: _) _ := HW.pick 12 rfl | replace HW : Own _ (.iter _ _ _ _ :: _) _ := HW.pick 13 rfl | replace HW : Own _ (.iter _ _ _ _ :: _) _ := HW.pick 14 rfl | replace HW : Own _ (.iter _ _ _ _ :: _) _ := HW.pick 15 rfl)
        try simp only [List.eraseIdx_cons_succ, List.eraseIdx_cons_zero, List.cons_append, List.nil_append] at HW
        go_wp2
        try go_frame
        go_roundw
        case rel => exact ⟨seen.push x, left', cur', K, _, g', HE2, HC2, HKS, HDS, HSB2, HG2, HW⟩
        case measure =>
          rw [HW.rleftL HE2.out, HS.rleftL HEN.out]
          exact HLT.out
end Go.Proofs.YtkafflbakgkpcaaGreat
