/- PutState: the reference's tree of bytes. -/
import Derived.Test.YtbcgbkeldcaalaaY2
import Derived.Test.YtbcgbkeldcaalaaP3
import Derived.Test.YtbcgbkeldcaalaaB2
import Derived.Test.YtbcgbkeldcaalaaL1
namespace Go.Proofs.Ytbcgbkeldcaalaa
set_option linter.unusedSimpArgs false
set_option linter.unusedVariables false
open Go.RowKit Go.Ow
attribute [local irreducible] wpQuiet
set_option maxRecDepth 100000
def slen : Value → Nat
  | .slice _ n _ => n
  | _ => 0
theorem take_tw {α : Type} (p : α → Bool) : ∀ l : List α, l.take (l.takeWhile p).length = l.takeWhile p
  | [] => rfl
  | x :: l => by
    cases hx : p x
    · rw [List.takeWhile_cons_of_neg (by simp [hx])]; rfl
    · rw [List.takeWhile_cons_of_pos hx, List.length_cons, List.take_succ_cons, take_tw p l]
theorem drop_tw {α : Type} (p : α → Bool) : ∀ l : List α, l.drop (l.takeWhile p).length = l.dropWhile p
  | [] => rfl
  | x :: l => by
    cases hx : p x
    · rw [List.takeWhile_cons_of_neg (by simp [hx]), List.dropWhile_cons_of_neg (by simp [hx])]; rfl
    · rw [List.takeWhile_cons_of_pos hx, List.dropWhile_cons_of_pos hx, List.length_cons, List.drop_succ_cons, drop_tw p l]
theorem u8_kind (k : Nat) (hk : k ≤ 3) : (UInt8.ofNat k).toNat = k := by
  simp; omega
theorem u8_lit (k : Nat) (hk : k ≤ 3) : (#[Value.int .u8 (k : Int)]).toList = ([UInt8.ofNat k].map Fl.fl).flatten := by
  show [Value.int .u8 (k : Int)] = [Value.int .u8 ((UInt8.ofNat k).toNat : Int)]
  rw [u8_kind k hk]
theorem kd_le (x : Lf) (d : Nat) : kdAt x d ≤ 3 ∧ 1 ≤ kdAt x d := by unfold kdAt; split <;> (try split) <;> omega
theorem subL_lo {w : World} {A : Option Addr} {n c : Nat} (k : Nat) (h1 : k ≤ n) (h2 : n ≤ c) :
    (Instr.sliceAt 32 (.slice A n c) none (some (.int .i64 (k : Int))) none).run Try.prog w = .ok (sliced A 0 k c 5) w := by
  have := run_subV (P := Try.prog) (w := w) (z := 5) Try.underlying32 (by kernel_rfl) A n c ((0 : Nat) : Int) (k : Int) (by omega) (by omega) (by omega)
  rw [Int.toNat_natCast, Int.toNat_natCast] at this
  exact this
theorem subL_hi {w : World} {A : Option Addr} {n c : Nat} (k : Nat) (h1 : k ≤ n) (h2 : n ≤ c) :
    (Instr.sliceAt 32 (.slice A n c) (some (.int .i64 (k : Int))) none none).run Try.prog w = .ok (sliced A k n c 5) w := by
  have he : Try.prog.elem 32 = 91 := by simp [Program.elem, Try.underlying32]
  have ht' : Try.prog.underlying 32 = some (.slice (Try.prog.elem 32)) := by rw [he]; exact Try.underlying32
  have hz : (sizeOf 91).run Try.prog w = .ok 5 w := by kernel_rfl
  rw [run_sliceAt_slice w 32 _ _ _ _ ht', run_slice_l w 32 A n c ht' .i64 (k : Int) (by omega) (by omega), he, hz]
  simp [Result.andThen]
/-- A row of leaves, cut. -/
theorem subLf {n c : Nat} (A : Option Addr) (l : List Lf) (j : Nat) (hn : n = l.length) (h1 : j ≤ n) (h2 : n ≤ c) :
    ∃ A1 c1 A2 c2, (∀ q, (Instr.sliceAt 32 (.slice A n c) none (some (.int .i64 (j : Int))) none).run Try.prog q = .ok (.slice A1 (l.take j).length c1) q) ∧ (∀ q, (Instr.sliceAt 32 (.slice A n c) (some (.int .i64 (j : Int))) none none).run Try.prog q = .ok (.slice A2 (l.drop j).length c2) q) ∧
      Hid (∀ w, Rd w (.slice A n c) l → Rd w (.slice A1 (l.take j).length c1) (l.take j) ∧ Rd w (.slice A2 (l.drop j).length c2) (l.drop j)) := by
  subst hn
  have e1 : ∀ (A : Option Addr) lo hi c z, ∃ A' c', sliced A lo hi c z = .slice A' (hi - lo) c' := by
    intro A lo hi c z; unfold sliced; split <;> exact ⟨_, _, rfl⟩
  obtain ⟨A1, c1, h3⟩ := e1 A 0 j c 5
  obtain ⟨A2, c2, h4⟩ := e1 A j l.length c 5
  have l1 : (l.take j).length = j - 0 := by simp; omega
  have l2 : (l.drop j).length = l.length - j := by simp
  refine ⟨A1, c1, A2, c2, fun q => by rw [l1, ← h3]; exact subL_lo j h1 h2, fun q => by rw [l2, ← h4]; exact subL_hi j h1 h2, Lib.hid fun w h => ⟨?_, ?_⟩⟩
  · have := rd_subV h 0 j (by omega) h1
    rw [show Cd.z Lf = 5 from rfl, h3] at this
    rw [l1]; simpa using this
  · have := rd_subV h j l.length h1 (Nat.le_refl _)
    rw [show Cd.z Lf = 5 from rfl, h4] at this
    rw [l2]
    rwa [List.take_of_length_le (by simp)] at this
theorem putTextQ (s : ByteArray) (w : World) (hs : s.size ≤ 140737488351232) : Calls Try.prog 101 #[.string s] w fun e w' => ∃ A c, e = .returned (.slice A (txt s).length c) ∧ Own w [.own (.slice A (txt s).length c) (txt s)] w' :=
  (specPutText s w hs).mono fun e w' ⟨v', he, h⟩ => by
    obtain ⟨A, c, rfl, _, _⟩ := (h.rd 0 rfl).val
    exact ⟨A, c, he, h⟩
theorem lfsB_snoc (k : Nat) (a : List Lf) (x : Lf) : lfsB k (a ++ [x]) = lfsB k a ++ lfB k x := by unfold lfsB; simp
theorem gBs_cons (T : List Lf → List UInt8) (d : Nat) (x : Lf) (t : List Lf) : ((grps (keyAt d) (x :: t)).map (gB T d)).flatten = gB T d (x :: t.takeWhile (fun y => decide (keyAt d y = keyAt d x))) ++ ((grps (keyAt d) (t.dropWhile (fun y => decide (keyAt d y = keyAt d x)))).map (gB T d)).flatten := by
  rw [grps_cons]; rfl
theorem l4Group2 (x : Lf) (t : List Lf) (v : Value) (g : List Lf) (d : Nat) (w : World) (hv : Rd w v (x :: t)) (hg : (x :: t).takeWhile (fun y => decide (keyAt d y = keyAt d x)) = g) (hp : ∀ l ∈ x :: t, d < l.p.length) (hd : d ≤ 100) :
    Calls Try.prog 99 #[v, .int .i64 d] w fun e w' => e = .returned (.int .i64 (g.length : Nat)) ∧ Below w.heap.size w w' := by
  have h := l4Group (x :: t) v d w hv (by simp) hp hd
  rw [List.getElem_cons_zero, hg] at h
  exact h
set_option maxHeartbeats 8000000 in
theorem l4TreeStep (f d : Nat) (hd : d ≤ 7) (hf : f ≤ 7) (IH : ∀ (ls : List Lf) (A : Option Addr) (c : Nat) (w : World), Rd w (.slice A ls.length c) ls → 0 < ls.length → (∀ l ∈ ls, LfG (d + 1) l) → ls.length ≤ 1000 →
      Calls Try.prog 74 #[.slice A ls.length c, .int .i64 ((d : Int) + 1)] w fun e w' => ∃ A c, e = .returned (.slice A (treeB f (d + 1) ls).length c) ∧ Own w [.own (.slice A (treeB f (d + 1) ls).length c) (treeB f (d + 1) ls)] w')
    (ls : List Lf) (A : Option Addr) (c : Nat) (w : World) (hv : Rd w (.slice A ls.length c) ls) (hg : ∀ l ∈ ls, LfG d l) (hn : ls.length ≤ 1000) :
    Calls Try.prog 74 #[.slice A ls.length c, .int .i64 d] w fun e w' => ∃ A c, e = .returned (.slice A (treeB (f + 1) d ls).length c) ∧ Own w [.own (.slice A (treeB (f + 1) d ls).length c) (treeB (f + 1) d ls)] w' := by
  have HIH := Lib.hid IH
  have hM : (((grps (keyAt d) ls).map (gB (treeB f (d + 1)) d)).flatten).length ≤ 800000 := by
    have h1 := treeB_len (f + 1) d ls hg hn
    rw [treeB, List.length_append] at h1
    have h2 : ls.length * (70 * (f + 1) + 230) ≤ 1000 * (70 * (f + 1) + 230) := Nat.mul_le_mul_right _ hn
    omega
  have hT : Hid (∀ g : List Lf, (∀ l ∈ g, LfG (d + 1) l) → g.length ≤ 1000 → (treeB f (d + 1) g).length ≤ 800000) := Lib.hid fun g h1 h2 => by
    have h3 := treeB_len f (d + 1) g h1 h2
    have h4 : g.length * (70 * f + 230) ≤ 1000 * (70 * f + 230) := Nat.mul_le_mul_right _ h2
    omega
  have HM := Lib.hid hM
  have HTB := Lib.hid (show treeB (f + 1) d ls = uv (grps (keyAt d) ls).length ++ ((grps (keyAt d) ls).map (gB (treeB f (d + 1)) d)).flatten from rfl)
  have hcl := grps_count (keyAt d) ls.length ls (Nat.le_refl _)
  obtain ⟨C, hC⟩ : ∃ C, (grps (keyAt d) ls).length = C := ⟨_, rfl⟩
  obtain ⟨BB, hBB⟩ : ∃ B, ((grps (keyAt d) ls).map (gB (treeB f (d + 1)) d)).flatten = B := ⟨_, rfl⟩
  rw [hC, hBB] at HTB
  rw [hBB] at HM
  rw [hC] at hcl
  have HG := Lib.hid hg
  have HC := Lib.hid hC
  have HB := Lib.hid hBB
  clear IH hM hg hC hBB
  have HS := (Own.start w).lit ([] : List UInt8) #[] 5 rfl rfl (by simp)
  go_enter Try.func74, Try.ntmps74
  go_wp2
  go_loopw [0, 5, 6] (fun l n o wr => ∃ (r : List Lf) (A : Option Addr) (c nr cnt : Nat) (acc : List UInt8), l = .slice A nr c ∧ n = .int .i64 cnt ∧ nr ≤ 1000 ∧ cnt ≤ C ∧ acc.length ≤ 800000 ∧ Hid (nr = r.length) ∧ Hid (Rd w (.slice A nr c) r) ∧ Hid (∀ l ∈ r, LfG d l) ∧ Hid (acc ++ ((grps (keyAt d) r).map (gB (treeB f (d + 1)) d)).flatten = BB) ∧ Hid (cnt + (grps (keyAt d) r).length = C) ∧ Own w [.own o acc] wr) (fun l _ _ _ => slen l)
  case atStart => exact ⟨ls, A, c, ls.length, 0, [], rfl, rfl, hn, by omega, by simp, Lib.hid rfl, Lib.hid hv, HG, Lib.hid (by rw [List.nil_append]; exact HB.out), Lib.hid (by rw [Nat.zero_add]; exact HC.out), HS⟩
  case round =>
    obtain ⟨r, A, c, nr, cnt, acc, rfl, rfl, hrl, hcn, hal, HNR, HR, HLG, HE, HN, HS'⟩ := hrel
    clear HS hv
    have HS := HS'
    clear HS'
    cases r with
    | nil =>
      have HE2 := Lib.hid (show acc = BB by have := HE.out; rw [grps_nil] at this; simpa using this)
      have HN2 := Lib.hid (show cnt = C by have := HN.out; rw [grps_nil] at this; simpa using this)
      obtain rfl : nr = 0 := HNR.out
      go_wp2_with fail
      refine (l2Put2 _ _ (by omega)).mono ?_; rintro e w1 ⟨A9, c9, rfl, hs9⟩
      have H2 := HS.call hs9
      have hu := uv_len10 cnt (by omega)
      go_wp2_with (refine wp_app2 (α := UInt8) rfl _ _ 44 rfl (by kernel_rfl) _ _ H2 rfl _ _ rfl (H2.rd 1 rfl) (by show (_ + _) * 1 ≤ _; omega) (by omega) ?_; intro v2 q1 w2 hq1 hql1 H')
      have H3 := (H'.pick 1 rfl).drop
      obtain ⟨A5, c5, rfl, _, _⟩ := (H3.rd 0 rfl).val
      have HQ := Lib.hid (show q1 = treeB (f + 1) d ls by rw [hq1.out, HTB.out, HE2.out, HN2.out])
      go_ret
      exact ⟨A5, c5, by rw [← HQ.out]; rfl, by rw [← HQ.out]; exact H3⟩
    | cons x t =>
      have hnr : nr = t.length + 1 := by rw [HNR.out]; rfl
      have hnc : nr ≤ c := by
        obtain ⟨_, _, he, h2, _⟩ := HR.out.val
        injection he with _ h3 h4
        omega
      obtain ⟨b, o, rfl⟩ := HR.out.fix (by simp)
      have hx := HLG.out x (by simp)
      obtain ⟨g, hgg⟩ : ∃ g, x :: t.takeWhile (fun y => decide (keyAt d y = keyAt d x)) = g := ⟨_, rfl⟩
      obtain ⟨r', hrr⟩ : ∃ r', t.dropWhile (fun y => decide (keyAt d y = keyAt d x)) = r' := ⟨_, rfl⟩
      have htw : (x :: t).takeWhile (fun y => decide (keyAt d y = keyAt d x)) = g := by rw [List.takeWhile_cons_of_pos (by simp), hgg]
      have hdw : (x :: t).dropWhile (fun y => decide (keyAt d y = keyAt d x)) = r' := by rw [List.dropWhile_cons_of_pos (by simp), hrr]
      have ht1 : (x :: t).take g.length = g := by rw [← htw]; exact take_tw _ _
      have ht2 : (x :: t).drop g.length = r' := by rw [← htw, ← hdw]; exact drop_tw _ _
      have hgl : g.length ≤ nr := by rw [hnr, ← List.length_cons (a := x), ← htw]; exact (List.takeWhile_prefix _).length_le
      have hg0 : 0 < g.length := by rw [← hgg]; simp
      have hrl2 : r'.length ≤ 1000 := by rw [← ht2, List.length_drop, List.length_cons]; omega
      have hrlt : r'.length < nr := by rw [← ht2, List.length_drop, List.length_cons]; omega
      have hgbc := gBs_cons (treeB f (d + 1)) d x t
      have hgc := grps_cons (keyAt d) x t
      rw [hgg, hrr] at hgbc hgc
      have hE1 : (acc ++ gB (treeB f (d + 1)) d g) ++ ((grps (keyAt d) r').map (gB (treeB f (d + 1)) d)).flatten = BB := by rw [← HE.out, hgbc, List.append_assoc]
      have hN1 : (cnt + 1) + (grps (keyAt d) r').length = C := by rw [← HN.out, hgc, List.length_cons]; omega
      have hql : (acc ++ gB (treeB f (d + 1)) d g).length ≤ 800000 := by
        have h1 := HM.out
        have h2 := congrArg List.length hE1
        rw [List.length_append] at h2
        omega
      have hcn2 : cnt + 1 ≤ C := by omega
      have hgB : gB (treeB f (d + 1)) d g = (txt (nmAt x d) ++ [UInt8.ofNat (kdAt x d)]) ++ (if kdAt x d = 3 then treeB f (d + 1) g else uv g.length ++ lfsB (kdAt x d) g) := by subst hgg; rfl
      have hkg : ∀ l ∈ g, kdAt l d = kdAt x d := by
        intro l hl
        rw [← htw] at hl
        have := tw_imp _ _ _ hl
        have := congrArg Prod.snd (of_decide_eq_true this)
        exact this
      have hgm : ∀ l ∈ g, LfG d l := by
        intro l hl
        rw [← ht1] at hl
        exact HLG.out l (List.mem_of_mem_take hl)
      have hrm : Hid (∀ l ∈ r', LfG d l) := Lib.hid (by
        intro l hl
        rw [← ht2] at hl
        exact HLG.out l (List.mem_of_mem_drop hl))
      obtain ⟨A1, c1, A2, c2, hs1, hs2, HSUB⟩ := subLf (c := c) (some ⟨b, o, none⟩) (x :: t) g.length HNR.out hgl hnc
      rw [ht1] at hs1 HSUB
      rw [ht2] at hs2 HSUB
      have HL1 := Lib.hid (show Rd w (.slice A1 g.length c1) g ∧ Rd w (.slice A2 r'.length c2) r' from HSUB.out w HR.out)
      clear HSUB
      have HE1 := Lib.hid hE1
      have HN1 := Lib.hid hN1
      have HGB := Lib.hid hgB
      have HKG := Lib.hid hkg
      have HGM := Lib.hid hgm
      have HTK := Lib.hid ht1
      have HTW := Lib.hid htw
      have hnr0 : 0 < nr := by omega
      clear hnr hE1 hN1 hgB hkg hgm ht1 ht2 hgbc hgc hgg hrr htw hdw HE HN
      have hkd := kd_le x d
      have hnm := nm_size hx
      have hxd := hx.1
      have hx8 := hx.2.1
      obtain ⟨vp, hX⟩ := Lf.rd HR.out 0 (by simp)
      simp only [List.getElem_cons_zero, Nat.zero_mul, Nat.add_zero] at hX
      obtain ⟨Ap, cp, rfl, _, hlp⟩ := (hX w (Below.refl _ _)).1.val
      obtain ⟨bp, op, rfl⟩ := (hX w (Below.refl _ _)).1.fix (by omega)
      have hXN : ∀ w', Below w.heap.size w w' → w'.cell? ⟨bp, op + d, none⟩ = some (.string (nmAt x d)) := fun w' hb => by
        have := Sg.rd (hX w' hb).1 d hxd
        rw [this]; unfold nmAt; rw [List.getElem?_eq_getElem hxd]; rfl
      have HX := Lib.hid hX
      have HXN := Lib.hid hXN
      clear hX hXN
      go_wp2_with fail
      refine (l4Group2 x t _ g d _ (HS.old HR.out) HTW.out (fun l hl => (HLG.out l hl).1) (by omega)).mono ?_
      rintro e w1 ⟨rfl, hb1⟩
      have HS1 := HS.of_below hb1
      obtain ⟨hp, d0, d1, d2, d3, d4⟩ := HX.out _ HS1.below
      clear HS hb1
      go_wp2_with fail
      refine (l4Kind x _ _ d _ (by omega) (by omega)).mono ?_
      rintro e w2 ⟨rfl, hb2⟩
      have HS2 := HS1.of_below hb2
      clear hp d0 d1 d2 d3 d4 HS1 hb2
      obtain ⟨hp, d0, d1, d2, d3, d4⟩ := HX.out _ HS2.below
      have dn := HXN.out _ HS2.below
      obtain ⟨kk, hkk⟩ : ∃ k, kdAt x d = k := ⟨_, rfl⟩
      obtain ⟨nm, hnm2⟩ : ∃ n, nmAt x d = n := ⟨_, rfl⟩
      rw [hkk, hnm2] at HGB
      rw [hkk] at HKG hkd ⊢
      rw [hnm2] at hnm dn
      clear hkk hnm2
      have htl := txt_len nm 40 hnm (by omega)
      go_wp2_with fail
      refine (putTextQ nm _ (by omega)).mono ?_
      rintro e w3 ⟨A3, c3, rfl, hs3⟩
      have HS3 := (HS2.call hs3).pick 1 rfl
      clear hp d0 d1 d2 d3 d4 HS2 hs3 dn
      have hk3 := hkd.1
      have HRM := hrm
      clear hrm
      by_cases hke : kk = 3
      · have hkb : ((kk : Int) == 3) = true := by simp [hke]
        have HGB2 := Lib.hid (show gB (treeB f (d + 1)) d g = (txt nm ++ [UInt8.ofNat kk]) ++ treeB f (d + 1) g by rw [HGB.out, if_pos hke])
        have HGD := Lib.hid (show ∀ l ∈ g, LfG (d + 1) l from fun l hl => kd_deep (HGM.out l hl) ((HKG.out l hl).trans hke))
        have hT1 := hT.out g HGD.out (by omega)
        clear hke
        go_wp2_with (first | (refine wp_app2 (α := UInt8) rfl _ _ 44 rfl (by kernel_rfl) _ _ HS3 rfl _ _ rfl (HS3.rd 1 rfl) (by show (_ + _) * 1 ≤ _; omega) (by omega) ?_; intro v4 q4 w4 hq4 hql4 H'; have HS4 := (H'.pick 1 rfl).drop; have HL4 := (HS4.lit [UInt8.ofNat kk] #[.int .u8 (kk : Int)] 5 rfl (u8_lit kk hk3) (by simp)).pick 1 rfl; clear H' HS3 HS4) | (refine wp_app2 (α := UInt8) rfl _ _ 44 rfl (by kernel_rfl) _ _ HL4 rfl _ _ rfl (HL4.rd 1 rfl) (by show (_ + 1) * 1 ≤ _; omega) (by show _ + 1 ≤ _; omega) ?_; intro v5 q5 w5 hq5 hql5 H'; have HS5 := (H'.pick 1 rfl).drop; clear H' HL4; obtain ⟨A5, c5, rfl, _, _⟩ := (HS5.rd 0 rfl).val))
        refine (HIH.out g A1 c1 _ (HS5.old HL1.out.1) hg0 HGD.out (by omega)).mono ?_
        rintro e w6 ⟨A6, c6, rfl, hs6⟩
        have HS6 := (HS5.call hs6).pick 1 rfl
        have hq5l : q5.length ≤ 800060 := by simp only [List.length_cons, List.length_nil] at hql5; omega
        clear hql4 hql5 HS5 hs6
        go_wp2_with (refine wp_app2 (α := UInt8) rfl _ _ 44 rfl (by kernel_rfl) _ _ HS6 rfl _ _ rfl (HS6.rd 1 rfl) (by show (_ + _) * 1 ≤ _; omega) (by omega) ?_; intro v7 q7 w7 hq7 hql7 H'; have HS7 := (H'.pick 1 rfl).drop; clear H' HS6)
        have hq : q7 = acc ++ gB (treeB f (d + 1)) d g := by rw [hq7.out, hq5.out, hq4.out, HGB2.out]; simp only [List.append_assoc]
        have hq7l : q7.length ≤ 800000 := by rw [hq]; exact hql
        have HQ := Lib.hid hq
        clear hq
        go_roundw
        case rel => exact ⟨r', A2, c2, r'.length, cnt + 1, q7, rfl, by go_num, by omega, by omega, hq7l, Lib.hid rfl, Lib.hid HL1.out.2, HRM, Lib.hid (by rw [HQ.out]; exact HE1.out), HN1, HS7⟩
        case measure => simp [slen]; omega
      · have hkb : ((kk : Int) == 3) = false := by simp; omega
        have HGB2 := Lib.hid (show gB (treeB f (d + 1)) d g = (txt nm ++ [UInt8.ofNat kk]) ++ (uv g.length ++ lfsB kk g) by rw [HGB.out, if_neg hke])
        clear hke
        go_wp2_with (first | (refine wp_app2 (α := UInt8) rfl _ _ 44 rfl (by kernel_rfl) _ _ HS3 rfl _ _ rfl (HS3.rd 1 rfl) (by show (_ + _) * 1 ≤ _; omega) (by omega) ?_; intro v4 q4 w4 hq4 hql4 H'; have HS4 := (H'.pick 1 rfl).drop; have HL4 := (HS4.lit [UInt8.ofNat kk] #[.int .u8 (kk : Int)] 5 rfl (u8_lit kk hk3) (by simp)).pick 1 rfl; clear H' HS3 HS4) | (refine wp_app2 (α := UInt8) rfl _ _ 44 rfl (by kernel_rfl) _ _ HL4 rfl _ _ rfl (HL4.rd 1 rfl) (by show (_ + 1) * 1 ≤ _; omega) (by show _ + 1 ≤ _; omega) ?_; intro v5 q5 w5 hq5 hql5 H'; have HS5 := (H'.pick 1 rfl).drop; clear H' HL4; obtain ⟨A5, c5, rfl, _, _⟩ := (HS5.rd 0 rfl).val))
        refine (l2Put2 _ _ (by omega)).mono ?_
        rintro e w6 ⟨A6, c6, rfl, hs6⟩
        have HS6 := (HS5.call hs6).pick 1 rfl
        have hq5l : q5.length ≤ 800060 := by simp only [List.length_cons, List.length_nil] at hql5; omega
        have hu6 := uv_len10 g.length (by omega)
        clear hql4 hql5 HS5 hs6
        go_wp2_with (refine wp_app2 (α := UInt8) rfl _ _ 44 rfl (by kernel_rfl) _ _ HS6 rfl _ _ rfl (HS6.rd 1 rfl) (by show (_ + _) * 1 ≤ _; omega) (by omega) ?_; intro v7 q7 w7 hq7 hql7 H'; have HS7 := (H'.pick 1 rfl).drop; clear H' HS6)
        have HQ7 := Lib.hid (show q7 = acc ++ ((txt nm ++ [UInt8.ofNat kk]) ++ uv g.length) by rw [hq7.out, hq5.out, hq4.out]; simp only [List.append_assoc])
        have hq7l : q7.length ≤ 800100 := by omega
        clear hq4 hq5 hq7 hql7 hq5l
        go_loopw [6, 9] (fun o i wr => ∃ (j : Nat) (acc2 : List UInt8), j ≤ g.length ∧ i = .int .i64 j ∧ acc2.length ≤ 800100 + 230 * j ∧ Hid (acc2 = q7 ++ lfsB kk (g.take j)) ∧ Own w [.own o acc2] wr) (fun _ i _ => g.length - (intOf i).toNat)
        case atStart => exact ⟨0, q7, by omega, rfl, by omega, Lib.hid (by simp [lfsB]), HS7⟩
        case round =>
          obtain ⟨j, acc2, hj, rfl, ha2, HA2, HS⟩ := hrel
          clear HS7
          by_cases hjl : j < g.length
          · have hj2 : j < (x :: t).length := by rw [← HNR.out]; omega
            obtain ⟨vq, hY⟩ := Lf.rd HR.out j hj2
            have hyG := HLG.out _ (List.getElem_mem hj2)
            have hgj : g.take (j + 1) = g.take j ++ [(x :: t)[j]] := by
              have : g[j]? = some (x :: t)[j] := by
                conv => lhs; rw [← HTK.out]
                rw [List.getElem?_take_of_lt hjl, List.getElem?_eq_getElem hj2]
              rw [List.take_add_one, this]; rfl
            obtain ⟨y, hy⟩ : ∃ y, (x :: t)[j] = y := ⟨_, rfl⟩
            rw [hy] at hY hyG hgj
            clear hy hj2
            have HTJ := Lib.hid hgj
            have hlb := lfB_len kk hyG
            have htl2 := txt_len y.v 200 hyG.2.2.2.1 (by omega)
            have hyv := hyG.2.2.2.1
            obtain ⟨n1, e1⟩ : ∃ n : Nat, y.dr = n := ⟨y.dr.toNat, by have := hyG.2.2.2.2.1; omega⟩
            obtain ⟨n2, e2⟩ : ∃ n : Nat, y.ds = n := ⟨y.ds.toNat, by have := hyG.2.2.2.2.2; omega⟩
            have hn1 : n1 ≤ 8 := by have := hyG.2.2.2.2.1; omega
            have hn2 : n2 ≤ 1000000000 := by have := hyG.2.2.2.2.2; omega
            have HLB := Lib.hid (show lfB kk y = uv n1 ++ (uv n2 ++ (if kk = 1 then txt y.v else [])) by unfold lfB; rw [e1, e2]; rfl)
            rw [e1, e2] at hY
            have HY := Lib.hid hY
            have hu1 := uv_len10 n1 (by omega)
            have hu2 := uv_len10 n2 (by omega)
            have HFIN : Hid (∀ q : List UInt8, q = acc2 ++ lfB kk y → q.length ≤ 800100 + 230 * (j + 1) ∧ q = q7 ++ lfsB kk (g.take (j + 1))) := Lib.hid fun q hq => by
              refine ⟨by rw [hq, List.length_append]; omega, ?_⟩
              rw [hq, HTJ.out, lfsB_snoc, HA2.out, List.append_assoc]
            clear hgj hY e1 e2 hlb hyG
            obtain ⟨hp, d0, d1, d2, d3, d4⟩ := HY.out _ HS.below
            by_cases hk1 : kk = 1
            · have hkc : ((kk : Int) == 1) = true := by simp [hk1]
              have HLB := Lib.hid (show lfB kk y = uv n1 ++ (uv n2 ++ txt y.v) by rw [HLB.out, if_pos hk1])
              clear hk1
              go_wp2_with fail
              refine (l2Put2 _ _ (by omega)).mono ?_
              rintro e w8 ⟨A8, c8, rfl, hs8⟩
              have HS8 := (HS.call hs8).pick 1 rfl
              clear hp d0 d1 d2 d3 d4
              obtain ⟨hp, d0, d1, d2, d3, d4⟩ := HY.out _ HS8.below
              go_wp2_with (refine wp_app2 (α := UInt8) rfl _ _ 44 rfl (by kernel_rfl) _ _ HS8 rfl _ _ rfl (HS8.rd 1 rfl) (by show (_ + _) * 1 ≤ _; omega) (by omega) ?_; intro v9 q9 w9 hq9 hql9 H'; have HS9 := (H'.pick 1 rfl).drop; clear H' HS8 hp d0 d1 d2 d3 d4; obtain ⟨hp, d0, d1, d2, d3, d4⟩ := HY.out _ HS9.below)
              refine (l2Put2 _ _ (by omega)).mono ?_
              rintro e w10 ⟨A10, c10, rfl, hs10⟩
              have HS10 := (HS9.call hs10).pick 1 rfl
              clear hp d0 d1 d2 d3 d4
              obtain ⟨hp, d0, d1, d2, d3, d4⟩ := HY.out _ HS10.below
              go_wp2_with (refine wp_app2 (α := UInt8) rfl _ _ 44 rfl (by kernel_rfl) _ _ HS10 rfl _ _ rfl (HS10.rd 1 rfl) (by show (_ + _) * 1 ≤ _; omega) (by omega) ?_; intro v11 q11 w11 hq11 hql11 H'; have HS11 := (H'.pick 1 rfl).drop; clear H' HS10 hp d0 d1 d2 d3 d4; obtain ⟨hp, d0, d1, d2, d3, d4⟩ := HY.out _ HS11.below)
              refine (putTextQ y.v _ (by omega)).mono ?_
              rintro e w12 ⟨A12, c12, rfl, hs12⟩
              have HS12 := (HS11.call hs12).pick 1 rfl
              clear hp d0 d1 d2 d3 d4
              go_wp2_with (refine wp_app2 (α := UInt8) rfl _ _ 44 rfl (by kernel_rfl) _ _ HS12 rfl _ _ rfl (HS12.rd 1 rfl) (by show (_ + _) * 1 ≤ _; omega) (by omega) ?_; intro v13 q13 w13 hq13 hql13 H'; have HS13 := (H'.pick 1 rfl).drop; clear H' HS12)
              obtain ⟨hF1, hF2⟩ := HFIN.out q13 (by rw [hq13.out, hq11.out, hq9.out, HLB.out]; simp only [List.append_assoc, List.append_nil])
              have HF2 := Lib.hid hF2
              clear hF2
              go_roundw
              case rel => exact ⟨j + 1, q13, by omega, by go_num, hF1, HF2, HS13⟩
              case measure => simp [intOf]; omega
            · have hkc : ((kk : Int) == 1) = false := by simp; omega
              have HLB := Lib.hid (show lfB kk y = uv n1 ++ (uv n2 ++ []) by rw [HLB.out, if_neg hk1])
              clear hk1
              go_wp2_with fail
              refine (l2Put2 _ _ (by omega)).mono ?_
              rintro e w8 ⟨A8, c8, rfl, hs8⟩
              have HS8 := (HS.call hs8).pick 1 rfl
              clear hp d0 d1 d2 d3 d4
              obtain ⟨hp, d0, d1, d2, d3, d4⟩ := HY.out _ HS8.below
              go_wp2_with (refine wp_app2 (α := UInt8) rfl _ _ 44 rfl (by kernel_rfl) _ _ HS8 rfl _ _ rfl (HS8.rd 1 rfl) (by show (_ + _) * 1 ≤ _; omega) (by omega) ?_; intro v9 q9 w9 hq9 hql9 H'; have HS9 := (H'.pick 1 rfl).drop; clear H' HS8 hp d0 d1 d2 d3 d4; obtain ⟨hp, d0, d1, d2, d3, d4⟩ := HY.out _ HS9.below)
              refine (l2Put2 _ _ (by omega)).mono ?_
              rintro e w10 ⟨A10, c10, rfl, hs10⟩
              have HS10 := (HS9.call hs10).pick 1 rfl
              clear hp d0 d1 d2 d3 d4
              obtain ⟨hp, d0, d1, d2, d3, d4⟩ := HY.out _ HS10.below
              go_wp2_with (refine wp_app2 (α := UInt8) rfl _ _ 44 rfl (by kernel_rfl) _ _ HS10 rfl _ _ rfl (HS10.rd 1 rfl) (by show (_ + _) * 1 ≤ _; omega) (by omega) ?_; intro v11 q11 w11 hq11 hql11 H'; have HS11 := (H'.pick 1 rfl).drop; clear H' HS10 hp d0 d1 d2 d3 d4; obtain ⟨hp, d0, d1, d2, d3, d4⟩ := HY.out _ HS11.below)
              obtain ⟨hF1, hF2⟩ := HFIN.out q11 (by rw [hq11.out, hq9.out, HLB.out]; simp only [List.append_assoc, List.append_nil])
              have HF2 := Lib.hid hF2
              clear hF2
              go_roundw
              case rel => exact ⟨j + 1, q11, by omega, by go_num, hF1, HF2, HS11⟩
              case measure => simp [intOf]; omega
          · have HQ := Lib.hid (show acc2 = acc ++ gB (treeB f (d + 1)) d g by
              obtain rfl : j = g.length := by omega
              rw [HA2.out, HQ7.out, HGB2.out, List.take_length]; simp only [List.append_assoc])
            have hq7l : acc2.length ≤ 800000 := by rw [HQ.out]; exact hql
            go_wp2
            go_roundw
            case rel => exact ⟨r', A2, c2, r'.length, cnt + 1, acc2, rfl, by go_num, by omega, by omega, hq7l, Lib.hid rfl, Lib.hid HL1.out.2, HRM, Lib.hid (by rw [HQ.out]; exact HE1.out), HN1, HS⟩
            case measure => simp [slen]; omega
theorem l4Tree : ∀ (f d : Nat), f + d = 7 → ∀ (ls : List Lf) (A : Option Addr) (c : Nat) (w : World), Rd w (.slice A ls.length c) ls → (∀ l ∈ ls, LfG d l) → ls.length ≤ 1000 →
    Calls Try.prog 74 #[.slice A ls.length c, .int .i64 d] w fun e w' => ∃ A c, e = .returned (.slice A (treeB (f + 1) d ls).length c) ∧ Own w [.own (.slice A (treeB (f + 1) d ls).length c) (treeB (f + 1) d ls)] w'
  | 0, d, hd, ls, A, c, w, hv, hg, hn => l4TreeStep 0 d (by omega) (by omega) (fun gs A c w _ h0 hg' _ => by
      obtain ⟨x, t, rfl⟩ := List.exists_cons_of_length_pos h0
      have := hg' x (by simp)
      have h1 := this.1
      have h2 := this.2.1
      omega) ls A c w hv hg hn
  | f + 1, d, hd, ls, A, c, w, hv, hg, hn => l4TreeStep (f + 1) d (by omega) (by omega) (fun gs A c w hr _ hg' hn' => l4Tree f (d + 1) (by omega) gs A c w hr hg' hn') ls A c w hv hg hn
end Go.Proofs.Ytbcgbkeldcaalaa
