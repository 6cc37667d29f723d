/- A live state put down: its leaves in order, its context. -/
import Derived.Test.YtkafflbakgkpcaaGreatSL
import Derived.Test.YtkafflbakgkpcaaGreatVb
import Derived.Test.YtkafflbakgkpcaaGreatJ3
import Derived.Test.YtkafflbakgkpcaaGreatHa
import Derived.Shelf.SlSortCmp.NoneTotal
/-FR-/
namespace Go.Proofs.YtkafflbakgkpcaaGreat
set_option linter.unusedSimpArgs false
set_option linter.unusedVariables false
open Go.RowKit Go.Ow Go.MapKept
attribute [local irreducible] wpQuiet
set_option maxRecDepth 100000
instance instPfE : ElZ Tryz.prog Pf := { bytes := 64, info := El.of (by kernel_rfl), zero := ⟨⟨none, 0, 0⟩, lf0⟩, infoz := ElZ.of (by kernel_rfl) }
theorem clonePath (xs : List ByteArray) (v : Value) (w : World) (hv : Rd w v xs) (hn : xs.length ≤ 1048576) : Calls Tryz.prog 89 #[v] w fun e w' => ∃ A c, e = .returned (.slice A xs.length c) ∧ Own w [.own (.slice A xs.length c) xs] w' := by
  obtain ⟨A, c, rfl, hc, hl⟩ := hv.val
  have hq := fun w => Lib.run_eql_slice_nil (P := Tryz.prog) w 28 9 A xs.length c 0 0 Tryz.underlying28
  cases A with
  | none =>
    obtain ⟨_, _, he, _, _, _, hA, _⟩ := id hv
    injection he with he1 he2 he3
    subst he1 he3
    obtain rfl : xs = [] := List.eq_nil_of_length_eq_zero (by have := hA rfl; omega)
    obtain rfl : c = 0 := hA rfl
    have hq0 : ∀ w, (binOp .eql 28 (.slice none 0 0) (.slice none 0 0)).run Tryz.prog w = .ok (.bool true) w := hq
    clear hq
    show Calls Tryz.prog 89 #[.slice none 0 0] w _
    go_enter Tryz.func89, Tryz.ntmps89
    go_wp2
    go_ret
    exact ⟨none, 0, rfl, (Own.start w).nil⟩
  | some a =>
    have HL := (Own.start w).lit ([] : List ByteArray) #[] 9 rfl rfl (by simp)
    go_enter Tryz.func89, Tryz.ntmps89
    go_wp2_with (refine wp_app2 (α := ByteArray) rfl _ _ 28 rfl (by kernel_rfl) _ _ HL rfl _ _ rfl (HL.old hv) (by show (0 + _) * 16 ≤ _; omega) (by show 0 + _ ≤ _; omega) ?_; clear HL; intro v2 q w2 hq hql H2)
    obtain ⟨A5, c5, rfl, _, _⟩ := (H2.rd 0 rfl).val
    have HQ := Lib.hid (show q = xs by rw [hq.out]; rfl)
    go_ret
    exact ⟨A5, c5, by rw [← HQ.out]; rfl, by rw [← HQ.out]; exact H2⟩
theorem perm_in4 {a b c d e : Ds} {X Y : List Ds} : (a :: b :: c :: d :: e :: (X ++ Y)).Perm (b :: c :: d :: e :: ((X ++ [a]) ++ Y)) := by
  have h1 : b :: c :: d :: e :: ((X ++ [a]) ++ Y) = ([b, c, d, e] ++ X) ++ a :: Y := by simp
  rw [h1]
  have h2 : a :: b :: c :: d :: e :: (X ++ Y) = a :: (([b, c, d, e] ++ X) ++ Y) := by simp
  rw [h2]
  exact List.perm_middle.symm
theorem perm_own {a b c : Ds} {X Y : List Ds} : (a :: b :: c :: (X ++ Y)).Perm (b :: (X ++ (a :: c :: Y))) := by
  refine (List.Perm.swap _ _ _).trans (List.Perm.cons _ ?_)
  have h1 : a :: c :: (X ++ Y) = [a, c] ++ (X ++ Y) := rfl
  have h2 : X ++ (a :: c :: Y) = X ++ ([a, c] ++ Y) := rfl
  rw [h1, h2, ← List.append_assoc, ← List.append_assoc]
  exact List.Perm.append_right Y List.perm_append_comm
set_option maxHeartbeats 4000000 in
theorem treeState {W0 : World} {R : List Ds} (g : List (Int × List Sp)) (es : Array MapEntry) (clock b1 b2 : Nat) (zs : List Pf) (w : World) (HS : Own W0 (.lm b2 zs :: .mapf es clock b1 g :: R) w) (hat : ∀ z ∈ zs, Pf.at_ W0 z) (hd : ∀ z ∈ zs, dotIn z.l) (hp : ∀ z ∈ zs, z.l.p.length ≤ 1048576) (hn : zs.length ≤ 1048576) (hlen : (runsN g 8 0).length ≤ 4194304) :
    Calls Tryz.prog 65 #[.agg #[.map (some b2), .map (some b1)]] w fun e w' => ∃ vl vc L, e = .returned (.agg #[vl, vc]) ∧ L.Perm (zs.map (·.l)) ∧ (∀ i j (_ : i < j) (hj : j < L.length), before L[j] (L[i]'(by omega)) = false) ∧ Own W0 (.own vl L :: .own vc (runsN g 8 0) :: .lm b2 zs :: .mapf es clock b1 g :: R) w' := by
  have HAT := Lib.hid hat
  have HD := Lib.hid hd
  have HP := Lib.hid hp
  clear hat hd hp
  replace HS := ((HS.box (b := w.heap.size) [.map (some b2), .map (some b1)] 98).box (b := w.heap.size + 1) [.slice none 0 0, .slice none 0 0] 36)
  obtain ⟨sz, hsz⟩ : ∃ n, w.heap.size = n := ⟨_, rfl⟩
  go_enter Tryz.func65, Tryz.ntmps65
  rw [hsz] at HS
  go_wp2_with fail
  clear hsz
  refine (contextCloud g es clock b1 _ (HS.pick 3 rfl) hlen).mono ?_
  rintro e w1 ⟨vc, rfl, H1⟩
  obtain ⟨rs, hrs⟩ : ∃ rs, runsN g 8 0 = rs := ⟨_, rfl⟩
  rw [hrs] at H1
  have HRS := Lib.hid hrs
  clear hrs hlen
  obtain ⟨A1, c1, rfl, _, _⟩ := (H1.rd 0 rfl).val
  simp only [List.eraseIdx_cons_succ, List.eraseIdx_cons_zero] at H1
  have H2 := (H1.box (b := w1.heap.size) [.slice none 0 0, .slice A1 rs.length c1] 36)
  have F := (H2.pick 4 rfl).only.facts
  simp only [Own.Facts, Ds.map, Ds.mapf, Own.Cells, Nat.zero_add, and_true] at F
  have H3 := H2.pick 5 rfl
  simp only [List.eraseIdx_cons_succ, List.eraseIdx_cons_zero] at H3
  obtain ⟨em, ck, H4⟩ := H3.lmKeep
  clear H1 H2 H3 HS
  obtain ⟨b3, hb3⟩ : ∃ b3, w1.heap.size = b3 := ⟨_, rfl⟩
  go_wp2_with (refine wp_rangeL rfl _ rfl Tryz.underlying96 H4 rfl ?_; intro w2 HI)
  simp only [World.size_alloc] at HI
  rw [hb3] at HI
  have hrr : (w1.alloc (.cells #[.slice none 0 0, .slice A1 rs.length c1] 36)).heap.size = b3 + 1 := by rw [World.size_alloc, hb3]
  rw [hrr]
  clear hrr hb3
  have HX := (((HI.pick 2 rfl).nil (α := Pf)).pick 3 rfl).pick 3 rfl
  simp only [List.eraseIdx_cons_succ, List.eraseIdx_cons_zero] at HX
  have HE0 := Lib.hid (ents_start H4)
  obtain ⟨R3, hR3⟩ : ∃ R3, Ds.own (.slice A1 rs.length c1) rs :: .mapf es clock b1 g :: .box (sz + 1) 36 [.slice none 0 0, .slice none 0 0] :: .box sz 98 [.map (some b2), .map (some b1)] :: R = R3 := ⟨_, rfl⟩
  rw [hR3] at HX
  have HR3 := Lib.hid hR3
  clear hR3 HI H4 F
  go_frame
  go_loopw [13] (fun _ wr => ∃ (seen : Array Nat) (left ys : List Pf) (u : Value), ys.length ≤ 1048576 ∧ Hid ((ys.map (·.l) ++ left.map (·.l)).Perm (zs.map (·.l))) ∧ Hid (Ents (leftOf em seen).toList left) ∧ Hid (∀ z ∈ left, z ∈ zs) ∧ Own W0 (.iter (b3 + 1) b2 ck seen :: .lmf em ck b2 zs :: .own u ys :: .box b3 36 [u, .slice A1 rs.length c1] :: (ys.map pown ++ R3)) wr) (fun _ wr => rleft em (b3 + 1) wr)
  case atStart => exact ⟨#[], zs, [], _, by simp, Lib.hid (List.Perm.refl _), HE0, Lib.hid (fun z h => h), HX⟩
  case round =>
    obtain ⟨seen, left, ys, u, hyl, HPM, HEN, HSB, HS⟩ := hrel
    clear HX
    go_wp2_with (refine wp_nextL rfl _ rfl HS rfl HEN.out ?_ ?_)
    · intro hd
      subst hd
      obtain ⟨Au, cu, rfl, _, _⟩ := (HS.rd 2 rfl).val
      have hpm : (ys.map (·.l)).Perm (zs.map (·.l)) := by simpa using HPM.out
      have HS2 := HS.drop
      have F := (HS2.pick 2 rfl).only.facts
      simp only [Own.Facts, Ds.map, Ds.mapf, Own.Cells, Nat.zero_add, and_true] at F
      have HS3 := HS2.perm perm_own
      have HDY := Lib.hid (show ∀ z ∈ ys, dotIn z.l from fun z hz => by
        have : z.l ∈ zs.map (·.l) := hpm.mem_iff.1 (List.mem_map.2 ⟨z, hz, rfl⟩)
        obtain ⟨y, hy, he⟩ := List.mem_map.1 this
        rw [← he]; exact HD.out y hy)
      have HPM2 := Lib.hid hpm
      clear hpm HS2
      have hR3 := HR3.out
      by_cases hy0 : 0 < ys.length
      · obtain ⟨g0, hg0⟩ := HS3.fix hy0
        subst hg0
        have hpv : ∀ z ∈ ys, PvP _ g0 z := fun z hz => ⟨HDY.out z hz, HS3.pown_apart z hz⟩
        have HPV := Lib.hid hpv
        clear hpv
        go_wp2_with fail
        refine (sortLeaves ys g0 cu HPV.out HS3).mono ?_
        rintro e w4 ⟨rfl, zs', hp1, hp2, H4⟩
        have H5 := (Own.pown_perm hp1.symm H4).deepen
        obtain ⟨L, hL⟩ : ∃ L, zs'.map (·.l) = L := ⟨_, rfl⟩
        have hLp : L.Perm (zs.map (·.l)) := by rw [← hL]; exact (hp1.map (·.l)).trans HPM2.out
        have hLs : ∀ i j (_ : i < j) (hj : j < L.length), before L[j] (L[i]'(by omega)) = false := by
          subst hL
          intro i j hij hj
          have := hp2 i j hij (by simpa using hj)
          simpa using this
        rw [hL] at H5
        clear hL hp1 hp2 H4 HS3 HS F HPV
        rw [← hR3] at H5
        have H8 := H5
        clear H5 hR3
        have F := (H8.pick 2 rfl).only.facts
        simp only [Own.Facts, Ds.map, Ds.mapf, Own.Cells, Nat.zero_add, and_true] at F
        have F2 := (H8.pick 5 rfl).only.facts
        simp only [Own.Facts, Ds.map, Ds.mapf, Own.Cells, Nat.zero_add, and_true] at F2
        have HLP := Lib.hid (And.intro hLp hLs)
        clear hLp hLs
        go_wp2
        have H9 := (((H8.pick 5 rfl).set 0 (.slice (some ⟨g0, 0, none⟩) ys.length cu)).set 1 (.slice A1 rs.length c1)).drop
        simp only [List.eraseIdx_cons_succ, List.eraseIdx_cons_zero] at H9
        have H10 := (((H9.pick 2 rfl).drop.pick 4 rfl).drop.pick 1 rfl).lmUnkeep
        have H11 := (H10.pick 2 rfl).pick 2 rfl
        simp only [List.eraseIdx_cons_succ, List.eraseIdx_cons_zero] at H11
        exact bodyPost_ret (v := .agg #[.slice (some ⟨g0, 0, none⟩) ys.length cu, .slice A1 rs.length c1]) (by simp [results, Tryz.results65, go_sem, *]) rfl ⟨_, _, L, rfl, HLP.out.1, HLP.out.2, by rw [HRS.out]; exact H11⟩
      · obtain rfl : ys = [] := List.eq_nil_of_length_eq_zero (by omega)
        have hcon := fun w => Go.Proofs.AnyF.slices_SortFunc_none Tryz.sortLf Au cu (.func (.func 59) #[] #[]) w
        go_wp2_with fail
        refine (show Calls Tryz.prog 90 _ _ _ from hcon _).mono ?_
        rintro e w4 ⟨rfl, rfl⟩
        have H5 := HS3.deepen
        have hLp : ([] : List Lf).Perm (zs.map (·.l)) := HPM2.out
        have hLs : ∀ i j (_ : i < j) (hj : j < ([] : List Lf).length), before ([] : List Lf)[j] (([] : List Lf)[i]'(by omega)) = false := fun i j _ hj => by simp at hj
        clear hcon HS3 HS F
        simp only [List.map_nil] at H5
        rw [← hR3] at H5
        have H8 := H5
        clear H5 hR3
        have F := (H8.pick 2 rfl).only.facts
        simp only [Own.Facts, Ds.map, Ds.mapf, Own.Cells, Nat.zero_add, and_true] at F
        have F2 := (H8.pick 5 rfl).only.facts
        simp only [Own.Facts, Ds.map, Ds.mapf, Own.Cells, Nat.zero_add, and_true] at F2
        have HLP := Lib.hid (And.intro hLp hLs)
        clear hLp hLs
        go_wp2
        have H9 := (((H8.pick 5 rfl).set 0 (.slice Au 0 cu)).set 1 (.slice A1 rs.length c1)).drop
        simp only [List.eraseIdx_cons_succ, List.eraseIdx_cons_zero] at H9
        have H10 := (((H9.pick 2 rfl).drop.pick 4 rfl).drop.pick 1 rfl).lmUnkeep
        have H11 := (H10.pick 2 rfl).pick 2 rfl
        simp only [List.eraseIdx_cons_succ, List.eraseIdx_cons_zero] at H11
        exact bodyPost_ret (v := .agg #[.slice Au 0 cu, .slice A1 rs.length c1]) (by simp [results, Tryz.results65, go_sem, *]) rfl ⟨_, _, [], rfl, HLP.out.1, HLP.out.2, by rw [HRS.out]; exact H11⟩
    · intro z left' x w' hpm hen2 HI2 hen
      have hz := HSB.out z (hpm.mem_iff.2 (by simp))
      have HSB2 := Lib.hid (show ∀ y ∈ left', y ∈ zs from fun y hy => HSB.out y (hpm.mem_iff.2 (by simp [hy])))
      have hlen2 : ys.length + left'.length + 1 ≤ 1048576 := by
        have h1 := HPM.out.length_eq
        have h2 := hpm.length_eq
        simp only [List.length_append, List.length_map, List.length_cons] at h1 h2
        omega
      have HPZ := Lib.hid (show ((ys.map (·.l) ++ [z.l]) ++ left'.map (·.l)).Perm (zs.map (·.l)) by
        refine List.Perm.trans ?_ HPM.out
        rw [List.append_assoc]
        exact List.Perm.append_left _ (by simpa using (hpm.map (·.l)).symm))
      have HLT := Lib.hid (show left'.length < left.length by rw [hpm.length_eq]; simp)
      have HE2 := Lib.hid hen2
      have hatz := HAT.out z hz
      have hpz := HP.out z hz
      clear hpm hen2 hz
      obtain ⟨⟨Az, nz, cz⟩, ⟨zp, zf, zr, zd, zv⟩⟩ := z
      simp only [Pf.at_, Sv.v] at hatz hpz
      obtain rfl : nz = zp.length := hatz.len
      obtain ⟨Au, cu, rfl, _, _⟩ := (HI2.rd 2 rfl).val
      simp only [dotv, dotP, lfv, Sv.v] at hen ⊢
      have HB := HI2.box (b := w'.heap.size) [.slice Az zp.length cz, .bool zf, .int .i64 zr, .int .i64 zd, .string zv] 57
      have F := HB.only.facts
      simp only [Own.Facts, Ds.map, Ds.mapf, Own.Cells, Nat.zero_add, and_true] at F
      go_wp2_with fail
      refine (clonePath zp _ _ (HB.old hatz) hpz).mono ?_
      rintro e w3 ⟨A3, c3, rfl, hs⟩
      have H3 := (HB.call hs).pick 1 rfl
      simp only [List.cons_append, List.nil_append, List.eraseIdx_cons_succ, List.eraseIdx_cons_zero] at H3
      have F2 := H3.only.facts
      simp only [Own.Facts, Ds.map, Ds.mapf, Own.Cells, Nat.zero_add, and_true] at F2
      have H4 := H3.set 0 (.slice A3 zp.length c3)
      simp only [List.set_cons_zero] at H4
      clear F hs HB HI2 hatz hen H3
      have F3 := (H4.pick 5 rfl).only.facts
      simp only [Own.Facts, Ds.map, Ds.mapf, Own.Cells, Nat.zero_add, and_true] at F3
      have F4 := H4.only.facts
      simp only [Own.Facts, Ds.map, Ds.mapf, Own.Cells, Nat.zero_add, and_true] at F4
      have HL := (H4.lit [(⟨⟨A3, zp.length, c3⟩, ⟨zp, zf, zr, zd, zv⟩⟩ : Pf)] #[.slice A3 zp.length c3, .bool zf, .int .i64 zr, .int .i64 zd, .string zv] 57 rfl rfl (by simp)).pick 5 rfl
      have hsz3 : (w3.setCell ⟨w'.heap.size, 0, none⟩ (.slice A3 zp.length c3)).heap.size = w3.heap.size := by simp [World.setCell]
      rw [hsz3] at HL
      simp only [List.eraseIdx_cons_succ, List.eraseIdx_cons_zero] at HL
      clear hsz3
      go_wp2_with (refine wp_app2 (α := Pf) rfl _ _ 31 rfl (by kernel_rfl) _ _ HL rfl _ _ rfl (HL.rd 1 rfl) (by show (_ + 1) * 64 ≤ _; omega) (by show _ + 1 ≤ _; omega) ?_; clear HL F2 F3 F4; intro v5 q5 w5 hq5 hql5 H5; obtain ⟨A5, c5, rfl, _, _⟩ := (H5.rd 0 rfl).val; have F5 := (H5.pick 6 rfl).only.facts; simp only [Own.Facts, Ds.map, Ds.mapf, Own.Cells, Nat.zero_add, and_true] at F5)
      have H6 := (H5.pick 6 rfl).set 0 (.slice A5 q5.length c5)
      simp only [List.eraseIdx_cons_succ, List.eraseIdx_cons_zero, List.set_cons_zero] at H6
      have H7 := ((((((H6.pick 2 rfl).drop.pick 2 rfl).drop.pick 1 rfl).pick 4 rfl).pick 4 rfl).pick 4 rfl).perm perm_in4
      have hq6 := hq5.out
      have hql6 : q5.length ≤ 1048576 := by rw [hq6]; simp; omega
      have HW : Own W0 (.iter (b3 + 1) b2 ck (seen.push x) :: .lmf em ck b2 zs :: .own (.slice A5 q5.length c5) q5 :: .box b3 36 [.slice A5 q5.length c5, .slice A1 rs.length c1] :: (q5.map pown ++ R3)) (w5.setCell ⟨b3, 0, none⟩ (.slice A5 q5.length c5)) := by
        have e : q5.map pown = ys.map pown ++ [.own (.slice A3 zp.length c3) zp] := by rw [hq6, List.map_append]; rfl
        rw [e]
        exact H7
      have HPQ := Lib.hid (show (q5.map (·.l) ++ left'.map (·.l)).Perm (zs.map (·.l)) by rw [hq6, List.map_append]; exact HPZ.out)
      clear H5 H6 H7 hq5 hq6 hql5 H4
      go_roundw
      case rel => exact ⟨seen.push x, left', q5, _, hql6, HPQ, HE2, HSB2, HW⟩
      case measure =>
        rw [HW.rleftL HE2.out, HS.rleftL HEN.out]
        exact HLT.out
end Go.Proofs.YtkafflbakgkpcaaGreat
