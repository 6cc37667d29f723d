/- The cursor reads a replica's spans. -/
import Derived.Test.YtonkdmjhlaikhaaDoorG3
import Derived.Test.YtonkdmjhlaikhaaDoorAp
namespace Go.Proofs.YtonkdmjhlaikhaaDoor
set_option linter.unusedSimpArgs false
set_option linter.unusedVariables false
open Go.RowKit Go.Ow
attribute [local irreducible] wpQuiet
set_option maxRecDepth 100000
abbrev Cur (bc : Nat) (vb : Value) (n : Int) : Ds := .box bc 61 [vb, .int .i64 n]
def spPost (W : World) (R : List Ds) (rep bc oc : Nat) (vb : Value) (xs : List Rn) : Option (List Sp × Nat) → Ending → World → Prop
  | some (l, q), e, w' => e = .returned .nilIface ∧ ∃ v', Own W (Cur bc vb q :: .box oc 34 [v'] :: .own v' (xs ++ runsG rep l) :: R) w'
  | none, e, w' => ∃ (t : TypeId) (u : Value) (n : Int) (v' : Value) (ys : List Rn), e = .returned (.iface t u) ∧ Own W (Cur bc vb n :: .box oc 34 [v'] :: .own v' ys :: R) w'
def spO (bs : List UInt8) (p cnt : Nat) : Option (List Sp × Nat) := (rdP bs p 1 1000).bind fun m => spP bs m.1 (-1) m.2 cnt
set_option maxHeartbeats 4000000 in
theorem spans {W : World} {R : List Ds} (a : Addr) (bs : List UInt8) (at_ bc oc rep : Nat) (vb vr : Value) (xs : List Rn) (w : World) (HS : Own W (Cur bc vb at_ :: .box oc 34 [vr] :: .own vr xs :: R) w) (hv : Rd W vb bs) (hg : Gs a W) (hat : at_ ≤ bs.length) (hr8 : rep < 8) (hx : xs.length ≤ 1000) :
    Calls Tryd.prog 62 #[.pointer (some ⟨bc, 0, none⟩), .int .i64 rep, .pointer (some ⟨oc, 0, none⟩)] w (spPost W R rep bc oc vb xs (spO bs at_ xs.length)) := by
  obtain ⟨o, ho⟩ : ∃ o, spO bs at_ xs.length = o := ⟨_, rfl⟩
  rw [ho]
  unfold spO at ho
  cases hm : rdP bs at_ 1 1000 with
  | none =>
    rw [hm] at ho
    obtain rfl : none = o := ho
    go_enter Tryd.func62, Tryd.ntmps62
    go_wp2_with fail
    refine (mostN a bs at_ bc 1 1000 _ _ HS hv hg hat (by omega) (by omega) hm).mono ?_
    rintro e w1 ⟨t, u, n, rfl, H1⟩
    go_wp2
    go_loopw [8, 9, 10] (fun er la i wr => er = .iface t u ∧ Own W (Cur bc vb n :: .box oc 34 [vr] :: .own vr xs :: R) wr) (fun _ _ _ _ => 0)
    case atStart => exact ⟨rfl, H1⟩
    case round =>
      obtain ⟨rfl, H2⟩ := hrel
      go_wp2
      go_ret
      exact ⟨t, u, n, vr, xs, rfl, H2⟩
  | some mm =>
    obtain ⟨m, p0⟩ := mm
    rw [hm] at ho
    replace ho : spP bs m (-1) p0 xs.length = o := ho
    obtain ⟨m1, m2, m3, m4, _⟩ := (rdP_iff bs at_ 1 1000 m p0 hat (by omega)).1 hm
    have HO := Lib.hid ho
    have HM := Lib.hid hm
    clear ho hm
    go_enter Tryd.func62, Tryd.ntmps62
    go_wp2_with fail
    refine (mostS a bs at_ bc 1 1000 m p0 _ _ HS hv hg hat (by omega) (by omega) HM.out).mono ?_
    rintro e w1 ⟨rfl, H1⟩
    clear HS
    go_wp2
    go_loopw [8, 9, 10] (fun er la i wr => ∃ (j p : Nat) (last : Int) (va : Value) (dn : List Sp) (acc : List Rn), er = .nilIface ∧ la = .int .i64 last ∧ i = .int .i64 j ∧ j ≤ m ∧ p ≤ bs.length ∧ -1 ≤ last ∧ last ≤ 1000000000 ∧ acc.length ≤ 1000 ∧ Hid (acc = xs ++ runsG rep dn) ∧ Own W (Cur bc vb p :: .box oc 34 [va] :: .own va acc :: R) wr ∧ Hid (o = (spP bs (m - j) last p acc.length).map fun c => (dn ++ c.1, c.2))) (fun _ _ i _ => 1000 - (intOf i).toNat)
    case atStart => exact ⟨0, p0, -1, vr, [], xs, rfl, rfl, rfl, by omega, m3, by omega, by omega, hx, Lib.hid (by simp [runsG]), H1, Lib.hid (by rw [← HO.out, Nat.sub_zero]; simp)⟩
    case round =>
      obtain ⟨j, p, last, va, dn, acc, rfl, rfl, rfl, hj, hp, hl1, hl2, hal, hacc, H2, he⟩ := hrel
      clear H1
      obtain ⟨A, c, rfl, _, _⟩ := (H2.rd 2 rfl).val
      by_cases hlt : j < m
      · have HE := Lib.hid (show o = ((rdP bs p 0 1000000000).bind fun a => (rdP bs a.2 0 1000000000).bind fun b =>
            if 1000000000 < last + 2 + a.1 + b.1 ∨ acc.length = 1000 then none else (spP bs (m - (j + 1)) (last + 2 + a.1 + b.1) b.2 (acc.length + 1)).map fun c => ((⟨last + 2 + a.1, last + 2 + a.1 + b.1⟩ : Sp) :: c.1, c.2)).map fun c => (dn ++ c.1, c.2) by
          rw [he.out, show m - j = (m - (j + 1)) + 1 by omega, spP])
        clear he HO
        cases hg1 : rdP bs p 0 1000000000 with
        | none =>
          have HF := Lib.hid (show o = none by rw [HE.out, hg1]; rfl)
          have HG1 := Lib.hid hg1
          clear hg1 HE
          go_wp2_with fail
          refine (mostN a bs p bc 0 1000000000 _ _ H2 hv hg hp (by omega) (by omega) HG1.out).mono ?_
          rintro e w3 ⟨t, u, n, rfl, H3⟩
          go_wp2
          go_ret
          rw [HF.out]
          exact ⟨t, u, n, _, acc, rfl, H3⟩
        | some g1 =>
          obtain ⟨g, p1⟩ := g1
          obtain ⟨_, a2, a3, _, _⟩ := (rdP_iff bs p 0 _ g p1 hp (by omega)).1 hg1
          have HE2 := Lib.hid (show o = ((rdP bs p1 0 1000000000).bind fun b =>
            if 1000000000 < last + 2 + g + b.1 ∨ acc.length = 1000 then none else (spP bs (m - (j + 1)) (last + 2 + g + b.1) b.2 (acc.length + 1)).map fun c => ((⟨last + 2 + g, last + 2 + g + b.1⟩ : Sp) :: c.1, c.2)).map fun c => (dn ++ c.1, c.2) by rw [HE.out, hg1]; rfl)
          have HG1 := Lib.hid hg1
          clear hg1 HE
          cases hg2 : rdP bs p1 0 1000000000 with
          | none =>
            have HF := Lib.hid (show o = none by rw [HE2.out, hg2]; rfl)
            have HG2 := Lib.hid hg2
            clear hg2 HE2
            go_wp2_with fail
            refine (mostS a bs p bc 0 1000000000 g p1 _ _ H2 hv hg hp (by omega) (by omega) HG1.out).mono ?_
            rintro e w3 ⟨rfl, H3⟩
            clear H2
            go_wp2_with fail
            refine (mostN a bs p1 bc 0 1000000000 _ _ H3 hv hg a3 (by omega) (by omega) HG2.out).mono ?_
            rintro e w4 ⟨t, u, n, rfl, H4⟩
            go_wp2
            go_ret
            rw [HF.out]
            exact ⟨t, u, n, _, acc, rfl, H4⟩
          | some g2 =>
            obtain ⟨s, p2⟩ := g2
            obtain ⟨_, b2, b3, _, _⟩ := (rdP_iff bs p1 0 _ s p2 a3 (by omega)).1 hg2
            have HE3 := Lib.hid (show o = (if 1000000000 < last + 2 + g + s ∨ acc.length = 1000 then none else (spP bs (m - (j + 1)) (last + 2 + g + s) p2 (acc.length + 1)).map fun c => ((⟨last + 2 + g, last + 2 + g + s⟩ : Sp) :: c.1, c.2)).map fun c => (dn ++ c.1, c.2) by rw [HE2.out, hg2]; rfl)
            have HG2 := Lib.hid hg2
            clear hg2 HE2
            by_cases hbig : 1000000000 < last + 2 + g + s
            · have HF := Lib.hid (show o = none by rw [HE3.out, if_pos (.inl hbig)]; rfl)
              go_wp2_with fail
              refine (mostS a bs p bc 0 1000000000 g p1 _ _ H2 hv hg hp (by omega) (by omega) HG1.out).mono ?_
              rintro e w3 ⟨rfl, H3⟩
              clear H2
              go_wp2_with fail
              refine (mostS a bs p1 bc 0 1000000000 s p2 _ _ H3 hv hg a3 (by omega) (by omega) HG2.out).mono ?_
              rintro e w4 ⟨rfl, H4⟩
              clear H3
              have F := H4.facts
              simp only [Own.Facts, Own.Cells, Nat.zero_add] at F
              go_wp2
              go_ret
              rw [HF.out]
              exact ⟨_, _, _, _, acc, rfl, H4⟩
            · by_cases hfull : acc.length = 1000
              · have HF := Lib.hid (show o = none by rw [HE3.out, if_pos (.inr hfull)]; rfl)
                have hd : ((acc.length : Int) == 1000) = true := by simp; omega
                go_wp2_with fail
                refine (mostS a bs p bc 0 1000000000 g p1 _ _ H2 hv hg hp (by omega) (by omega) HG1.out).mono ?_
                rintro e w3 ⟨rfl, H3⟩
                clear H2
                go_wp2_with fail
                refine (mostS a bs p1 bc 0 1000000000 s p2 _ _ H3 hv hg a3 (by omega) (by omega) HG2.out).mono ?_
                rintro e w4 ⟨rfl, H4⟩
                clear H3
                have F := H4.facts
                simp only [Own.Facts, Own.Cells, Nat.zero_add] at F
                clear hfull
                go_wp2
                go_ret
                rw [HF.out]
                exact ⟨_, _, _, _, acc, rfl, H4⟩
              · have hd : ((acc.length : Int) == 1000) = false := by simp; omega
                have HE4 := Lib.hid (show o = ((spP bs (m - (j + 1)) (last + 2 + g + s) p2 (acc.length + 1)).map fun c => ((⟨last + 2 + g, last + 2 + g + s⟩ : Sp) :: c.1, c.2)).map fun c => (dn ++ c.1, c.2) by rw [HE3.out, if_neg (by omega)])
                clear HE3
                go_wp2_with fail
                refine (mostS a bs p bc 0 1000000000 g p1 _ _ H2 hv hg hp (by omega) (by omega) HG1.out).mono ?_
                rintro e w3 ⟨rfl, H3⟩
                clear H2
                go_wp2_with fail
                refine (mostS a bs p1 bc 0 1000000000 s p2 _ _ H3 hv hg a3 (by omega) (by omega) HG2.out).mono ?_
                rintro e w4 ⟨rfl, H4⟩
                clear H3
                have F := H4.facts
                simp only [Own.Facts, Own.Cells, Nat.zero_add] at F
                have HL := ((H4.lit [(⟨rep, last + 2 + g, last + 2 + g + s⟩ : Rn)] #[.int .i64 rep, .int .i64 (last + 2 + g), .int .i64 (last + 2 + g + s)] 107 rfl rfl (by simp)).pick 3 rfl)
                clear H4
                go_wp2_with (refine wp_app2 (α := Rn) rfl _ _ 32 rfl (by kernel_rfl) _ _ HL rfl _ _ rfl (HL.rd 1 rfl) (by show (_ + 1) * 24 ≤ _; omega) (by show _ + 1 ≤ _; omega) ?_; clear HL F; intro v5 q5 w5 hq5 hl5 H5; obtain ⟨A5, c5, rfl, _, _⟩ := (H5.rd 0 rfl).val; have F := H5.facts; simp only [Own.Facts, Own.Cells, List.eraseIdx_cons_succ, List.eraseIdx_cons_zero, Nat.zero_add] at F)
                have H6 := (((H5.pick 1 rfl).drop.pick 2 rfl).set 0 (.slice A5 q5.length c5)).pick 2 rfl
                have HQ := Lib.hid hl5
                clear hl5 F
                go_roundw
                case rel => exact ⟨j + 1, p2, last + 2 + g + s, _, dn ++ [⟨last + 2 + g, last + 2 + g + s⟩], q5, rfl, rfl, by go_num, by omega, b3, by omega, by omega, by have := HQ.out; simp only [List.length_cons, List.length_nil] at this; omega, Lib.hid (by rw [hq5.out, hacc.out]; simp [runsG]), H6, Lib.hid (by rw [HE4.out, hq5.out, List.length_append, Option.map_map]; congr 1; funext c; simp)⟩
                case measure => simp [intOf]; omega
      · obtain rfl : j = m := by omega
        have HF := Lib.hid (show o = some (dn, p) by rw [he.out, Nat.sub_self, spP]; simp)
        clear he HO
        go_wp2
        go_ret
        rw [HF.out]
        exact ⟨rfl, _, by rw [← hacc.out]; exact H2⟩
end Go.Proofs.YtonkdmjhlaikhaaDoor
