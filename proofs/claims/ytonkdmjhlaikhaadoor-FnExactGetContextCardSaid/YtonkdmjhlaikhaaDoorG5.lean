/- The cursor reads a context. -/
import Derived.Test.YtonkdmjhlaikhaaDoorG4
namespace Go.Proofs.YtonkdmjhlaikhaaDoor
set_option linter.unusedSimpArgs false
set_option linter.unusedVariables false
open Go.RowKit Go.Ow
attribute [local irreducible] wpQuiet
set_option maxRecDepth 100000
theorem runsOf_app : ∀ G H : List (Nat × List Sp), runsOf (G ++ H) = runsOf G ++ runsOf H
  | [], _ => rfl
  | (r, l) :: G, H => by rw [List.cons_append, runsOf, runsOf, runsOf_app, List.append_assoc]
theorem cxP_succ (bs : List UInt8) (n lo p cnt : Nat) (hp : p ≤ bs.length) (hc : cnt ≤ 1000) :
    cxP bs (n + 1) ((lo : Int) - 1) p cnt = (rdP bs p lo 7).bind fun a => (spO bs a.2 cnt).bind fun l => (cxP bs n (((a.1 + 1 : Nat) : Int) - 1) l.2 (cnt + l.1.length)).map fun c => ((a.1, l.1) :: c.1, c.2) := by
  rw [cxP, show ((lo : Int) - 1 + 1).toNat = lo by omega]
  cases ha : rdP bs p lo 7 with
  | none => rfl
  | some a =>
    obtain ⟨r, p1⟩ := a
    obtain ⟨_, _, a3, _, _⟩ := (rdP_iff bs p lo 7 r p1 hp (by omega)).1 ha
    rw [Option.bind_some, Option.bind_some]
    unfold spO
    simp only
    cases hm : rdP bs p1 1 1000 with
    | none => rfl
    | some m =>
      obtain ⟨m, p2⟩ := m
      obtain ⟨_, _, m3, _, _⟩ := (rdP_iff bs p1 1 1000 m p2 a3 (by omega)).1 hm
      rw [Option.bind_some, Option.bind_some]
      simp only
      cases hs : spP bs m (-1) p2 cnt with
      | none => rfl
      | some l =>
        obtain ⟨l, p3⟩ := l
        obtain ⟨e, _⟩ := (spP_iff bs m (-1) p2 cnt l p3 m3 (by omega) (by omega) hc).1 hs
        rw [Option.bind_some, Option.bind_some]
        simp only
        rw [e, show ((r + 1 : Nat) : Int) - 1 = (r : Int) by omega]
theorem spO_some {bs : List UInt8} {p cnt : Nat} {l : List Sp} {q : Nat} (hp : p ≤ bs.length) (hc : cnt ≤ 1000) (h : spO bs p cnt = some (l, q)) : q ≤ bs.length ∧ cnt + l.length ≤ 1000 := by
  unfold spO at h
  obtain ⟨⟨m, p2⟩, hm, h⟩ := Option.bind_eq_some_iff.1 h
  obtain ⟨_, _, m3, _, _⟩ := (rdP_iff bs p 1 1000 m p2 hp (by omega)).1 hm
  obtain ⟨e, _, h3, h4, _⟩ := (spP_iff bs m (-1) p2 cnt l q m3 (by omega) (by omega) hc).1 h
  exact ⟨h4, by omega⟩
def cxPost (W : World) (R : List Ds) (bc : Nat) (vb : Value) : Option (List Rn × Nat) → Ending → World → Prop
  | some (xs, q), e, w' => ∃ v', e = .returned (.tuple #[.agg #[v'], .nilIface]) ∧ Own W (Cur bc vb q :: .own v' xs :: R) w'
  | none, e, w' => ∃ (t : TypeId) (u : Value) (n : Int) (v' : Value) (ys : List Rn), e = .returned (.tuple #[.agg #[v'], .iface t u]) ∧ Own W (Cur bc vb n :: .own v' ys :: R) w'
set_option maxHeartbeats 4000000 in
theorem context {W : World} {R : List Ds} (a : Addr) (bs : List UInt8) (at_ bc : Nat) (vb : Value) (w : World) (HS : Own W (Cur bc vb at_ :: R) w) (hv : Rd W vb bs) (hg : Gs a W) (hat : at_ ≤ bs.length) :
    Calls Tryd.prog 36 #[.pointer (some ⟨bc, 0, none⟩)] w (cxPost W R bc vb (ctxI bs at_)) := by
  obtain ⟨o, ho⟩ : ∃ o, ctxI bs at_ = o := ⟨_, rfl⟩
  rw [ho]
  unfold ctxI at ho
  have HB : Own W (Cur bc vb at_ :: .box (w.heap.size + 1) 34 [.slice none 0 0] :: .own (.slice none 0 0) ([] : List Rn) :: .box w.heap.size 34 [.slice none 0 0] :: R) ((w.alloc (.cells #[.slice none 0 0] 34)).alloc (.cells #[.slice none 0 0] 34)) := by
    have H1 := ((HS.nil (α := Rn)).box0 [.slice none 0 0] 34).box0 [.slice none 0 0] 34
    simp only [World.size_alloc] at H1
    exact (((H1.pick 1 rfl).pick 2 rfl).pick 2 rfl).pick 3 rfl
  clear HS
  have FB := HB.facts
  simp only [Own.Facts, Own.Cells, Nat.zero_add] at FB
  cases hm : rdP bs at_ 0 8 with
  | none =>
    rw [hm] at ho
    obtain rfl : none = o := ho
    go_enter Tryd.func36, Tryd.ntmps36
    go_wp2_with fail
    refine (mostN a bs at_ bc 0 8 _ _ HB hv hg hat (by omega) (by omega) hm).mono ?_
    rintro e w1 ⟨t, u, n, rfl, H1⟩
    clear HB FB
    go_wp2
    go_loopw [6, 7, 8] (fun er la i wr => er = .iface t u ∧ Own W (Cur bc vb n :: .box (w.heap.size + 1) 34 [.slice none 0 0] :: .own (.slice none 0 0) ([] : List Rn) :: .box w.heap.size 34 [.slice none 0 0] :: R) wr) (fun _ _ _ _ => 0)
    case atStart => exact ⟨rfl, H1⟩
    case round =>
      obtain ⟨rfl, H2⟩ := hrel
      have F := H2.facts
      simp only [Own.Facts, Own.Cells, Nat.zero_add] at F
      have H3 := (H2.pick 3 rfl).set 0 (.slice none 0 0)
      have F3 := H3.facts
      simp only [Own.Facts, Own.Cells, List.eraseIdx_cons_succ, List.eraseIdx_cons_zero, Nat.zero_add] at F3
      go_wp2
      exact bodyPost_ret (v := .tuple #[.agg #[.slice none 0 0], .iface t u]) (by simp [results, Tryd.results36, go_sem, *]) rfl ⟨t, u, n, _, [], rfl, (H3.drop.pick 1 rfl).drop⟩
  | some mm =>
    obtain ⟨n, p0⟩ := mm
    rw [hm] at ho
    replace ho : (cxP bs n (-1) p0 0).map (fun c => (runsOf c.1, c.2)) = o := ho
    obtain ⟨_, n2, n3, _, _⟩ := (rdP_iff bs at_ 0 8 n p0 hat (by omega)).1 hm
    have HO := Lib.hid ho
    have HM := Lib.hid hm
    clear ho hm
    go_enter Tryd.func36, Tryd.ntmps36
    go_wp2_with fail
    refine (mostS a bs at_ bc 0 8 n p0 _ _ HB hv hg hat (by omega) (by omega) HM.out).mono ?_
    rintro e w1 ⟨rfl, H1⟩
    clear HB FB
    go_wp2
    go_loopw [6, 7, 8] (fun er la i wr => (∃ (j p lo : Nat) (va : Value) (acc : List Rn), er = .nilIface ∧ la = .int .i64 ((lo : Int) - 1) ∧ i = .int .i64 j ∧ j ≤ n ∧ p ≤ bs.length ∧ lo ≤ 8 ∧ acc.length ≤ 1000 ∧ Own W (Cur bc vb p :: .box (w.heap.size + 1) 34 [va] :: .own va acc :: .box w.heap.size 34 [.slice none 0 0] :: R) wr ∧ Hid (o = (cxP bs (n - j) ((lo : Int) - 1) p acc.length).map fun c => (acc ++ runsOf c.1, c.2))) ∨
      (∃ (t : TypeId) (u : Value) (k : Int) (j : Nat) (va : Value) (ys : List Rn), er = .iface t u ∧ i = .int .i64 j ∧ j ≤ n ∧ Hid (o = none) ∧ Own W (Cur bc vb k :: .box (w.heap.size + 1) 34 [va] :: .own va ys :: .box w.heap.size 34 [.slice none 0 0] :: R) wr)) (fun _ _ i _ => 9 - (intOf i).toNat)
    case atStart => exact .inl ⟨0, p0, 0, _, [], rfl, rfl, rfl, by omega, n3, by omega, by simp, H1, Lib.hid (by rw [← HO.out]; rfl)⟩
    case round =>
      rcases hrel with ⟨j, p, lo, va, acc, rfl, rfl, rfl, hj, hp, hlo, hal, H2, he⟩ | ⟨t, u, k, j, va, ys, rfl, rfl, hj, he, H2⟩
      · clear H1 HO
        obtain ⟨A, c, rfl, _, _⟩ := (H2.rd 2 rfl).val
        by_cases hlt : j < n
        · have HE := Lib.hid (show o = ((rdP bs p lo 7).bind fun a => (spO bs a.2 acc.length).bind fun l => (cxP bs (n - (j + 1)) (((a.1 + 1 : Nat) : Int) - 1) l.2 (acc.length + l.1.length)).map fun c => ((a.1, l.1) :: c.1, c.2)).map fun c => (acc ++ runsOf c.1, c.2) by
            rw [he.out, show n - j = (n - (j + 1)) + 1 by omega, cxP_succ bs _ lo p acc.length hp hal])
          clear he
          cases hr : rdP bs p lo 7 with
          | none =>
            have HF := Lib.hid (show o = none by rw [HE.out, hr]; rfl)
            have HR := Lib.hid hr
            clear hr HE
            go_wp2_with fail
            refine (mostN a bs p bc lo 7 _ _ H2 hv hg hp (by omega) (by omega) HR.out).mono ?_
            rintro e w3 ⟨t, u, k, rfl, H3⟩
            go_wp2
            go_roundw
            case rel => exact .inr ⟨t, u, k, j + 1, _, acc, rfl, by go_num, by omega, HF, H3⟩
            case measure => simp [intOf]; omega
          | some rr =>
            obtain ⟨r, p1⟩ := rr
            obtain ⟨_, r2, r3, _, _⟩ := (rdP_iff bs p lo 7 r p1 hp (by omega)).1 hr
            have HE2 := Lib.hid (show o = ((spO bs p1 acc.length).bind fun l => (cxP bs (n - (j + 1)) (((r + 1 : Nat) : Int) - 1) l.2 (acc.length + l.1.length)).map fun c => ((r, l.1) :: c.1, c.2)).map fun c => (acc ++ runsOf c.1, c.2) by rw [HE.out, hr]; rfl)
            have HR := Lib.hid hr
            clear hr HE
            go_wp2_with fail
            refine (mostS a bs p bc lo 7 r p1 _ _ H2 hv hg hp (by omega) (by omega) HR.out).mono ?_
            rintro e w3 ⟨rfl, H3⟩
            clear H2
            go_wp2_with fail
            refine (spans a bs p1 bc (w.heap.size + 1) r vb _ acc _ H3 hv hg r3 (by omega) hal).mono ?_
            cases hs : spO bs p1 acc.length with
            | none =>
              have HF := Lib.hid (show o = none by rw [HE2.out, hs]; rfl)
              rintro e w4 ⟨t, u, k, v', ys, rfl, H4⟩
              clear hs HE2 H3
              go_wp2
              go_roundw
              case rel => exact .inr ⟨t, u, k, j + 1, _, ys, rfl, by go_num, by omega, HF, H4⟩
              case measure => simp [intOf]; omega
            | some lq =>
              obtain ⟨l, q⟩ := lq
              obtain ⟨q1, q2⟩ := spO_some r3 hal hs
              rintro e w4 ⟨rfl, v', H4⟩
              have HF := Lib.hid (show o = (cxP bs (n - (j + 1)) (((r + 1 : Nat) : Int) - 1) q (acc.length + l.length)).map fun c => (acc ++ (runsG r l ++ runsOf c.1), c.2) by rw [HE2.out, hs, Option.bind_some, Option.map_map]; rfl)
              clear hs HE2 H3
              go_wp2
              go_roundw
              case rel => exact .inl ⟨j + 1, q, r + 1, v', acc ++ runsG r l, rfl, by go_num, by go_num, by omega, q1, by omega, by rw [List.length_append]; simp only [runsG, List.length_map]; omega, H4, Lib.hid (by rw [HF.out, List.length_append]; simp only [runsG, List.length_map, List.append_assoc])⟩
              case measure => simp [intOf]; omega
        · obtain rfl : j = n := by omega
          have HF := Lib.hid (show o = some (acc, p) by rw [he.out, Nat.sub_self, cxP]; simp [runsOf])
          clear he
          have F := H2.facts
          simp only [Own.Facts, Own.Cells, Nat.zero_add] at F
          have H3 := (H2.pick 3 rfl).set 0 (.slice A acc.length c)
          have F3 := H3.facts
          simp only [Own.Facts, Own.Cells, List.eraseIdx_cons_succ, List.eraseIdx_cons_zero, Nat.zero_add] at F3
          go_wp2
          rw [HF.out]
          exact bodyPost_ret (v := .tuple #[.agg #[.slice A acc.length c], .nilIface]) (by simp [results, Tryd.results36, go_sem, *]) rfl ⟨_, rfl, (H3.drop.pick 1 rfl).drop⟩
      · clear H1 HO
        obtain ⟨A, c, rfl, _, _⟩ := (H2.rd 2 rfl).val
        have F := H2.facts
        simp only [Own.Facts, Own.Cells, Nat.zero_add] at F
        have H3 := (H2.pick 3 rfl).set 0 (.slice A ys.length c)
        have F3 := H3.facts
        simp only [Own.Facts, Own.Cells, List.eraseIdx_cons_succ, List.eraseIdx_cons_zero, Nat.zero_add] at F3
        go_wp2
        rw [he.out]
        exact bodyPost_ret (v := .tuple #[.agg #[.slice A ys.length c], .iface t u]) (by simp [results, Tryd.results36, go_sem, *]) rfl ⟨t, u, k, _, ys, rfl, (H3.drop.pick 1 rfl).drop⟩
end Go.Proofs.YtonkdmjhlaikhaaDoor
