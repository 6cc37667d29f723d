/- GetContext: the reference's reader. -/
import Derived.Test.YtonkdmjhlaikhaaDoorG7
import Derived.Test.YtonkdmjhlaikhaaDoorAp
namespace Go.Proofs.YtonkdmjhlaikhaaDoor
set_option linter.unusedSimpArgs false
set_option linter.unusedVariables false
open Go.RowKit Go.Ow
attribute [local irreducible] wpQuiet
set_option maxRecDepth 100000
def spS (bs : List UInt8) : Nat → Nat → Int → Nat → Option (List Rn × Nat)
  | 0, _, _, p => some ([], p)
  | n + 1, r, last, p => (rdP bs p 0 1000000000).bind fun a => (rdP bs a.2 0 1000000000).bind fun b => (spS bs n r (last + 2 + a.1 + b.1) b.2).map fun c => (⟨r, last + 2 + a.1, last + 2 + a.1 + b.1⟩ :: c.1, c.2)
def cxS (bs : List UInt8) : Nat → Nat → Option (List Rn × Nat)
  | 0, p => some ([], p)
  | n + 1, p => (rdP bs p 0 8).bind fun a => (rdP bs a.2 0 1000).bind fun m => (spS bs m.1 a.1 (-1) m.2).bind fun l => (cxS bs n l.2).map fun c => (l.1 ++ c.1, c.2)
def ctxS (bs : List UInt8) (p : Nat) : Option (List Rn × Nat) := (rdP bs p 0 8).bind fun n => cxS bs n.1 n.2
def rsPost (w : World) : Option (List Rn × Nat) → Ending → World → Prop
  | some (xs, q), e, w' => ∃ v', e = .returned (.tuple #[.agg #[v'], .int .i64 q, .bool true]) ∧ xs.length ≤ 8000 ∧ Own w [.own v' xs] w'
  | none, e, w' => ∃ (v' : Value) (n : Int) (ys : List Rn), e = .returned (.tuple #[.agg #[v'], .int .i64 n, .bool false]) ∧ Own w [.own v' ys] w'
set_option maxHeartbeats 8000000 in
theorem l2Read (bs : List UInt8) (at_ : Nat) (u : Value) (w : World) (hv : Rd w u bs) (hat : at_ ≤ bs.length) :
    Calls Tryd.prog 34 #[u, .int .i64 at_] w (rsPost w (ctxS bs at_)) := by
  obtain ⟨o, ho⟩ : ∃ o, ctxS bs at_ = o := ⟨_, rfl⟩
  rw [ho]
  unfold ctxS at ho
  obtain ⟨A0, c0, rfl, _, _⟩ := hv.val
  have HB : Own w [.box (w.heap.size + 2) 34 [.slice (some ⟨w.heap.size + 1, 0, none⟩) 0 0], .own (.slice (some ⟨w.heap.size + 1, 0, none⟩) 0 0) ([] : List Rn), .box w.heap.size 34 [.slice none 0 0]] (((w.alloc (.cells #[.slice none 0 0] 34)).alloc (.cells #[] 107)).alloc (.cells #[.slice (some ⟨w.heap.size + 1, 0, none⟩) 0 0] 34)) := by
    have H1 := (((Own.start w).box0 [.slice none 0 0] 34).lit ([] : List Rn) #[] 107 rfl rfl (by simp)).box0 [.slice (some ⟨w.heap.size + 1, 0, none⟩) 0 0] 34
    simp only [World.size_alloc, List.length_nil] at H1
    exact H1
  have FB := HB.facts
  simp only [Own.Facts, Own.Cells, Nat.zero_add] at FB
  cases hm : rdP bs at_ 0 8 with
  | none =>
    rw [hm] at ho
    obtain rfl : none = o := ho
    go_enter Tryd.func34, Tryd.ntmps34
    go_wp2_with fail
    refine (l2GetN bs at_ 8 _ _ (HB.old hv) hat (by omega) hm).mono ?_
    rintro e w1 ⟨rfl, hb⟩
    have H1 := HB.of_below hb
    clear HB FB
    go_wp2
    go_loopw [9, 10, 11] (fun at_' ok ii wr => at_' = .int .i64 at_ ∧ ok = .bool false ∧ Own w [.box (w.heap.size + 2) 34 [.slice (some ⟨w.heap.size + 1, 0, none⟩) 0 0], .own (.slice (some ⟨w.heap.size + 1, 0, none⟩) 0 0) ([] : List Rn), .box w.heap.size 34 [.slice none 0 0]] wr) (fun _ _ _ _ => 0)
    case atStart => exact ⟨rfl, rfl, H1⟩
    case round =>
      obtain ⟨rfl, rfl, H2⟩ := hrel
      have F := H2.facts
      simp only [Own.Facts, Own.Cells, Nat.zero_add] at F
      have H3 := (H2.pick 2 rfl).set 0 (.slice (some ⟨w.heap.size + 1, 0, none⟩) 0 0)
      have F3 := H3.facts
      simp only [Own.Facts, Own.Cells, List.set_cons_zero, List.eraseIdx_cons_succ, List.eraseIdx_cons_zero, Nat.zero_add] at F3
      go_wp2
      exact bodyPost_ret (v := .tuple #[.agg #[.slice (some ⟨w.heap.size + 1, 0, none⟩) 0 0], .int .i64 at_, .bool false]) (by simp [results, Tryd.results34, go_sem, *]) rfl ⟨_, _, [], rfl, H3.drop.drop⟩
  | some mm =>
    obtain ⟨n, p0⟩ := mm
    rw [hm] at ho
    replace ho : cxS bs n p0 = o := ho
    obtain ⟨_, n2, n3, _, _⟩ := (rdP_iff bs at_ 0 8 n p0 hat (by omega)).1 hm
    have HO := Lib.hid ho
    have HM := Lib.hid hm
    clear ho hm
    go_enter Tryd.func34, Tryd.ntmps34
    go_wp2_with fail
    refine (l2GetS bs at_ 8 n p0 _ _ (HB.old hv) hat (by omega) HM.out).mono ?_
    rintro e w1 ⟨rfl, hb⟩
    have H1 := HB.of_below hb
    clear HB FB
    go_wp2
    go_loopw [9, 10, 11] (fun at_ ok ii wr => (∃ (i p : Nat) (va : Value) (acc : List Rn), at_ = .int .i64 p ∧ ok = .bool true ∧ ii = .int .i64 i ∧ i ≤ n ∧ p ≤ bs.length ∧ acc.length ≤ 1000 * i ∧ Own w [.box (w.heap.size + 2) 34 [va], .own va acc, .box w.heap.size 34 [.slice none 0 0]] wr ∧ Hid (o = (cxS bs (n - i) p).map fun c => (acc ++ c.1, c.2))) ∨
  (∃ (p : Int) (i : Nat) (va : Value) (ys : List Rn), at_ = .int .i64 p ∧ ok = .bool false ∧ ii = .int .i64 i ∧ i ≤ n ∧ Hid (o = none) ∧ Own w [.box (w.heap.size + 2) 34 [va], .own va ys, .box w.heap.size 34 [.slice none 0 0]] wr)) (fun _ _ ii _ => 9 - (intOf ii).toNat)
    case atStart => exact .inl ⟨0, p0, _, [], rfl, rfl, rfl, by omega, n3, by simp, H1, Lib.hid (by rw [← HO.out, Nat.sub_zero]; simp)⟩
    case round =>
      rcases hrel with ⟨i, p, va, acc, rfl, rfl, rfl, hi, hp, hal, H2, he⟩ | ⟨p, i, va, ys, rfl, rfl, rfl, hi, he, H2⟩
      · clear H1 HO
        obtain ⟨A, c, rfl, _, _⟩ := (H2.rd 1 rfl).val
        by_cases hlt : i < n
        · have HE := Lib.hid (show o = ((rdP bs p 0 8).bind fun a => (rdP bs a.2 0 1000).bind fun m => (spS bs m.1 a.1 (-1) m.2).bind fun l => (cxS bs (n - (i + 1)) l.2).map fun c => (l.1 ++ c.1, c.2)).map fun c => (acc ++ c.1, c.2) by
            rw [he.out, show n - i = (n - (i + 1)) + 1 by omega, cxS])
          clear he
          cases hr : rdP bs p 0 8 with
          | none =>
            have HF := Lib.hid (show o = none by rw [HE.out, hr]; rfl)
            have HR := Lib.hid hr
            clear hr HE
            go_wp2_with fail
            refine (l2GetN bs p 8 _ _ (H2.old hv) hp (by omega) HR.out).mono ?_
            rintro e w3 ⟨rfl, hb3⟩
            have H3 := H2.of_below hb3
            clear H2
            go_wp2
            go_loopw [9, 10, 14, 15] (fun at_' ok la k wr => ok = .bool false ∧ at_' = .int .i64 p ∧ Own w [.box (w.heap.size + 2) 34 [.slice A acc.length c], .own (.slice A acc.length c) acc, .box w.heap.size 34 [.slice none 0 0]] wr) (fun _ _ _ _ _ => 0)
            case atStart => exact ⟨rfl, rfl, H3⟩
            case round =>
              obtain ⟨rfl, rfl, H5⟩ := hrel
              go_wp2
              go_roundw
              case rel => exact .inr ⟨p, i + 1, _, acc, rfl, rfl, by go_num, by omega, HF, H5⟩
              case measure => simp [intOf]; omega
          | some rr =>
            obtain ⟨r, p1⟩ := rr
            obtain ⟨_, r2, r3, _, _⟩ := (rdP_iff bs p 0 8 r p1 hp (by omega)).1 hr
            have HE2 := Lib.hid (show o = ((rdP bs p1 0 1000).bind fun m => (spS bs m.1 r (-1) m.2).bind fun l => (cxS bs (n - (i + 1)) l.2).map fun c => (l.1 ++ c.1, c.2)).map fun c => (acc ++ c.1, c.2) by rw [HE.out, hr]; rfl)
            have HR := Lib.hid hr
            clear hr HE
            cases hk : rdP bs p1 0 1000 with
            | none =>
              have HF := Lib.hid (show o = none by rw [HE2.out, hk]; rfl)
              have HK := Lib.hid hk
              clear hk HE2
              go_wp2_with fail
              refine (l2GetS bs p 8 r p1 _ _ (H2.old hv) hp (by omega) HR.out).mono ?_
              rintro e w3 ⟨rfl, hb3⟩
              have H3 := H2.of_below hb3
              clear H2
              go_wp2_with fail
              refine (l2GetN bs p1 1000 _ _ (H3.old hv) r3 (by omega) HK.out).mono ?_
              rintro e w4 ⟨rfl, hb4⟩
              have H3 := H3.of_below hb4
              go_wp2
              go_loopw [9, 10, 14, 15] (fun at_' ok la k wr => ok = .bool false ∧ at_' = .int .i64 p1 ∧ Own w [.box (w.heap.size + 2) 34 [.slice A acc.length c], .own (.slice A acc.length c) acc, .box w.heap.size 34 [.slice none 0 0]] wr) (fun _ _ _ _ _ => 0)
              case atStart => exact ⟨rfl, rfl, H3⟩
              case round =>
                obtain ⟨rfl, rfl, H5⟩ := hrel
                go_wp2
                go_roundw
                case rel => exact .inr ⟨p1, i + 1, _, acc, rfl, rfl, by go_num, by omega, HF, H5⟩
                case measure => simp [intOf]; omega
            | some mm =>
              obtain ⟨m, p2⟩ := mm
              obtain ⟨_, m2, m3, _, _⟩ := (rdP_iff bs p1 0 1000 m p2 r3 (by omega)).1 hk
              have HE3 := Lib.hid (show o = ((spS bs m r (-1) p2).bind fun l => (cxS bs (n - (i + 1)) l.2).map fun c => (l.1 ++ c.1, c.2)).map fun c => (acc ++ c.1, c.2) by rw [HE2.out, hk]; rfl)
              have HK := Lib.hid hk
              clear hk HE2
              go_wp2_with fail
              refine (l2GetS bs p 8 r p1 _ _ (H2.old hv) hp (by omega) HR.out).mono ?_
              rintro e w3 ⟨rfl, hb3⟩
              have H3 := H2.of_below hb3
              clear H2
              go_wp2_with fail
              refine (l2GetS bs p1 1000 m p2 _ _ (H3.old hv) r3 (by omega) HK.out).mono ?_
              rintro e w4 ⟨rfl, hb4⟩
              have H4 := H3.of_below hb4
              clear H3
              go_wp2
              go_loopw [9, 10, 14, 15] (fun at_ ok la k wr => (∃ (j p : Nat) (last : Int) (va : Value) (acc : List Rn), at_ = .int .i64 p ∧ ok = .bool true ∧ la = .int .i64 last ∧ k = .int .i64 j ∧ j ≤ m ∧ p ≤ bs.length ∧ -1 ≤ last ∧ last ≤ 2000000002 * j ∧ acc.length ≤ 1000 * i + j ∧ Own w [.box (w.heap.size + 2) 34 [va], .own va acc, .box w.heap.size 34 [.slice none 0 0]] wr ∧ Hid (o = ((spS bs (m - j) r last p).bind fun l => (cxS bs (n - (i + 1)) l.2).map fun c => (l.1 ++ c.1, c.2)).map fun c => (acc ++ c.1, c.2))) ∨
            (∃ (p : Int) (last : Int) (j : Nat) (va : Value) (ys : List Rn), at_ = .int .i64 p ∧ ok = .bool false ∧ la = .int .i64 last ∧ k = .int .i64 j ∧ j ≤ m ∧ Hid (o = none) ∧ Own w [.box (w.heap.size + 2) 34 [va], .own va ys, .box w.heap.size 34 [.slice none 0 0]] wr)) (fun _ _ _ k _ => 1001 - (intOf k).toNat)
              case atStart => exact .inl ⟨0, p2, -1, _, acc, rfl, rfl, rfl, rfl, by omega, m3, by omega, by omega, by omega, H4, Lib.hid (by rw [HE3.out, Nat.sub_zero])⟩
              case round =>
                rcases hrel with ⟨j, p, last, va, acc, rfl, rfl, rfl, rfl, hj, hp, hl1, hl2, hal, H5, he⟩ | ⟨p, last, j, va, ys, rfl, rfl, rfl, rfl, hj, he, H5⟩
                · clear H4
                  obtain ⟨A, c, rfl, _, _⟩ := (H5.rd 1 rfl).val
                  by_cases hlt : j < m
                  · have HE := Lib.hid (show o = (((rdP bs p 0 1000000000).bind fun a => (rdP bs a.2 0 1000000000).bind fun b => (spS bs (m - (j + 1)) r (last + 2 + a.1 + b.1) b.2).map fun c => ((⟨r, last + 2 + a.1, last + 2 + a.1 + b.1⟩ : Rn) :: c.1, c.2)).bind fun l => (cxS bs (n - (i + 1)) l.2).map fun c => (l.1 ++ c.1, c.2)).map fun c => (acc ++ c.1, c.2) by
                      rw [he.out, show m - j = (m - (j + 1)) + 1 by omega, spS])
                    clear he HE3
                    cases hg1 : rdP bs p 0 1000000000 with
                    | none =>
                      have HF := Lib.hid (show o = none by rw [HE.out, hg1]; rfl)
                      have HG1 := Lib.hid hg1
                      clear hg1 HE
                      go_wp2_with fail
                      refine (l2GetN bs p 1000000000 _ _ (H5.old hv) hp (by omega) HG1.out).mono ?_
                      rintro e w6 ⟨rfl, hb6⟩
                      have H4 := H5.of_below hb6
                      clear H5
                      have HL := ((H4.lit [(⟨r, last + 2, last + 2⟩ : Rn)] #[.int .i64 r, .int .i64 (last + 2), .int .i64 (last + 2)] 107 rfl rfl (by simp)).pick 2 rfl)
                      have F := H4.facts
                      simp only [Own.Facts, Own.Cells, Nat.zero_add] at F
                      clear H4
                      go_wp2_with (refine wp_app2 (α := Rn) rfl _ _ 32 rfl (by kernel_rfl) _ _ HL rfl _ _ rfl (HL.rd 1 rfl) (by show (_ + 1) * 24 ≤ _; omega) (by show _ + 1 ≤ _; omega) ?_; clear HL F; intro v5 q5 w5 hq5 hl5 H5; obtain ⟨A5, c5, rfl, _, _⟩ := (H5.rd 0 rfl).val; have F := H5.facts; simp only [Own.Facts, Own.Cells, List.eraseIdx_cons_succ, List.eraseIdx_cons_zero, Nat.zero_add] at F)
                      have H6 := (((H5.pick 1 rfl).drop.pick 1 rfl).set 0 (.slice A5 q5.length c5))
                      have HQ := Lib.hid hl5
                      clear hl5 F
                      go_roundw
                      case rel => exact .inr ⟨_, _, j + 1, _, q5, rfl, rfl, rfl, by go_num, by omega, HF, H6⟩
                      case measure => simp [intOf]; omega
                    | some g1 =>
                      obtain ⟨g, p1'⟩ := g1
                      obtain ⟨_, a2, a3, _, _⟩ := (rdP_iff bs p 0 _ g p1' hp (by omega)).1 hg1
                      have HE2 := Lib.hid (show o = (((rdP bs p1' 0 1000000000).bind fun b => (spS bs (m - (j + 1)) r (last + 2 + g + b.1) b.2).map fun c => ((⟨r, last + 2 + g, last + 2 + g + b.1⟩ : Rn) :: c.1, c.2)).bind fun l => (cxS bs (n - (i + 1)) l.2).map fun c => (l.1 ++ c.1, c.2)).map fun c => (acc ++ c.1, c.2) by rw [HE.out, hg1]; rfl)
                      have HG1 := Lib.hid hg1
                      clear hg1 HE
                      cases hg2 : rdP bs p1' 0 1000000000 with
                      | none =>
                        have HF := Lib.hid (show o = none by rw [HE2.out, hg2]; rfl)
                        have HG2 := Lib.hid hg2
                        clear hg2 HE2
                        go_wp2_with fail
                        refine (l2GetS bs p 1000000000 g p1' _ _ (H5.old hv) hp (by omega) HG1.out).mono ?_
                        rintro e w6 ⟨rfl, hb6⟩
                        have H6 := H5.of_below hb6
                        clear H5
                        go_wp2_with fail
                        refine (l2GetN bs p1' 1000000000 _ _ (H6.old hv) a3 (by omega) HG2.out).mono ?_
                        rintro e w7 ⟨rfl, hb7⟩
                        have H4 := H6.of_below hb7
                        clear H6
                        have HL := ((H4.lit [(⟨r, last + 2 + g, last + 2 + g⟩ : Rn)] #[.int .i64 r, .int .i64 (last + 2 + g), .int .i64 (last + 2 + g)] 107 rfl rfl (by simp)).pick 2 rfl)
                        have F := H4.facts
                        simp only [Own.Facts, Own.Cells, Nat.zero_add] at F
                        clear H4
                        go_wp2_with (refine wp_app2 (α := Rn) rfl _ _ 32 rfl (by kernel_rfl) _ _ HL rfl _ _ rfl (HL.rd 1 rfl) (by show (_ + 1) * 24 ≤ _; omega) (by show _ + 1 ≤ _; omega) ?_; clear HL F; intro v5 q5 w5 hq5 hl5 H5; obtain ⟨A5, c5, rfl, _, _⟩ := (H5.rd 0 rfl).val; have F := H5.facts; simp only [Own.Facts, Own.Cells, List.eraseIdx_cons_succ, List.eraseIdx_cons_zero, Nat.zero_add] at F)
                        have H6 := (((H5.pick 1 rfl).drop.pick 1 rfl).set 0 (.slice A5 q5.length c5))
                        have HQ := Lib.hid hl5
                        clear hl5 F
                        go_roundw
                        case rel => exact .inr ⟨_, _, j + 1, _, q5, rfl, rfl, rfl, by go_num, by omega, HF, H6⟩
                        case measure => simp [intOf]; omega
                      | some g2 =>
                        obtain ⟨s, p2'⟩ := g2
                        obtain ⟨_, b2, b3, _, _⟩ := (rdP_iff bs p1' 0 _ s p2' a3 (by omega)).1 hg2
                        have HE4 := Lib.hid (show o = (((spS bs (m - (j + 1)) r (last + 2 + g + s) p2').map fun c => ((⟨r, last + 2 + g, last + 2 + g + s⟩ : Rn) :: c.1, c.2)).bind fun l => (cxS bs (n - (i + 1)) l.2).map fun c => (l.1 ++ c.1, c.2)).map fun c => (acc ++ c.1, c.2) by rw [HE2.out, hg2]; rfl)
                        have HG2 := Lib.hid hg2
                        clear hg2 HE2
                        go_wp2_with fail
                        refine (l2GetS bs p 1000000000 g p1' _ _ (H5.old hv) hp (by omega) HG1.out).mono ?_
                        rintro e w6 ⟨rfl, hb6⟩
                        have H6 := H5.of_below hb6
                        clear H5
                        go_wp2_with fail
                        refine (l2GetS bs p1' 1000000000 s p2' _ _ (H6.old hv) a3 (by omega) HG2.out).mono ?_
                        rintro e w7 ⟨rfl, hb7⟩
                        have H4 := H6.of_below hb7
                        clear H6
                        have HL := ((H4.lit [(⟨r, last + 2 + g, last + 2 + g + s⟩ : Rn)] #[.int .i64 r, .int .i64 (last + 2 + g), .int .i64 (last + 2 + g + s)] 107 rfl rfl (by simp)).pick 2 rfl)
                        have F := H4.facts
                        simp only [Own.Facts, Own.Cells, Nat.zero_add] at F
                        clear H4
                        go_wp2_with (refine wp_app2 (α := Rn) rfl _ _ 32 rfl (by kernel_rfl) _ _ HL rfl _ _ rfl (HL.rd 1 rfl) (by show (_ + 1) * 24 ≤ _; omega) (by show _ + 1 ≤ _; omega) ?_; clear HL F; intro v5 q5 w5 hq5 hl5 H5; obtain ⟨A5, c5, rfl, _, _⟩ := (H5.rd 0 rfl).val; have F := H5.facts; simp only [Own.Facts, Own.Cells, List.eraseIdx_cons_succ, List.eraseIdx_cons_zero, Nat.zero_add] at F)
                        have H6 := (((H5.pick 1 rfl).drop.pick 1 rfl).set 0 (.slice A5 q5.length c5))
                        have HQ := Lib.hid hl5
                        clear hl5 F
                        go_roundw
                        case rel => exact .inl ⟨j + 1, p2', last + 2 + g + s, _, q5, rfl, rfl, rfl, by go_num, by omega, b3, by omega, by omega, by have := HQ.out; simp only [List.length_cons, List.length_nil] at this; omega, H6, Lib.hid (by rw [HE4.out, hq5.out, Option.bind_map, Option.map_bind, Option.map_bind]; congr 1; funext l; simp [Option.map_map, Function.comp_def])⟩
                        case measure => simp [intOf]; omega
                  · obtain rfl : j = m := by omega
                    have HF := Lib.hid (show o = (cxS bs (n - (i + 1)) p).map fun c => (acc ++ c.1, c.2) by rw [he.out, Nat.sub_self, spS, Option.bind_some]; simp)
                    clear he HE3
                    go_wp2
                    go_roundw
                    case rel => exact .inl ⟨i + 1, p, _, acc, rfl, rfl, by go_num, by omega, hp, by omega, H5, HF⟩
                    case measure => simp [intOf]; omega
                · clear H4 HE3
                  obtain ⟨A, c, rfl, _, _⟩ := (H5.rd 1 rfl).val
                  go_wp2
                  go_roundw
                  case rel => exact .inr ⟨p, i + 1, _, ys, rfl, rfl, by go_num, by omega, he, H5⟩
                  case measure => simp [intOf]; omega
        · obtain rfl : i = n := by omega
          have HF := Lib.hid (show o = some (acc, p) by rw [he.out, Nat.sub_self, cxS]; simp)
          clear he
          have F := H2.facts
          simp only [Own.Facts, Own.Cells, Nat.zero_add] at F
          have H3 := (H2.pick 2 rfl).set 0 (.slice A acc.length c)
          have F3 := H3.facts
          simp only [Own.Facts, Own.Cells, List.set_cons_zero, List.eraseIdx_cons_succ, List.eraseIdx_cons_zero, Nat.zero_add] at F3
          go_wp2
          rw [HF.out]
          exact bodyPost_ret (v := .tuple #[.agg #[.slice A acc.length c], .int .i64 p, .bool true]) (by simp [results, Tryd.results34, go_sem, *]) rfl ⟨_, rfl, by omega, H3.drop.drop⟩
      · clear H1 HO
        obtain ⟨A, c, rfl, _, _⟩ := (H2.rd 1 rfl).val
        have F := H2.facts
        simp only [Own.Facts, Own.Cells, Nat.zero_add] at F
        have H3 := (H2.pick 2 rfl).set 0 (.slice A ys.length c)
        have F3 := H3.facts
        simp only [Own.Facts, Own.Cells, List.set_cons_zero, List.eraseIdx_cons_succ, List.eraseIdx_cons_zero, Nat.zero_add] at F3
        go_wp2
        rw [he.out]
        exact bodyPost_ret (v := .tuple #[.agg #[.slice A ys.length c], .int .i64 p, .bool false]) (by simp [results, Tryd.results34, go_sem, *]) rfl ⟨_, _, ys, rfl, H3.drop.drop⟩
end Go.Proofs.YtonkdmjhlaikhaaDoor
