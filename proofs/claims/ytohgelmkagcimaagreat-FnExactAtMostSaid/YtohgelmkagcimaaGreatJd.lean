/- Join: the reference's side. -/
import Derived.Test.YtohgelmkagcimaaGreatJn
import Derived.Test.YtohgelmkagcimaaGreatT2
import Derived.Test.YtohgelmkagcimaaGreatJ5
namespace Go.Proofs.YtohgelmkagcimaaGreat
set_option linter.unusedSimpArgs false
set_option linter.unusedVariables false
open Go.RowKit Go.Ow
attribute [local irreducible] wpQuiet
set_option maxRecDepth 100000
def jOk (a b : St) : Bool := stOk a && (stOk b && fitsB (joinL a b) (uni a.c b.c))
def jR (a b : St) : St := if jOk a b = true then ⟨joinL a b, uni a.c b.c⟩ else ⟨[], []⟩
theorem specFits (l : List Lf) (c : List Rn) (vl vc : Value) (w : World) (h1 : Rd w vl l) (h2 : Rd w vc c) :
    Calls Tryz.prog 65 #[.agg #[vl, vc]] w fun e w' => e = .returned (.bool (fitsB l c)) ∧ Below w.heap.size w w' := by
  obtain ⟨A, c1, rfl, _, hl⟩ := h1.val
  obtain ⟨A2, d2, rfl, _, hl2⟩ := h2.val
  have HS := (Own.start w).box [.slice A l.length c1, .slice A2 c.length d2] 36
  by_cases g1 : l.length ≤ 1000
  · by_cases g2 : c.length ≤ 1000
    · have HQ := Lib.hid (show fitsB l c = true by simp [fitsB, g1, g2])
      go_enter Tryz.func65, Tryz.ntmps65
      go_wp2
      go_ret
      exact ⟨by rw [HQ.out]; first | rfl | (simp; omega), HS.below⟩
    · have HQ := Lib.hid (show fitsB l c = false by simp [fitsB, g2])
      go_enter Tryz.func65, Tryz.ntmps65
      go_wp2
      go_ret
      exact ⟨by rw [HQ.out]; first | rfl | (simp; omega), HS.below⟩
  · have HQ := Lib.hid (show fitsB l c = false by simp [fitsB, g1])
    go_enter Tryz.func65, Tryz.ntmps65
    go_wp2
    go_ret
    exact ⟨by rw [HQ.out]; first | rfl | (simp; omega), HS.below⟩
theorem stOk_paths {s : St} (h : stOk s = true) : ∀ y ∈ s.l, y.p.length ≤ 1048576 := fun y hy => by
  have := stOk_leaf h y hy
  unfold okLeaf pathOk at this
  simp only [Bool.and_eq_true, decide_eq_true_eq] at this
  omega
theorem stOk_lens {s : St} (h : stOk s = true) : s.l.length ≤ 1048576 ∧ s.c.length ≤ 1048576 := by
  have h1 := stOk_len' h
  have h2 := ((ctxOk_nf s.c).1 (stOk_ctx' h)).2
  omega
set_option maxHeartbeats 8000000 in
theorem specJoin (a b : St) (va vac vb vbc : Value) (w : World) (h1 : Rd w va a.l) (h2 : Rd w vac a.c) (h3 : Rd w vb b.l) (h4 : Rd w vbc b.c) (hwa : ∀ y ∈ a.l, LfW y) (hwb : ∀ y ∈ b.l, LfW y) :
    Calls Tryz.prog 25 #[.agg #[va, vac], .agg #[vb, vbc]] w fun e w' => ∃ A c A2 c2, e = .returned (.tuple #[.agg #[.slice A (jR a b).l.length c, .slice A2 (jR a b).c.length c2], .bool (jOk a b)]) ∧ Own w [.own (.slice A (jR a b).l.length c) (jR a b).l, .own (.slice A2 (jR a b).c.length c2) (jR a b).c] w' := by
  obtain ⟨A1, c1, rfl, _, _⟩ := h1.val
  obtain ⟨A2, c2, rfl, _, _⟩ := h2.val
  obtain ⟨B1, d1, rfl, _, _⟩ := h3.val
  obtain ⟨B2, d2, rfl, _, _⟩ := h4.val
  have HWA := Lib.hid hwa
  have HWB := Lib.hid hwb
  clear hwa hwb
  have HS := (((Own.start w).box [.slice A1 a.l.length c1, .slice A2 a.c.length c2] 36).box (b := w.heap.size + 1) [.slice B1 b.l.length d1, .slice B2 b.c.length d2] 36).box (b := w.heap.size + 1 + 1) [.slice none 0 0, .slice none 0 0] 36
  cases ha : stOk a
  · have HQ := Lib.hid (show jOk a b = false ∧ jR a b = ⟨[], []⟩ by simp [jR, jOk, ha])
    go_enter Tryz.func25, Tryz.ntmps25
    go_wp2_with fail
    refine (specStateOk a _ _ _ (HS.old h1) (HS.old h2) HWA.out).mono ?_; rintro e w1 ⟨rfl, hb⟩; (first | have H' := HS.of_below hb | have H' := HS.drew.of_below hb | have H' := (HS.box0 [_] _).of_below hb | have H' := ((HS.box0 [_] _).box0 [_] _).of_below hb | have H' := (HS.alloc _).of_below hb | have H' := ((HS.alloc _).alloc _).of_below hb); clear HS; have HS := H'; clear H'; have F := HS.facts; simp only [Own.Facts, Own.Cells, World.size_alloc, List.cons_append, List.nil_append, List.eraseIdx_cons_succ, List.eraseIdx_cons_zero, List.eraseIdx_zero, List.tail_cons, Nat.zero_add] at F
    rw [ha]
    clear ha
    go_wp2
    have H2 := (((HS.set 0 (.slice none 0 0)).set 1 (.slice none 0 0)).drop.drop.drop.nil (α := Rn)).nil (α := Lf)
    exact bodyPost_ret (v := .tuple #[.agg #[.slice none 0 0, .slice none 0 0], .bool false]) (by simp [results, Tryz.results25, go_sem, *]) rfl ⟨none, 0, none, 0, by rw [HQ.out.1, HQ.out.2]; rfl, by rw [HQ.out.2]; exact H2⟩
  · cases hb0 : stOk b
    · have HQ := Lib.hid (show jOk a b = false ∧ jR a b = ⟨[], []⟩ by simp [jR, jOk, hb0])
      go_enter Tryz.func25, Tryz.ntmps25
      go_wp2_with fail
      refine (specStateOk a _ _ _ (HS.old h1) (HS.old h2) HWA.out).mono ?_; rintro e w1 ⟨rfl, hb⟩; (first | have H' := HS.of_below hb | have H' := HS.drew.of_below hb | have H' := (HS.box0 [_] _).of_below hb | have H' := ((HS.box0 [_] _).box0 [_] _).of_below hb | have H' := (HS.alloc _).of_below hb | have H' := ((HS.alloc _).alloc _).of_below hb); clear HS; have HS := H'; clear H'; have F := HS.facts; simp only [Own.Facts, Own.Cells, World.size_alloc, List.cons_append, List.nil_append, List.eraseIdx_cons_succ, List.eraseIdx_cons_zero, List.eraseIdx_zero, List.tail_cons, Nat.zero_add] at F
      rw [ha]
      clear ha
      go_wp2_with fail
      refine (specStateOk b _ _ _ (HS.old h3) (HS.old h4) HWB.out).mono ?_; rintro e w2 ⟨rfl, hb⟩; (first | have H' := HS.of_below hb | have H' := HS.drew.of_below hb | have H' := (HS.box0 [_] _).of_below hb | have H' := ((HS.box0 [_] _).box0 [_] _).of_below hb | have H' := (HS.alloc _).of_below hb | have H' := ((HS.alloc _).alloc _).of_below hb); clear HS; have HS := H'; clear H'; have F := HS.facts; simp only [Own.Facts, Own.Cells, World.size_alloc, List.cons_append, List.nil_append, List.eraseIdx_cons_succ, List.eraseIdx_cons_zero, List.eraseIdx_zero, List.tail_cons, Nat.zero_add] at F
      rw [hb0]
      clear hb0
      go_wp2
      have H2 := (((HS.set 0 (.slice none 0 0)).set 1 (.slice none 0 0)).drop.drop.drop.nil (α := Rn)).nil (α := Lf)
      exact bodyPost_ret (v := .tuple #[.agg #[.slice none 0 0, .slice none 0 0], .bool false]) (by simp [results, Tryz.results25, go_sem, *]) rfl ⟨none, 0, none, 0, by rw [HQ.out.1, HQ.out.2]; rfl, by rw [HQ.out.2]; exact H2⟩
    · have HLA := Lib.hid (stOk_lens ha)
      have HLB := Lib.hid (stOk_lens hb0)
      have HPA := Lib.hid (stOk_paths ha)
      have HPB := Lib.hid (stOk_paths hb0)
      have HJ := Lib.hid (show jOk a b = fitsB (joinL a b) (uni a.c b.c) by simp [jOk, ha, hb0])
      obtain ⟨J, hJ⟩ : ∃ J, joinL a b = J := ⟨_, rfl⟩
      obtain ⟨U, hU⟩ : ∃ U, uni a.c b.c = U := ⟨_, rfl⟩
      rw [hJ, hU] at HJ
      have HR := Lib.hid (show jR a b = if jOk a b = true then ⟨J, U⟩ else ⟨[], []⟩ by unfold jR; rw [hJ, hU])
      have HE := Lib.hid (And.intro hJ hU)
      clear hJ hU
      go_enter Tryz.func25, Tryz.ntmps25
      go_wp2_with fail
      refine (specStateOk a _ _ _ (HS.old h1) (HS.old h2) HWA.out).mono ?_; rintro e w1 ⟨rfl, hb⟩; (first | have H' := HS.of_below hb | have H' := HS.drew.of_below hb | have H' := (HS.box0 [_] _).of_below hb | have H' := ((HS.box0 [_] _).box0 [_] _).of_below hb | have H' := (HS.alloc _).of_below hb | have H' := ((HS.alloc _).alloc _).of_below hb); clear HS; have HS := H'; clear H'; have F := HS.facts; simp only [Own.Facts, Own.Cells, World.size_alloc, List.cons_append, List.nil_append, List.eraseIdx_cons_succ, List.eraseIdx_cons_zero, List.eraseIdx_zero, List.tail_cons, Nat.zero_add] at F
      rw [ha]
      clear ha
      go_wp2_with fail
      refine (specStateOk b _ _ _ (HS.old h3) (HS.old h4) HWB.out).mono ?_; rintro e w2 ⟨rfl, hb⟩; (first | have H' := HS.of_below hb | have H' := HS.drew.of_below hb | have H' := (HS.box0 [_] _).of_below hb | have H' := ((HS.box0 [_] _).box0 [_] _).of_below hb | have H' := (HS.alloc _).of_below hb | have H' := ((HS.alloc _).alloc _).of_below hb); clear HS; have HS := H'; clear H'; have F := HS.facts; simp only [Own.Facts, Own.Cells, World.size_alloc, List.cons_append, List.nil_append, List.eraseIdx_cons_succ, List.eraseIdx_cons_zero, List.eraseIdx_zero, List.tail_cons, Nat.zero_add] at F
      rw [hb0]
      clear hb0
      go_wp2_with fail
      refine (show Calls Tryz.prog 64 _ _ (fun e w' => ∃ A c A2 c2, e = .returned (.agg #[.slice A J.length c, .slice A2 U.length c2]) ∧ Own _ [.own (.slice A J.length c) J, .own (.slice A2 U.length c2) U] w') from by have h := l3Join a b _ _ _ _ _ (HS.old h1) (HS.old h2) (HS.old h3) (HS.old h4) HLA.out.1 HLB.out.1 HPA.out HPB.out HLA.out.2 HLB.out.2; rw [HE.out.1, HE.out.2] at h; exact h).mono ?_
      rintro e w3 ⟨G1, y1, G2, y2, rfl, hs⟩
      replace HS := (HS.call2 hs).box (b := w3.heap.size) [.slice G1 J.length y1, .slice G2 U.length y2] 36
      clear hs F
      have F := HS.facts; simp only [Own.Facts, Own.Cells, World.size_alloc, List.cons_append, List.nil_append, List.eraseIdx_cons_succ, List.eraseIdx_cons_zero, List.eraseIdx_zero, List.tail_cons, Nat.zero_add] at F
      go_wp2_with fail
      refine (specFits J U _ _ _ (HS.rd 1 rfl) (HS.rd 2 rfl)).mono ?_; rintro e w4 ⟨rfl, hb⟩; (first | have H' := HS.of_below hb | have H' := HS.drew.of_below hb | have H' := (HS.box0 [_] _).of_below hb | have H' := ((HS.box0 [_] _).box0 [_] _).of_below hb | have H' := (HS.alloc _).of_below hb | have H' := ((HS.alloc _).alloc _).of_below hb); clear HS; have HS := H'; clear H'; have F := HS.facts; simp only [Own.Facts, Own.Cells, World.size_alloc, List.cons_append, List.nil_append, List.eraseIdx_cons_succ, List.eraseIdx_cons_zero, List.eraseIdx_zero, List.tail_cons, Nat.zero_add] at F
      cases hf : fitsB J U
      · have HQ := Lib.hid (show jOk a b = false ∧ jR a b = ⟨[], []⟩ by
          have h1 : jOk a b = false := by rw [HJ.out, hf]
          exact ⟨h1, by rw [HR.out, h1]; rfl⟩)
        clear hf
        go_wp2
        have H2 := ((((HS.pick 3 rfl).set 0 (.slice none 0 0)).set 1 (.slice none 0 0)).only.drop.nil (α := Rn)).nil (α := Lf)
        exact bodyPost_ret (v := .tuple #[.agg #[.slice none 0 0, .slice none 0 0], .bool false]) (by simp [results, Tryz.results25, go_sem, *]) rfl ⟨none, 0, none, 0, by rw [HQ.out.1, HQ.out.2]; rfl, by rw [HQ.out.2]; exact H2⟩
      · have HQ := Lib.hid (show jOk a b = true ∧ jR a b = ⟨J, U⟩ by
          have h1 : jOk a b = true := by rw [HJ.out, hf]
          exact ⟨h1, by rw [HR.out, h1]; rfl⟩)
        clear hf
        go_wp2
        have H2 := ((((HS.pick 3 rfl).set 0 (.slice G1 J.length y1)).set 1 (.slice G2 U.length y2)).drop.drop)
        have H3 := (H2.pick 2 rfl).drop
        have H4 := (H3.pick 2 rfl).drop
        exact bodyPost_ret (v := .tuple #[.agg #[.slice G1 J.length y1, .slice G2 U.length y2], .bool true]) (by simp [results, Tryz.results25, go_sem, *]) rfl ⟨G1, y1, G2, y2, by rw [HQ.out.1, HQ.out.2], by rw [HQ.out.2]; exact H4⟩
end Go.Proofs.YtohgelmkagcimaaGreat
