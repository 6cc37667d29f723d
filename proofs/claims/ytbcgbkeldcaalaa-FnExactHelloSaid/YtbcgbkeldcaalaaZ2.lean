/- Replicas: handed in, compared, marked; valid ones. -/
import Derived.Test.YtbcgbkeldcaalaaZ1
import Derived.Test.YtbcgbkeldcaalaaX3
namespace Go.Proofs.Ytbcgbkeldcaalaa
set_option linter.unusedSimpArgs false
set_option linter.unusedVariables false
open Go.RowKit Go.Ow
attribute [local irreducible] wpQuiet
set_option maxRecDepth 100000
/-- What is asked of a replica's parts. -/
def RpW (r : Rp) : Prop := (∀ y ∈ r.s.l, LfW y) ∧ (∀ y ∈ r.d.l, LfW y)
def RpN (r : Rp) (n : Nat) : Prop := (r.s.l.length ≤ n ∧ (∀ y ∈ r.s.l, y.p.length ≤ n) ∧ r.s.c.length ≤ n) ∧ (r.d.l.length ≤ n ∧ (∀ y ∈ r.d.l, y.p.length ≤ n) ∧ r.d.c.length ≤ n)
/-- A replica read in w. -/
structure RdR (w : World) (r : Rp) (a b c d : Value) : Prop where
  sl : Rd w a r.s.l
  sc : Rd w b r.s.c
  dl : Rd w c r.d.l
  dc : Rd w d r.d.c
theorem RdR.old {W w : World} {R : List Ds} {r : Rp} {a b c d : Value} (h : RdR W r a b c d) (HS : Own W R w) : RdR w r a b c d := ⟨HS.old h.sl, HS.old h.sc, HS.old h.dl, HS.old h.dc⟩
theorem szReplica (r : Rp) (a b c d : Value) (left : Int) (w : World) (h : RdR w r a b c d) (hw : RpW r) (h0 : left ≤ 1048576) (hl0 : -1 ≤ left) :
    Calls Try.prog 8 #[.agg #[.int .i64 r.id, a, b, c, d], .int .i64 left] w fun e w' => (∃ q : Int, e = .returned (.int .i64 q) ∧ -1 ≤ q ∧ q ≤ left ∧ (0 ≤ q → RpN r 1048576)) ∧ Below w.heap.size w w' := by
  have H := Lib.hid h
  obtain ⟨A1, c1, rfl, _, _⟩ := h.sl.val
  obtain ⟨A2, c2, rfl, _, _⟩ := h.sc.val
  obtain ⟨A3, c3, rfl, _, _⟩ := h.dl.val
  obtain ⟨A4, c4, rfl, _, _⟩ := h.dc.val
  have HW := Lib.hid hw
  clear hw h
  have HS := (Own.start w).box [.int .i64 r.id, .slice A1 r.s.l.length c1, .slice A2 r.s.c.length c2, .slice A3 r.d.l.length c3, .slice A4 r.d.c.length c4] 29
  go_enter Try.func8, Try.ntmps8
  go_wp2_with fail
  refine (szState r.s _ _ left _ (HS.old H.out.sl) (HS.old H.out.sc) HW.out.1 h0 hl0).mono ?_; rintro e w1 ⟨⟨q, rfl, hq1, hq2, hq3⟩, hb⟩; (first | have H' := HS.of_below hb | have H' := HS.drew.of_below hb | have H' := (HS.box0 [_] _).of_below hb | have H' := ((HS.box0 [_] _).box0 [_] _).of_below hb | have H' := (HS.alloc _).of_below hb | have H' := ((HS.alloc _).alloc _).of_below hb); clear HS; have HS := H'; clear H'; have F := HS.facts; simp only [Own.Facts, Own.Cells, World.size_alloc, List.cons_append, List.nil_append, List.eraseIdx_cons_succ, List.eraseIdx_cons_zero, List.eraseIdx_zero, List.tail_cons, Nat.zero_add] at F
  have HQ3 := Lib.hid hq3
  clear hq3
  by_cases hq : q < 0
  · go_wp2
    go_ret
    exact ⟨⟨-1, rfl, by omega, by omega, fun h => by omega⟩, HS.below⟩
  · go_wp2_with fail
    refine (szState r.d _ _ q _ (HS.old H.out.dl) (HS.old H.out.dc) HW.out.2 (by omega) (by omega)).mono ?_; rintro e w2 ⟨⟨p, rfl, hp1, hp2, hp3⟩, hb⟩; (first | have H' := HS.of_below hb | have H' := HS.drew.of_below hb | have H' := (HS.box0 [_] _).of_below hb | have H' := ((HS.box0 [_] _).box0 [_] _).of_below hb | have H' := (HS.alloc _).of_below hb | have H' := ((HS.alloc _).alloc _).of_below hb); clear HS; have HS := H'; clear H'; have F := HS.facts; simp only [Own.Facts, Own.Cells, World.size_alloc, List.cons_append, List.nil_append, List.eraseIdx_cons_succ, List.eraseIdx_cons_zero, List.eraseIdx_zero, List.tail_cons, Nat.zero_add] at F
    have HP3 := Lib.hid hp3
    clear hp3
    by_cases hp : p < 0
    · go_wp2
      go_ret
      exact ⟨⟨-1, rfl, by omega, by omega, fun h => by omega⟩, HS.below⟩
    · obtain ⟨g1, g2, g3⟩ := HQ3.out (by omega)
      obtain ⟨g4, g5, g6⟩ := HP3.out (by omega)
      have HN := Lib.hid (show RpN r 1048576 from ⟨⟨by omega, fun y hy => by have := g2 y hy; omega, by omega⟩, ⟨by omega, fun y hy => by have := g5 y hy; omega, by omega⟩⟩)
      clear g1 g2 g3 g4 g5 g6
      go_wp2
      go_ret
      exact ⟨⟨p, rfl, by omega, by omega, fun _ => HN.out⟩, HS.below⟩
theorem toReplica (r : Rp) (a b c d : Value) (w : World) (h : RdR w r a b c d) (hn : RpN r 1048576) :
    Calls Try.prog 10 #[.agg #[.int .i64 r.id, a, b, c, d]] w fun e w' => ∃ a b c d, e = .returned (.agg #[.int .i64 r.id, a, b, c, d]) ∧ Own w [.own a r.s.l, .own b r.s.c, .own c r.d.l, .own d r.d.c] w' := by
  have H := Lib.hid h
  obtain ⟨A1, c1, rfl, _, _⟩ := h.sl.val
  obtain ⟨A2, c2, rfl, _, _⟩ := h.sc.val
  obtain ⟨A3, c3, rfl, _, _⟩ := h.dl.val
  obtain ⟨A4, c4, rfl, _, _⟩ := h.dc.val
  have HN := Lib.hid hn
  clear hn h
  have HS := (((Own.start w).box [.int .i64 r.id, .slice A1 r.s.l.length c1, .slice A2 r.s.c.length c2, .slice A3 r.d.l.length c3, .slice A4 r.d.c.length c4] 29).box (b := w.heap.size + 1) [.int .i64 0, .slice none 0 0, .slice none 0 0, .slice none 0 0, .slice none 0 0] 39).box (b := w.heap.size + 1 + 1) [.int .i64 r.id, .slice none 0 0, .slice none 0 0, .slice none 0 0, .slice none 0 0] 39
  go_enter Try.func10, Try.ntmps10
  go_wp2_with fail
  refine (toState r.s _ _ _ (HS.old H.out.sl) (HS.old H.out.sc) HN.out.1.1 HN.out.1.2.1 HN.out.1.2.2).mono ?_; rintro e w1 ⟨ul, uc, rfl, hs⟩; obtain ⟨A5, c5, rfl, _, _⟩ := (hs.rd 0 rfl).val; obtain ⟨A6, c6, rfl, _, _⟩ := (hs.rd 1 rfl).val; (first | have H' := HS.call2 hs | have H' := HS.drew.call2 hs | have H' := (HS.box0 [_] _).call2 hs | have H' := ((HS.box0 [_] _).box0 [_] _).call2 hs | have H' := (HS.alloc _).call2 hs | have H' := ((HS.alloc _).alloc _).call2 hs); clear HS; have HS := H'; clear H'; have F := HS.facts; simp only [Own.Facts, Own.Cells, World.size_alloc, List.cons_append, List.nil_append, List.eraseIdx_cons_succ, List.eraseIdx_cons_zero, List.eraseIdx_zero, List.tail_cons, Nat.zero_add] at F
  replace HS := ((HS.pick 2 rfl).set 1 (.slice A5 r.s.l.length c5)).set 2 (.slice A6 r.s.c.length c6)
  simp only [List.set_cons_zero, List.set_cons_succ, List.eraseIdx_cons_succ, List.eraseIdx_cons_zero] at HS
  have F := HS.facts; simp only [Own.Facts, Own.Cells, World.size_alloc, List.cons_append, List.nil_append, List.eraseIdx_cons_succ, List.eraseIdx_cons_zero, List.eraseIdx_zero, List.tail_cons, Nat.zero_add] at F
  go_wp2_with fail
  refine (toState r.d _ _ _ (HS.old H.out.dl) (HS.old H.out.dc) HN.out.2.1 HN.out.2.2.1 HN.out.2.2.2).mono ?_; rintro e w2 ⟨ul, uc, rfl, hs⟩; obtain ⟨A7, c7, rfl, _, _⟩ := (hs.rd 0 rfl).val; obtain ⟨A8, c8, rfl, _, _⟩ := (hs.rd 1 rfl).val; (first | have H' := HS.call2 hs | have H' := HS.drew.call2 hs | have H' := (HS.box0 [_] _).call2 hs | have H' := ((HS.box0 [_] _).box0 [_] _).call2 hs | have H' := (HS.alloc _).call2 hs | have H' := ((HS.alloc _).alloc _).call2 hs); clear HS; have HS := H'; clear H'; have F := HS.facts; simp only [Own.Facts, Own.Cells, World.size_alloc, List.cons_append, List.nil_append, List.eraseIdx_cons_succ, List.eraseIdx_cons_zero, List.eraseIdx_zero, List.tail_cons, Nat.zero_add] at F
  go_wp2
  have H2 := ((HS.pick 2 rfl).set 3 (.slice A7 r.d.l.length c7)).set 4 (.slice A8 r.d.c.length c8)
  have F2 := H2.facts
  have H3 := (((((H2.drop.pick 4 rfl).set 0 (.int .i64 r.id)).set 1 (.slice A5 r.s.l.length c5)).set 2 (.slice A6 r.s.c.length c6)).set 3 (.slice A7 r.d.l.length c7)).set 4 (.slice A8 r.d.c.length c8)
  have H4 := (((H3.drop.pick 4 rfl).drop.pick 3 rfl).pick 3 rfl)
  exact bodyPost_ret (v := .agg #[.int .i64 r.id, .slice A5 r.s.l.length c5, .slice A6 r.s.c.length c6, .slice A7 r.d.l.length c7, .slice A8 r.d.c.length c8]) (by simp [results, Try.results10, go_sem, *]) rfl ⟨_, _, _, _, rfl, H4⟩
theorem eqReplica (r q : Rp) (a b c d a' b' c' d' : Value) (w : World) (h : RdR w r a b c d) (h' : RdR w q a' b' c' d') :
    Calls Try.prog 12 #[.agg #[.int .i64 r.id, a, b, c, d], .agg #[.int .i64 q.id, a', b', c', d']] w fun e w' => e = .returned (.bool (decide (r = q))) ∧ Below w.heap.size w w' := by
  have H := Lib.hid h
  have H' := Lib.hid h'
  obtain ⟨A1, c1, rfl, _, _⟩ := h.sl.val
  obtain ⟨A2, c2, rfl, _, _⟩ := h.sc.val
  obtain ⟨A3, c3, rfl, _, _⟩ := h.dl.val
  obtain ⟨A4, c4, rfl, _, _⟩ := h.dc.val
  obtain ⟨A5, c5, rfl, _, _⟩ := h'.sl.val
  obtain ⟨A6, c6, rfl, _, _⟩ := h'.sc.val
  obtain ⟨A7, c7, rfl, _, _⟩ := h'.dl.val
  obtain ⟨A8, c8, rfl, _, _⟩ := h'.dc.val
  clear h h'
  have HS := ((Own.start w).box [.int .i64 r.id, .slice A1 r.s.l.length c1, .slice A2 r.s.c.length c2, .slice A3 r.d.l.length c3, .slice A4 r.d.c.length c4] 39).box (b := w.heap.size + 1) [.int .i64 q.id, .slice A5 q.s.l.length c5, .slice A6 q.s.c.length c6, .slice A7 q.d.l.length c7, .slice A8 q.d.c.length c8] 39
  have HD := Lib.hid (show decide (r = q) = (decide (r.id = q.id) && (decide (r.s = q.s) && decide (r.d = q.d))) by
    obtain ⟨i, s, d⟩ := r
    obtain ⟨i', s', d'⟩ := q
    rw [Bool.eq_iff_iff]; simp)
  by_cases e0 : r.id = q.id
  · have e0b : (r.id != q.id) = false := by simp [e0]
    have HD2 := Lib.hid (show decide (r = q) = (decide (r.s = q.s) && decide (r.d = q.d)) by rw [HD.out, decide_eq_true e0]; rfl)
    clear e0
    by_cases e1 : r.s = q.s
    · have e1b : decide (r.s = q.s) = true := by simp [e1]
      have HD3 := Lib.hid (show decide (r = q) = decide (r.d = q.d) by rw [HD2.out, e1b]; rfl)
      clear e1
      cases e2 : decide (r.d = q.d)
      all_goals
        go_enter Try.func12, Try.ntmps12
        go_wp2_with fail
        refine (eqState r.s q.s _ _ _ _ _ (HS.old H.out.sl) (HS.old H.out.sc) (HS.old H'.out.sl) (HS.old H'.out.sc)).mono ?_; rintro e w1 ⟨rfl, hb⟩; (first | have H' := HS.of_below hb | have H' := HS.drew.of_below hb | have H' := (HS.box0 [_] _).of_below hb | have H' := ((HS.box0 [_] _).box0 [_] _).of_below hb | have H' := (HS.alloc _).of_below hb | have H' := ((HS.alloc _).alloc _).of_below hb); clear HS; have HS := H'; clear H'; have F := HS.facts; simp only [Own.Facts, Own.Cells, World.size_alloc, List.cons_append, List.nil_append, List.eraseIdx_cons_succ, List.eraseIdx_cons_zero, List.eraseIdx_zero, List.tail_cons, Nat.zero_add] at F
        rw [e1b]
        go_wp2_with fail
        refine (eqState r.d q.d _ _ _ _ _ (HS.old H.out.dl) (HS.old H.out.dc) (HS.old H'.out.dl) (HS.old H'.out.dc)).mono ?_; rintro e w2 ⟨rfl, hb⟩; (first | have H' := HS.of_below hb | have H' := HS.drew.of_below hb | have H' := (HS.box0 [_] _).of_below hb | have H' := ((HS.box0 [_] _).box0 [_] _).of_below hb | have H' := (HS.alloc _).of_below hb | have H' := ((HS.alloc _).alloc _).of_below hb); clear HS; have HS := H'; clear H'; have F := HS.facts; simp only [Own.Facts, Own.Cells, World.size_alloc, List.cons_append, List.nil_append, List.eraseIdx_cons_succ, List.eraseIdx_cons_zero, List.eraseIdx_zero, List.tail_cons, Nat.zero_add] at F
        rw [e2]
        go_wp2
        go_ret
        exact ⟨by rw [HD3.out, e2]; rfl, HS.below⟩
    · have e1b : decide (r.s = q.s) = false := by simp [e1]
      have HD3 := Lib.hid (show decide (r = q) = false by rw [HD2.out, e1b]; rfl)
      clear e1
      go_enter Try.func12, Try.ntmps12
      go_wp2_with fail
      refine (eqState r.s q.s _ _ _ _ _ (HS.old H.out.sl) (HS.old H.out.sc) (HS.old H'.out.sl) (HS.old H'.out.sc)).mono ?_; rintro e w1 ⟨rfl, hb⟩; (first | have H' := HS.of_below hb | have H' := HS.drew.of_below hb | have H' := (HS.box0 [_] _).of_below hb | have H' := ((HS.box0 [_] _).box0 [_] _).of_below hb | have H' := (HS.alloc _).of_below hb | have H' := ((HS.alloc _).alloc _).of_below hb); clear HS; have HS := H'; clear H'; have F := HS.facts; simp only [Own.Facts, Own.Cells, World.size_alloc, List.cons_append, List.nil_append, List.eraseIdx_cons_succ, List.eraseIdx_cons_zero, List.eraseIdx_zero, List.tail_cons, Nat.zero_add] at F
      rw [e1b]
      go_wp2
      go_ret
      exact ⟨by rw [HD3.out]; rfl, HS.below⟩
  · have e0b : (r.id != q.id) = true := by simp [e0]
    have HD3 := Lib.hid (show decide (r = q) = false by rw [HD.out, decide_eq_false e0]; rfl)
    clear e0
    go_enter Try.func12, Try.ntmps12
    go_wp2
    go_ret
    exact ⟨by rw [HD3.out]; rfl, HS.below⟩
theorem implReplicaOk (r : Rp) (a b c d : Value) (w : World) (h : RdR w r a b c d) (hw : RpW r) (hn : RpN r 1048576) :
    Calls Try.prog 11 #[.agg #[.int .i64 r.id, a, b, c, d]] w fun e w' => e = .returned (.bool (rpOk r)) ∧ Below w.heap.size w w' := by
  have H := Lib.hid h
  obtain ⟨A1, c1, rfl, _, _⟩ := h.sl.val
  obtain ⟨A2, c2, rfl, _, _⟩ := h.sc.val
  obtain ⟨A3, c3, rfl, _, _⟩ := h.dl.val
  obtain ⟨A4, c4, rfl, _, _⟩ := h.dc.val
  have HW := Lib.hid hw
  have HN := Lib.hid hn
  clear hw h hn
  have HS := (Own.start w).box [.int .i64 r.id, .slice A1 r.s.l.length c1, .slice A2 r.s.c.length c2, .slice A3 r.d.l.length c3, .slice A4 r.d.c.length c4] 39
  by_cases i0 : 0 ≤ r.id
  · have i0b : decide (0 ≤ r.id) = true := by simpa using i0
    by_cases i1 : r.id < 8
    · have i1b : decide (r.id < 8) = true := by simpa using i1
      cases f1 : fitB r.s
      · have HD := Lib.hid (show rpOk r = false by unfold rpOk; rw [f1]; simp)
        go_enter Try.func11, Try.ntmps11
        go_wp2_with fail
        refine (implFit r.s _ _ _ (HS.old H.out.sl) (HS.old H.out.sc) HW.out.1 HN.out.1.2.2).mono ?_; rintro e w1 ⟨rfl, hb⟩; (first | have H' := HS.of_below hb | have H' := HS.drew.of_below hb | have H' := (HS.box0 [_] _).of_below hb | have H' := ((HS.box0 [_] _).box0 [_] _).of_below hb | have H' := (HS.alloc _).of_below hb | have H' := ((HS.alloc _).alloc _).of_below hb); clear HS; have HS := H'; clear H'; have F := HS.facts; simp only [Own.Facts, Own.Cells, World.size_alloc, List.cons_append, List.nil_append, List.eraseIdx_cons_succ, List.eraseIdx_cons_zero, List.eraseIdx_zero, List.tail_cons, Nat.zero_add] at F
        rw [f1]
        go_wp2
        go_ret
        exact ⟨by rw [HD.out]; rfl, HS.below⟩
      · cases f2 : fitB r.d
        all_goals
          have HD := Lib.hid (show rpOk r = fitB r.d by unfold rpOk; rw [f1, i0b, i1b]; simp)
          go_enter Try.func11, Try.ntmps11
          go_wp2_with fail
          refine (implFit r.s _ _ _ (HS.old H.out.sl) (HS.old H.out.sc) HW.out.1 HN.out.1.2.2).mono ?_; rintro e w1 ⟨rfl, hb⟩; (first | have H' := HS.of_below hb | have H' := HS.drew.of_below hb | have H' := (HS.box0 [_] _).of_below hb | have H' := ((HS.box0 [_] _).box0 [_] _).of_below hb | have H' := (HS.alloc _).of_below hb | have H' := ((HS.alloc _).alloc _).of_below hb); clear HS; have HS := H'; clear H'; have F := HS.facts; simp only [Own.Facts, Own.Cells, World.size_alloc, List.cons_append, List.nil_append, List.eraseIdx_cons_succ, List.eraseIdx_cons_zero, List.eraseIdx_zero, List.tail_cons, Nat.zero_add] at F
          rw [f1]
          go_wp2_with fail
          refine (implFit r.d _ _ _ (HS.old H.out.dl) (HS.old H.out.dc) HW.out.2 HN.out.2.2.2).mono ?_; rintro e w2 ⟨rfl, hb⟩; (first | have H' := HS.of_below hb | have H' := HS.drew.of_below hb | have H' := (HS.box0 [_] _).of_below hb | have H' := ((HS.box0 [_] _).box0 [_] _).of_below hb | have H' := (HS.alloc _).of_below hb | have H' := ((HS.alloc _).alloc _).of_below hb); clear HS; have HS := H'; clear H'; have F := HS.facts; simp only [Own.Facts, Own.Cells, World.size_alloc, List.cons_append, List.nil_append, List.eraseIdx_cons_succ, List.eraseIdx_cons_zero, List.eraseIdx_zero, List.tail_cons, Nat.zero_add] at F
          rw [f2]
          go_wp2
          go_ret
          exact ⟨by rw [HD.out, f2]; rfl, HS.below⟩
    · have i1b : decide (r.id < 8) = false := by simpa using i1
      have HD := Lib.hid (show rpOk r = false by unfold rpOk; rw [i1b]; simp)
      go_enter Try.func11, Try.ntmps11
      go_wp2
      go_ret
      exact ⟨by rw [HD.out]; rfl, HS.below⟩
  · have i0b : decide (0 ≤ r.id) = false := by simpa using i0
    have HD := Lib.hid (show rpOk r = false by unfold rpOk; rw [i0b]; rfl)
    go_enter Try.func11, Try.ntmps11
    go_wp2
    go_ret
    exact ⟨by rw [HD.out]; rfl, HS.below⟩
theorem specReplicaOk (r : Rp) (a b c d : Value) (w : World) (h : RdR w r a b c d) (hw : RpW r) (hn : RpN r 1048576) :
    Calls Try.prog 9 #[.agg #[.int .i64 r.id, a, b, c, d]] w fun e w' => e = .returned (.bool (rpOk r)) ∧ Below w.heap.size w w' := by
  have H := Lib.hid h
  obtain ⟨A1, c1, rfl, _, _⟩ := h.sl.val
  obtain ⟨A2, c2, rfl, _, _⟩ := h.sc.val
  obtain ⟨A3, c3, rfl, _, _⟩ := h.dl.val
  obtain ⟨A4, c4, rfl, _, _⟩ := h.dc.val
  have HW := Lib.hid hw
  have HN := Lib.hid hn
  clear hw h hn
  have HS := (Own.start w).box [.int .i64 r.id, .slice A1 r.s.l.length c1, .slice A2 r.s.c.length c2, .slice A3 r.d.l.length c3, .slice A4 r.d.c.length c4] 39
  by_cases i0 : 0 ≤ r.id
  · have i0b : decide (0 ≤ r.id) = true := by simpa using i0
    by_cases i1 : r.id < 8
    · have i1b : decide (r.id < 8) = true := by simpa using i1
      cases f1 : fitB r.s
      · have HD := Lib.hid (show rpOk r = false by unfold rpOk; rw [f1]; simp)
        go_enter Try.func9, Try.ntmps9
        go_wp2_with fail
        refine (specFit r.s _ _ _ (HS.old H.out.sl) (HS.old H.out.sc) HW.out.1).mono ?_; rintro e w1 ⟨rfl, hb⟩; (first | have H' := HS.of_below hb | have H' := HS.drew.of_below hb | have H' := (HS.box0 [_] _).of_below hb | have H' := ((HS.box0 [_] _).box0 [_] _).of_below hb | have H' := (HS.alloc _).of_below hb | have H' := ((HS.alloc _).alloc _).of_below hb); clear HS; have HS := H'; clear H'; have F := HS.facts; simp only [Own.Facts, Own.Cells, World.size_alloc, List.cons_append, List.nil_append, List.eraseIdx_cons_succ, List.eraseIdx_cons_zero, List.eraseIdx_zero, List.tail_cons, Nat.zero_add] at F
        rw [f1]
        go_wp2
        go_ret
        exact ⟨by rw [HD.out]; rfl, HS.below⟩
      · cases f2 : fitB r.d
        all_goals
          have HD := Lib.hid (show rpOk r = fitB r.d by unfold rpOk; rw [f1, i0b, i1b]; simp)
          go_enter Try.func9, Try.ntmps9
          go_wp2_with fail
          refine (specFit r.s _ _ _ (HS.old H.out.sl) (HS.old H.out.sc) HW.out.1).mono ?_; rintro e w1 ⟨rfl, hb⟩; (first | have H' := HS.of_below hb | have H' := HS.drew.of_below hb | have H' := (HS.box0 [_] _).of_below hb | have H' := ((HS.box0 [_] _).box0 [_] _).of_below hb | have H' := (HS.alloc _).of_below hb | have H' := ((HS.alloc _).alloc _).of_below hb); clear HS; have HS := H'; clear H'; have F := HS.facts; simp only [Own.Facts, Own.Cells, World.size_alloc, List.cons_append, List.nil_append, List.eraseIdx_cons_succ, List.eraseIdx_cons_zero, List.eraseIdx_zero, List.tail_cons, Nat.zero_add] at F
          rw [f1]
          go_wp2_with fail
          refine (specFit r.d _ _ _ (HS.old H.out.dl) (HS.old H.out.dc) HW.out.2).mono ?_; rintro e w2 ⟨rfl, hb⟩; (first | have H' := HS.of_below hb | have H' := HS.drew.of_below hb | have H' := (HS.box0 [_] _).of_below hb | have H' := ((HS.box0 [_] _).box0 [_] _).of_below hb | have H' := (HS.alloc _).of_below hb | have H' := ((HS.alloc _).alloc _).of_below hb); clear HS; have HS := H'; clear H'; have F := HS.facts; simp only [Own.Facts, Own.Cells, World.size_alloc, List.cons_append, List.nil_append, List.eraseIdx_cons_succ, List.eraseIdx_cons_zero, List.eraseIdx_zero, List.tail_cons, Nat.zero_add] at F
          rw [f2]
          go_wp2
          go_ret
          exact ⟨by rw [HD.out, f2]; rfl, HS.below⟩
    · have i1b : decide (r.id < 8) = false := by simpa using i1
      have HD := Lib.hid (show rpOk r = false by unfold rpOk; rw [i1b]; simp)
      go_enter Try.func9, Try.ntmps9
      go_wp2
      go_ret
      exact ⟨by rw [HD.out]; rfl, HS.below⟩
  · have i0b : decide (0 ≤ r.id) = false := by simpa using i0
    have HD := Lib.hid (show rpOk r = false by unfold rpOk; rw [i0b]; rfl)
    go_enter Try.func9, Try.ntmps9
    go_wp2
    go_ret
    exact ⟨by rw [HD.out]; rfl, HS.below⟩
end Go.Proofs.Ytbcgbkeldcaalaa
