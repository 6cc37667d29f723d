/- Whole: the program's side and the reference's; marks of replicas. -/
import Derived.Test.YtbcgbkeldcaalaaZ2
import Derived.Test.YtbcgbkeldcaalaaF1
namespace Go.Proofs.Ytbcgbkeldcaalaa
set_option linter.unusedSimpArgs false
set_option linter.unusedVariables false
open Go.RowKit Go.Ow
attribute [local irreducible] wpQuiet
set_option maxRecDepth 100000
def whR (r : Rp) : Int × List UInt8 := if rpOk r = true then (2, (psR r.s).1) else (0, [])
theorem markReplica {W : World} {R : List Ds} (r : Rp) (a b c d : Value) (k : Nat) (w : World) (HS : Own W (.own a r.s.l :: .own b r.s.c :: .own c r.d.l :: .own d r.d.c :: R) w) (hk : k + msz r.s + msz r.d ≤ 4611686018427387904) :
    Calls Try.prog 25 #[.agg #[.int .i64 r.id, a, b, c, d], .int .i64 k] w fun e w' => e = .returned (.int .i64 ((k + msz r.s + msz r.d : Nat) : Int)) ∧ Own W (.own a (mst r.s k).l :: .own b (mst r.s k).c :: .own c (mst r.d (k + msz r.s)).l :: .own d (mst r.d (k + msz r.s)).c :: R) w' := by
  obtain ⟨A1, c1, rfl, _, _⟩ := (HS.rd 0 rfl).val
  obtain ⟨A2, c2, rfl, _, _⟩ := (HS.rd 1 rfl).val
  obtain ⟨A3, c3, rfl, _, _⟩ := (HS.rd 2 rfl).val
  obtain ⟨A4, c4, rfl, _, _⟩ := (HS.rd 3 rfl).val
  have m1 : lsz r.s.l ≤ msz r.s := by unfold msz; omega
  have m2 : lsz r.d.l ≤ msz r.d := by unfold msz; omega
  replace HS := HS.box (b := w.heap.size) [.int .i64 r.id, .slice A1 r.s.l.length c1, .slice A2 r.s.c.length c2, .slice A3 r.d.l.length c3, .slice A4 r.d.c.length c4] 39
  go_enter Try.func25, Try.ntmps25
  go_wp2_with fail
  refine (markState r.s _ _ k _ ((HS.pick 2 rfl).pick 2 rfl) (by omega)).mono ?_
  rintro e w1 ⟨rfl, H1⟩
  have F := (H1.pick 2 rfl).only.facts
  simp only [Own.Facts, Own.Cells, Nat.zero_add, Nat.reduceAdd, and_true] at F
  go_wp2_with fail
  refine (markState r.d _ _ (k + msz r.s) _ ((H1.pick 4 rfl).pick 4 rfl) (by omega)).mono ?_
  rintro e w2 ⟨rfl, H2⟩
  have H3 := ((H2.pick 4 rfl).drop.pick 3 rfl).pick 3 rfl
  simp only [List.eraseIdx_cons_succ, List.eraseIdx_cons_zero] at H3
  clear F
  go_wp2
  go_ret
  exact ⟨rfl, H3⟩
theorem implWhole (r : Rp) (a b c d : Value) (w : World) (h : RdR w r a b c d) (hw : RpW r) (hn : RpN r 1048576) :
    Calls Try.prog 23 #[.agg #[.int .i64 r.id, a, b, c, d]] w fun e w' => ∃ v, e = .returned (.tuple #[.agg #[.int .i64 (whR r).1, v], .bool (rpOk r)]) ∧ Own w [.own v (whR r).2] w' := by
  have H := Lib.hid h
  obtain ⟨A1, c1, rfl, _, _⟩ := h.sl.val
  obtain ⟨A2, c2, rfl, _, _⟩ := h.sc.val
  obtain ⟨A3, c3, rfl, _, _⟩ := h.dl.val
  obtain ⟨A4, c4, rfl, _, _⟩ := h.dc.val
  have HW := Lib.hid hw
  have HN := Lib.hid hn
  clear hw h hn
  have HS := ((Own.start w).box [.int .i64 r.id, .slice A1 r.s.l.length c1, .slice A2 r.s.c.length c2, .slice A3 r.d.l.length c3, .slice A4 r.d.c.length c4] 39).box (b := w.heap.size + 1) [.int .i64 0, .slice none 0 0] 54
  cases hx : rpOk r
  · have HR := Lib.hid (show whR r = (0, []) by unfold whR; rw [if_neg (by simp [hx])])
    go_enter Try.func23, Try.ntmps23
    go_wp2_with fail
    refine (implReplicaOk r _ _ _ _ _ (H.out.old HS) HW.out HN.out).mono ?_; rintro e w1 ⟨rfl, hb⟩; (first | have H' := HS.of_below hb | have H' := HS.drew.of_below hb | have H' := (HS.box0 [_] _).of_below hb | have H' := ((HS.box0 [_] _).box0 [_] _).of_below hb | have H' := (HS.alloc _).of_below hb | have H' := ((HS.alloc _).alloc _).of_below hb); clear HS; have HS := H'; clear H'; have F := HS.facts; simp only [Own.Facts, Own.Cells, World.size_alloc, List.cons_append, List.nil_append, List.eraseIdx_cons_succ, List.eraseIdx_cons_zero, List.eraseIdx_zero, List.tail_cons, Nat.zero_add] at F
    rw [hx]
    go_wp2
    have H2 := ((HS.set 0 (.int .i64 0)).set 1 (.slice none 0 0)).drop.drop.nil (α := UInt8)
    exact bodyPost_ret (v := .tuple #[.agg #[.int .i64 0, .slice none 0 0], .bool false]) (by simp [results, Try.results23, go_sem, *]) rfl ⟨_, by rw [HR.out], by rw [HR.out]; exact H2⟩
  · have HR := Lib.hid (show whR r = (2, (psR r.s).1) by unfold whR; rw [if_pos hx])
    obtain ⟨T, hT⟩ : ∃ T, (psR r.s).1 = T := ⟨_, rfl⟩
    obtain ⟨kc, hkc⟩ : ∃ k, (psR r.s).2 = k := ⟨_, rfl⟩
    have HT := Lib.hid (And.intro hT hkc)
    clear hT hkc
    go_enter Try.func23, Try.ntmps23
    go_wp2_with fail
    refine (implReplicaOk r _ _ _ _ _ (H.out.old HS) HW.out HN.out).mono ?_; rintro e w1 ⟨rfl, hb⟩; (first | have H' := HS.of_below hb | have H' := HS.drew.of_below hb | have H' := (HS.box0 [_] _).of_below hb | have H' := ((HS.box0 [_] _).box0 [_] _).of_below hb | have H' := (HS.alloc _).of_below hb | have H' := ((HS.alloc _).alloc _).of_below hb); clear HS; have HS := H'; clear H'; have F := HS.facts; simp only [Own.Facts, Own.Cells, World.size_alloc, List.cons_append, List.nil_append, List.eraseIdx_cons_succ, List.eraseIdx_cons_zero, List.eraseIdx_zero, List.tail_cons, Nat.zero_add] at F
    rw [hx]
    go_wp2_with fail
    refine (show Calls Try.prog 16 _ _ (fun e w' => ∃ v', e = .returned (.tuple #[v', .int .i64 (kc : Nat)]) ∧ Own _ [.own v' T] w') from by have h := implPutState r.s _ _ _ (HS.old H.out.sl) (HS.old H.out.sc) HW.out.1 HN.out.1.2.2; rw [HT.out.1, HT.out.2] at h; exact h).mono ?_
    rintro e w2 ⟨v', rfl, hs⟩
    obtain ⟨A5, c5, rfl, _, _⟩ := (hs.rd 0 rfl).val
    replace HS := HS.call1 hs
    clear hs
    have F := HS.facts; simp only [Own.Facts, Own.Cells, World.size_alloc, List.cons_append, List.nil_append, List.eraseIdx_cons_succ, List.eraseIdx_cons_zero, List.eraseIdx_zero, List.tail_cons, Nat.zero_add] at F
    go_wp2
    have H2 := ((((HS.pick 1 rfl).set 0 (.int .i64 2)).set 1 (.slice A5 T.length c5)).drop.pick 1 rfl).drop
    exact bodyPost_ret (v := .tuple #[.agg #[.int .i64 2, .slice A5 T.length c5], .bool true]) (by simp [results, Try.results23, go_sem, *]) rfl ⟨_, by rw [HR.out], by rw [HR.out, HT.out.1]; exact H2⟩
theorem specWhole (r : Rp) (a b c d : Value) (w : World) (h : RdR w r a b c d) (hw : RpW r) (hn : RpN r 1048576) :
    Calls Try.prog 22 #[.agg #[.int .i64 r.id, a, b, c, d]] w fun e w' => ∃ v, e = .returned (.tuple #[.agg #[.int .i64 (whR r).1, v], .bool (rpOk r)]) ∧ Own w [.own v (whR r).2] w' := by
  have H := Lib.hid h
  obtain ⟨A1, c1, rfl, _, _⟩ := h.sl.val
  obtain ⟨A2, c2, rfl, _, _⟩ := h.sc.val
  obtain ⟨A3, c3, rfl, _, _⟩ := h.dl.val
  obtain ⟨A4, c4, rfl, _, _⟩ := h.dc.val
  have HW := Lib.hid hw
  have HN := Lib.hid hn
  clear hw h hn
  have HS := ((Own.start w).box [.int .i64 r.id, .slice A1 r.s.l.length c1, .slice A2 r.s.c.length c2, .slice A3 r.d.l.length c3, .slice A4 r.d.c.length c4] 39).box (b := w.heap.size + 1) [.int .i64 0, .slice none 0 0] 54
  cases hx : rpOk r
  · have HR := Lib.hid (show whR r = (0, []) by unfold whR; rw [if_neg (by simp [hx])])
    go_enter Try.func22, Try.ntmps22
    go_wp2_with fail
    refine (specReplicaOk r _ _ _ _ _ (H.out.old HS) HW.out HN.out).mono ?_; rintro e w1 ⟨rfl, hb⟩; (first | have H' := HS.of_below hb | have H' := HS.drew.of_below hb | have H' := (HS.box0 [_] _).of_below hb | have H' := ((HS.box0 [_] _).box0 [_] _).of_below hb | have H' := (HS.alloc _).of_below hb | have H' := ((HS.alloc _).alloc _).of_below hb); clear HS; have HS := H'; clear H'; have F := HS.facts; simp only [Own.Facts, Own.Cells, World.size_alloc, List.cons_append, List.nil_append, List.eraseIdx_cons_succ, List.eraseIdx_cons_zero, List.eraseIdx_zero, List.tail_cons, Nat.zero_add] at F
    rw [hx]
    go_wp2
    have H2 := ((HS.set 0 (.int .i64 0)).set 1 (.slice none 0 0)).drop.drop.nil (α := UInt8)
    exact bodyPost_ret (v := .tuple #[.agg #[.int .i64 0, .slice none 0 0], .bool false]) (by simp [results, Try.results22, go_sem, *]) rfl ⟨_, by rw [HR.out], by rw [HR.out]; exact H2⟩
  · have HR := Lib.hid (show whR r = (2, (psR r.s).1) by unfold whR; rw [if_pos hx])
    obtain ⟨T, hT⟩ : ∃ T, (psR r.s).1 = T := ⟨_, rfl⟩
    obtain ⟨kc, hkc⟩ : ∃ k, (psR r.s).2 = k := ⟨_, rfl⟩
    have HT := Lib.hid (And.intro hT hkc)
    clear hT hkc
    go_enter Try.func22, Try.ntmps22
    go_wp2_with fail
    refine (specReplicaOk r _ _ _ _ _ (H.out.old HS) HW.out HN.out).mono ?_; rintro e w1 ⟨rfl, hb⟩; (first | have H' := HS.of_below hb | have H' := HS.drew.of_below hb | have H' := (HS.box0 [_] _).of_below hb | have H' := ((HS.box0 [_] _).box0 [_] _).of_below hb | have H' := (HS.alloc _).of_below hb | have H' := ((HS.alloc _).alloc _).of_below hb); clear HS; have HS := H'; clear H'; have F := HS.facts; simp only [Own.Facts, Own.Cells, World.size_alloc, List.cons_append, List.nil_append, List.eraseIdx_cons_succ, List.eraseIdx_cons_zero, List.eraseIdx_zero, List.tail_cons, Nat.zero_add] at F
    rw [hx]
    go_wp2_with fail
    refine (show Calls Try.prog 14 _ _ (fun e w' => ∃ v', e = .returned (.tuple #[v', .int .i64 (kc : Nat)]) ∧ Own _ [.own v' T] w') from by have h := specPutState r.s _ _ _ (HS.old H.out.sl) (HS.old H.out.sc) HW.out.1; rw [HT.out.1, HT.out.2] at h; exact h).mono ?_
    rintro e w2 ⟨v', rfl, hs⟩
    obtain ⟨A5, c5, rfl, _, _⟩ := (hs.rd 0 rfl).val
    replace HS := HS.call1 hs
    clear hs
    have F := HS.facts; simp only [Own.Facts, Own.Cells, World.size_alloc, List.cons_append, List.nil_append, List.eraseIdx_cons_succ, List.eraseIdx_cons_zero, List.eraseIdx_zero, List.tail_cons, Nat.zero_add] at F
    go_wp2
    have H2 := ((((HS.pick 1 rfl).set 0 (.int .i64 2)).set 1 (.slice A5 T.length c5)).drop.pick 1 rfl).drop
    exact bodyPost_ret (v := .tuple #[.agg #[.int .i64 2, .slice A5 T.length c5], .bool true]) (by simp [results, Try.results22, go_sem, *]) rfl ⟨_, by rw [HR.out], by rw [HR.out, HT.out.1]; exact H2⟩
theorem heldFrame {W : World} {R : List Ds} (k0 : Int) (xs : List UInt8) (v : Value) (k : Nat) (w : World) (HS : Own W (.own v (bmarks xs.length k) :: R) w) (hk : k ≤ 4611686018427387904) (hx : xs.length ≤ 140737488355328) : Calls Try.prog 27 #[.agg #[.int .i64 k0, v], .int .i64 k] w fun e w' => e = .returned (.int .i64 ((k + xs.length : Nat) : Int)) ∧ Below w.heap.size w w' := by
  obtain ⟨A, c, rfl, hc, hl⟩ := (HS.rd 0 rfl).val
  have H0 := HS.alloc (.cells #[.int .i64 k0, .slice A (bmarks xs.length k).length c] 54)
  have HB := (Own.start w).alloc (.cells #[.int .i64 k0, .slice A (bmarks xs.length k).length c] 54)
  have hnn : (0 : Int) ≤ ((k + xs.length : Nat) : Int) := by omega
  go_enter Try.func27, Try.ntmps27
  go_wp2_with fail
  refine (heldByteS xs _ k _ H0 hk hx).mono ?_
  rintro e w1 ⟨rfl, hb1⟩
  have H1 := HB.of_below hb1
  go_wp2
  go_ret
  exact ⟨rfl, H1.below⟩
end Go.Proofs.Ytbcgbkeldcaalaa
