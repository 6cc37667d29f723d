/- FnExactWhole: for every replica the law returns true, and the replica reads behind the call as it read before. No condition. -/
import Derived.Test.YtbcgbkeldcaalaaZ3
import Derived.Test.YtbcgbkeldcaalaaZ4
namespace Go.Proofs.Ytbcgbkeldcaalaa
set_option linter.unusedSimpArgs false
set_option linter.unusedVariables false
open Go.RowKit Go.Ow
attribute [local irreducible] wpQuiet
set_option maxRecDepth 100000
theorem lsz_boundR (M : Nat) : ∀ l : List Lf, (∀ y ∈ l, y.p.length ≤ M) → lsz l ≤ l.length * (M + 4)
  | [], _ => by simp [lsz]
  | x :: l, h => by
    have h1 := h x (by simp)
    have h2 := lsz_boundR M l fun y hy => h y (List.mem_cons_of_mem _ hy)
    rw [lsz, List.length_cons, Nat.succ_mul]; omega
theorem msz_bound {s : St} (h : s.l.length ≤ 1048576 ∧ (∀ y ∈ s.l, y.p.length ≤ 1048576) ∧ s.c.length ≤ 1048576) : msz s ≤ 2199030595584 := by
  have h1 := lsz_boundR 1048576 s.l h.2.1
  have h2 := Nat.mul_le_mul_right (1048576 + 4) h.1
  have h3 := h.2.2
  unfold msz; omega
theorem psR_lenR (s : St) : (psR s).1.length ≤ 4000 := by
  unfold psR
  split
  · split
    · assumption
    · simp
  · simp
theorem whR_len (r : Rp) : (whR r).2.length ≤ 4000 := by
  unfold whR
  split
  · exact psR_lenR r.s
  · simp
theorem wh2 {f : FuncId} {args : Array Value} {w : World} {r : Rp} {k : Int} {T : List UInt8} {ok : Bool} (h1 : (whR r).1 = k ∧ (whR r).2 = T ∧ rpOk r = ok) (h : Calls Try.prog f args w fun e w' => ∃ v', e = .returned (.tuple #[.agg #[.int .i64 (whR r).1, v'], .bool (rpOk r)]) ∧ Own w [.own v' (whR r).2] w') :
    Calls Try.prog f args w fun e w' => ∃ v', e = .returned (.tuple #[.agg #[.int .i64 k, v'], .bool ok]) ∧ Own w [.own v' T] w' := by
  rw [h1.1, h1.2.1, h1.2.2] at h; exact h
set_option maxHeartbeats 16000000 in
theorem lawWhole (r : Rp) (a b c d : Value) (w : World) (h : RdR w r a b c d) (hw : RpW r) : Calls Try.prog 5 #[.agg #[.int .i64 r.id, a, b, c, d]] w fun e w' => e = .returned (.bool true) ∧ Below w.heap.size w w' := by
  have H := Lib.hid h
  have hsl := h.sl
  have hsc := h.sc
  have hdl := h.dl
  have hdc := h.dc
  obtain ⟨A1, c1, rfl, _, _⟩ := h.sl.val
  obtain ⟨A2, c2, rfl, _, _⟩ := h.sc.val
  obtain ⟨A3, c3, rfl, _, _⟩ := h.dl.val
  obtain ⟨A4, c4, rfl, _, _⟩ := h.dc.val
  have HW := Lib.hid hw
  clear hw h
  have hTl := whR_len r
  obtain ⟨kk, hk1⟩ : ∃ k, (whR r).1 = k := ⟨_, rfl⟩
  obtain ⟨T, hk2⟩ : ∃ k, (whR r).2 = k := ⟨_, rfl⟩
  obtain ⟨ok, hk3⟩ : ∃ k, rpOk r = k := ⟨_, rfl⟩
  rw [hk2] at hTl
  have HT := Lib.hid (And.intro hk1 (And.intro hk2 hk3))
  clear hk1 hk2 hk3
  have HS := (Own.start w).box [.int .i64 r.id, .slice A1 r.s.l.length c1, .slice A2 r.s.c.length c2, .slice A3 r.d.l.length c3, .slice A4 r.d.c.length c4] 29
  go_enter Try.func5, Try.ntmps5
  go_wp2_with fail
  refine (szReplica r _ _ _ _ 1048576 _ (H.out.old HS) HW.out (by omega) (by omega)).mono ?_; rintro e w1 ⟨⟨q, rfl, hq1, hq2, hq3⟩, hb⟩; (first | have H' := HS.of_below hb | have H' := HS.drew.of_below hb | have H' := (HS.box0 [_] _).of_below hb | have H' := ((HS.box0 [_] _).box0 [_] _).of_below hb | have H' := (HS.alloc _).of_below hb | have H' := ((HS.alloc _).alloc _).of_below hb); clear HS; have HS := H'; clear H'; have F := HS.facts; simp only [Own.Facts, Own.Cells, World.size_alloc, List.cons_append, List.nil_append, List.eraseIdx_cons_succ, List.eraseIdx_cons_zero, List.eraseIdx_zero, List.tail_cons, Nat.zero_add] at F
  have HQ3 := Lib.hid hq3
  clear hq3
  by_cases hq : q < 0
  · go_wp2
    go_ret
    exact ⟨rfl, HS.below⟩
  · have HN := Lib.hid (HQ3.out (by omega))
    clear HQ3
    have ms := msz_bound HN.out.1
    have md := msz_bound HN.out.2
    go_wp2_with fail
    refine (toReplica r _ _ _ _ _ (H.out.old HS) HN.out).mono ?_; rintro e w2 ⟨a2, b2, c2', d2, rfl, hs⟩; obtain ⟨A5, c5, rfl, _, _⟩ := (hs.rd 0 rfl).val; obtain ⟨A6, c6, rfl, _, _⟩ := (hs.rd 1 rfl).val; obtain ⟨A7, c7, rfl, _, _⟩ := (hs.rd 2 rfl).val; obtain ⟨A8, c8, rfl, _, _⟩ := (hs.rd 3 rfl).val; replace HS := HS.call hs; simp only [List.cons_append, List.nil_append] at HS; clear hs; have F := HS.facts; simp only [Own.Facts, Own.Cells, World.size_alloc, List.cons_append, List.nil_append, List.eraseIdx_cons_succ, List.eraseIdx_cons_zero, List.eraseIdx_zero, List.tail_cons, Nat.zero_add] at F
    go_wp2_with fail
    refine (wh2 HT.out (specWhole r _ _ _ _ _ ⟨HS.rd 0 rfl, HS.rd 1 rfl, HS.rd 2 rfl, HS.rd 3 rfl⟩ HW.out HN.out)).mono ?_
    rintro e w3 ⟨v3, rfl, hs⟩
    obtain ⟨AW, cW, rfl, _, _⟩ := (hs.rd 0 rfl).val
    replace HS := (HS.call1 hs).box (b := w3.heap.size) [.int .i64 kk, .slice AW T.length cW] 54
    clear hs F
    have F := HS.facts; simp only [Own.Facts, Own.Cells, World.size_alloc, List.cons_append, List.nil_append, List.eraseIdx_cons_succ, List.eraseIdx_cons_zero, List.eraseIdx_zero, List.tail_cons, Nat.zero_add] at F
    go_wp2_with fail
    refine (toReplica r _ _ _ _ _ (H.out.old HS) HN.out).mono ?_; rintro e w4 ⟨a2, b2, c2', d2, rfl, hs⟩; obtain ⟨A9, c9, rfl, _, _⟩ := (hs.rd 0 rfl).val; obtain ⟨B1, e1, rfl, _, _⟩ := (hs.rd 1 rfl).val; obtain ⟨B2, e2, rfl, _, _⟩ := (hs.rd 2 rfl).val; obtain ⟨B3, e3, rfl, _, _⟩ := (hs.rd 3 rfl).val; replace HS := HS.call hs; simp only [List.cons_append, List.nil_append] at HS; clear hs; have F := HS.facts; simp only [Own.Facts, Own.Cells, World.size_alloc, List.cons_append, List.nil_append, List.eraseIdx_cons_succ, List.eraseIdx_cons_zero, List.eraseIdx_zero, List.tail_cons, Nat.zero_add] at F
    replace HS := (HS.box (b := w4.heap.size) [.int .i64 r.id, .slice A9 r.s.l.length c9, .slice B1 r.s.c.length e1, .slice B2 r.d.l.length e2, .slice B3 r.d.c.length e3] 39)
    clear F
    have F := HS.facts; simp only [Own.Facts, Own.Cells, World.size_alloc, List.cons_append, List.nil_append, List.eraseIdx_cons_succ, List.eraseIdx_cons_zero, List.eraseIdx_zero, List.tail_cons, Nat.zero_add] at F
    go_wp2_with fail
    refine (wh2 HT.out (implWhole r _ _ _ _ _ ⟨HS.rd 1 rfl, HS.rd 2 rfl, HS.rd 3 rfl, HS.rd 4 rfl⟩ HW.out HN.out)).mono ?_
    rintro e w5 ⟨v5, rfl, hs⟩
    obtain ⟨AG, cG, rfl, _, _⟩ := (hs.rd 0 rfl).val
    replace HS := (HS.call1 hs).box (b := w5.heap.size) [.int .i64 kk, .slice AG T.length cG] 54
    clear hs F
    have F := HS.facts; simp only [Own.Facts, Own.Cells, World.size_alloc, List.cons_append, List.nil_append, List.eraseIdx_cons_succ, List.eraseIdx_cons_zero, List.eraseIdx_zero, List.tail_cons, Nat.zero_add] at F
    have hd1 : decide (kk = kk ∧ T = T) = true := by simp
    have hd3 : decide (r = r) = true := by simp
    go_wp2_with fail
    refine (eqFrame kk kk T T _ _ _ (HS.rd 1 rfl) (HS.rd 8 rfl)).mono ?_; rintro e w6 ⟨rfl, hb⟩; (first | have H' := HS.of_below hb | have H' := HS.drew.of_below hb | have H' := (HS.box0 [_] _).of_below hb | have H' := ((HS.box0 [_] _).box0 [_] _).of_below hb | have H' := (HS.alloc _).of_below hb | have H' := ((HS.alloc _).alloc _).of_below hb); clear HS; have HS := H'; clear H'; have F := HS.facts; simp only [Own.Facts, Own.Cells, World.size_alloc, List.cons_append, List.nil_append, List.eraseIdx_cons_succ, List.eraseIdx_cons_zero, List.eraseIdx_zero, List.tail_cons, Nat.zero_add] at F
    go_wp2
    go_region_held3 (fun w' => (w'.cell? ⟨w4.heap.size, 0, none⟩ = some (.int .i64 r.id) ∧ w'.cell? ⟨w4.heap.size, 1, none⟩ = some (.slice A9 r.s.l.length c9) ∧ w'.cell? ⟨w4.heap.size, 2, none⟩ = some (.slice B1 r.s.c.length e1) ∧ w'.cell? ⟨w4.heap.size, 3, none⟩ = some (.slice B2 r.d.l.length e2) ∧ w'.cell? ⟨w4.heap.size, 4, none⟩ = some (.slice B3 r.d.c.length e3)) ∧ w'.cell? ⟨w.heap.size, 0, none⟩ = some (.int .i64 r.id) ∧ w'.cell? ⟨w.heap.size, 1, none⟩ = some (.slice A1 r.s.l.length c1) ∧ w'.cell? ⟨w.heap.size, 2, none⟩ = some (.slice A2 r.s.c.length c2) ∧ w'.cell? ⟨w.heap.size, 3, none⟩ = some (.slice A3 r.d.l.length c3) ∧ w'.cell? ⟨w.heap.size, 4, none⟩ = some (.slice A4 r.d.c.length c4)) (first | go_keep) (first | (go_at_call 10; refine (toReplica r _ _ _ _ _ ⟨(by repeat (first | exact HS.old hsl | exact HS.rd 0 rfl | exact HS.rd 1 rfl | exact HS.rd 2 rfl | exact HS.rd 3 rfl | exact HS.rd 4 rfl | exact HS.rd 5 rfl | exact HS.drew.old hsl | exact HS.drew.rd 0 rfl | exact HS.drew.rd 1 rfl | exact HS.drew.rd 2 rfl | exact HS.drew.rd 3 rfl | exact HS.drew.rd 4 rfl | exact HS.drew.rd 5 rfl | refine Rd.alloc ?_ _)), (by repeat (first | exact HS.old hsc | exact HS.rd 0 rfl | exact HS.rd 1 rfl | exact HS.rd 2 rfl | exact HS.rd 3 rfl | exact HS.rd 4 rfl | exact HS.rd 5 rfl | exact HS.drew.old hsc | exact HS.drew.rd 0 rfl | exact HS.drew.rd 1 rfl | exact HS.drew.rd 2 rfl | exact HS.drew.rd 3 rfl | exact HS.drew.rd 4 rfl | exact HS.drew.rd 5 rfl | refine Rd.alloc ?_ _)), (by repeat (first | exact HS.old hdl | exact HS.rd 0 rfl | exact HS.rd 1 rfl | exact HS.rd 2 rfl | exact HS.rd 3 rfl | exact HS.rd 4 rfl | exact HS.rd 5 rfl | exact HS.drew.old hdl | exact HS.drew.rd 0 rfl | exact HS.drew.rd 1 rfl | exact HS.drew.rd 2 rfl | exact HS.drew.rd 3 rfl | exact HS.drew.rd 4 rfl | exact HS.drew.rd 5 rfl | refine Rd.alloc ?_ _)), (by repeat (first | exact HS.old hdc | exact HS.rd 0 rfl | exact HS.rd 1 rfl | exact HS.rd 2 rfl | exact HS.rd 3 rfl | exact HS.rd 4 rfl | exact HS.rd 5 rfl | exact HS.drew.old hdc | exact HS.drew.rd 0 rfl | exact HS.drew.rd 1 rfl | exact HS.drew.rd 2 rfl | exact HS.drew.rd 3 rfl | exact HS.drew.rd 4 rfl | exact HS.drew.rd 5 rfl | refine Rd.alloc ?_ _))⟩ HN.out).mono ?_; rintro e w1 ⟨a7, b7, c7', d7, rfl, hs⟩; obtain ⟨D1, f1, rfl, _, _⟩ := (hs.rd 0 rfl).val; obtain ⟨D2, f2, rfl, _, _⟩ := (hs.rd 1 rfl).val; obtain ⟨D3, f3, rfl, _, _⟩ := (hs.rd 2 rfl).val; obtain ⟨D4, f4, rfl, _, _⟩ := (hs.rd 3 rfl).val; (first | have H' := HS.call hs | have H' := HS.drew.call hs | have H' := (HS.box0 [_] _).call hs | have H' := ((HS.box0 [_] _).box0 [_] _).call hs | have H' := (HS.box0 [_] _).drew.call hs | have H' := (HS.alloc _).call hs | have H' := ((HS.alloc _).alloc _).call hs | have H' := (HS.alloc _).drew.call hs); clear HS; have HS := H'; clear H'; have F := HS.facts; simp only [Own.Facts, Own.Cells, World.size_alloc, List.cons_append, List.nil_append, List.eraseIdx_cons_succ, List.eraseIdx_cons_zero, List.eraseIdx_zero, List.tail_cons, Nat.zero_add] at F) | (go_at_call 12; refine (eqReplica r r _ _ _ _ _ _ _ _ _ ⟨(by first | exact HS.rd 0 rfl | exact HS.rd 1 rfl | exact HS.rd 2 rfl | exact HS.rd 3 rfl | exact HS.rd 4 rfl | exact HS.rd 5 rfl | exact HS.rd 6 rfl | exact HS.rd 7 rfl | exact HS.rd 8 rfl | exact HS.rd 9 rfl | exact HS.rd 10 rfl | exact HS.rd 11 rfl | exact HS.rd 12 rfl | exact HS.rd 13 rfl | exact HS.rd 14 rfl | exact HS.rd 15 rfl | exact HS.rd 16 rfl | exact HS.rd 17 rfl | exact HS.rd 18 rfl | exact HS.rd 19 rfl | exact HS.rd 20 rfl | exact HS.rd 21 rfl | exact HS.rd 22 rfl | exact HS.rd 23 rfl | exact HS.drew.rd 0 rfl | exact HS.drew.rd 1 rfl | exact HS.drew.rd 2 rfl | exact HS.drew.rd 3 rfl | exact HS.drew.rd 4 rfl | exact HS.drew.rd 5 rfl | exact HS.drew.rd 6 rfl | exact HS.drew.rd 7 rfl | exact HS.drew.rd 8 rfl | exact HS.drew.rd 9 rfl | exact HS.drew.rd 10 rfl | exact HS.drew.rd 11 rfl | exact HS.drew.rd 12 rfl | exact HS.drew.rd 13 rfl | exact HS.drew.rd 14 rfl | exact HS.drew.rd 15 rfl | exact HS.drew.rd 16 rfl | exact HS.drew.rd 17 rfl | exact HS.drew.rd 18 rfl | exact HS.drew.rd 19 rfl | exact HS.drew.rd 20 rfl | exact HS.drew.rd 21 rfl | exact HS.drew.rd 22 rfl | exact HS.drew.rd 23 rfl), (by first | exact HS.rd 0 rfl | exact HS.rd 1 rfl | exact HS.rd 2 rfl | exact HS.rd 3 rfl | exact HS.rd 4 rfl | exact HS.rd 5 rfl | exact HS.rd 6 rfl | exact HS.rd 7 rfl | exact HS.rd 8 rfl | exact HS.rd 9 rfl | exact HS.rd 10 rfl | exact HS.rd 11 rfl | exact HS.rd 12 rfl | exact HS.rd 13 rfl | exact HS.rd 14 rfl | exact HS.rd 15 rfl | exact HS.rd 16 rfl | exact HS.rd 17 rfl | exact HS.rd 18 rfl | exact HS.rd 19 rfl | exact HS.rd 20 rfl | exact HS.rd 21 rfl | exact HS.rd 22 rfl | exact HS.rd 23 rfl | exact HS.drew.rd 0 rfl | exact HS.drew.rd 1 rfl | exact HS.drew.rd 2 rfl | exact HS.drew.rd 3 rfl | exact HS.drew.rd 4 rfl | exact HS.drew.rd 5 rfl | exact HS.drew.rd 6 rfl | exact HS.drew.rd 7 rfl | exact HS.drew.rd 8 rfl | exact HS.drew.rd 9 rfl | exact HS.drew.rd 10 rfl | exact HS.drew.rd 11 rfl | exact HS.drew.rd 12 rfl | exact HS.drew.rd 13 rfl | exact HS.drew.rd 14 rfl | exact HS.drew.rd 15 rfl | exact HS.drew.rd 16 rfl | exact HS.drew.rd 17 rfl | exact HS.drew.rd 18 rfl | exact HS.drew.rd 19 rfl | exact HS.drew.rd 20 rfl | exact HS.drew.rd 21 rfl | exact HS.drew.rd 22 rfl | exact HS.drew.rd 23 rfl), (by first | exact HS.rd 0 rfl | exact HS.rd 1 rfl | exact HS.rd 2 rfl | exact HS.rd 3 rfl | exact HS.rd 4 rfl | exact HS.rd 5 rfl | exact HS.rd 6 rfl | exact HS.rd 7 rfl | exact HS.rd 8 rfl | exact HS.rd 9 rfl | exact HS.rd 10 rfl | exact HS.rd 11 rfl | exact HS.rd 12 rfl | exact HS.rd 13 rfl | exact HS.rd 14 rfl | exact HS.rd 15 rfl | exact HS.rd 16 rfl | exact HS.rd 17 rfl | exact HS.rd 18 rfl | exact HS.rd 19 rfl | exact HS.rd 20 rfl | exact HS.rd 21 rfl | exact HS.rd 22 rfl | exact HS.rd 23 rfl | exact HS.drew.rd 0 rfl | exact HS.drew.rd 1 rfl | exact HS.drew.rd 2 rfl | exact HS.drew.rd 3 rfl | exact HS.drew.rd 4 rfl | exact HS.drew.rd 5 rfl | exact HS.drew.rd 6 rfl | exact HS.drew.rd 7 rfl | exact HS.drew.rd 8 rfl | exact HS.drew.rd 9 rfl | exact HS.drew.rd 10 rfl | exact HS.drew.rd 11 rfl | exact HS.drew.rd 12 rfl | exact HS.drew.rd 13 rfl | exact HS.drew.rd 14 rfl | exact HS.drew.rd 15 rfl | exact HS.drew.rd 16 rfl | exact HS.drew.rd 17 rfl | exact HS.drew.rd 18 rfl | exact HS.drew.rd 19 rfl | exact HS.drew.rd 20 rfl | exact HS.drew.rd 21 rfl | exact HS.drew.rd 22 rfl | exact HS.drew.rd 23 rfl), (by first | exact HS.rd 0 rfl | exact HS.rd 1 rfl | exact HS.rd 2 rfl | exact HS.rd 3 rfl | exact HS.rd 4 rfl | exact HS.rd 5 rfl | exact HS.rd 6 rfl | exact HS.rd 7 rfl | exact HS.rd 8 rfl | exact HS.rd 9 rfl | exact HS.rd 10 rfl | exact HS.rd 11 rfl | exact HS.rd 12 rfl | exact HS.rd 13 rfl | exact HS.rd 14 rfl | exact HS.rd 15 rfl | exact HS.rd 16 rfl | exact HS.rd 17 rfl | exact HS.rd 18 rfl | exact HS.rd 19 rfl | exact HS.rd 20 rfl | exact HS.rd 21 rfl | exact HS.rd 22 rfl | exact HS.rd 23 rfl | exact HS.drew.rd 0 rfl | exact HS.drew.rd 1 rfl | exact HS.drew.rd 2 rfl | exact HS.drew.rd 3 rfl | exact HS.drew.rd 4 rfl | exact HS.drew.rd 5 rfl | exact HS.drew.rd 6 rfl | exact HS.drew.rd 7 rfl | exact HS.drew.rd 8 rfl | exact HS.drew.rd 9 rfl | exact HS.drew.rd 10 rfl | exact HS.drew.rd 11 rfl | exact HS.drew.rd 12 rfl | exact HS.drew.rd 13 rfl | exact HS.drew.rd 14 rfl | exact HS.drew.rd 15 rfl | exact HS.drew.rd 16 rfl | exact HS.drew.rd 17 rfl | exact HS.drew.rd 18 rfl | exact HS.drew.rd 19 rfl | exact HS.drew.rd 20 rfl | exact HS.drew.rd 21 rfl | exact HS.drew.rd 22 rfl | exact HS.drew.rd 23 rfl)⟩ ⟨(by first | exact HS.rd 0 rfl | exact HS.rd 1 rfl | exact HS.rd 2 rfl | exact HS.rd 3 rfl | exact HS.rd 4 rfl | exact HS.rd 5 rfl | exact HS.rd 6 rfl | exact HS.rd 7 rfl | exact HS.rd 8 rfl | exact HS.rd 9 rfl | exact HS.rd 10 rfl | exact HS.rd 11 rfl | exact HS.rd 12 rfl | exact HS.rd 13 rfl | exact HS.rd 14 rfl | exact HS.rd 15 rfl | exact HS.rd 16 rfl | exact HS.rd 17 rfl | exact HS.rd 18 rfl | exact HS.rd 19 rfl | exact HS.rd 20 rfl | exact HS.rd 21 rfl | exact HS.rd 22 rfl | exact HS.rd 23 rfl | exact HS.drew.rd 0 rfl | exact HS.drew.rd 1 rfl | exact HS.drew.rd 2 rfl | exact HS.drew.rd 3 rfl | exact HS.drew.rd 4 rfl | exact HS.drew.rd 5 rfl | exact HS.drew.rd 6 rfl | exact HS.drew.rd 7 rfl | exact HS.drew.rd 8 rfl | exact HS.drew.rd 9 rfl | exact HS.drew.rd 10 rfl | exact HS.drew.rd 11 rfl | exact HS.drew.rd 12 rfl | exact HS.drew.rd 13 rfl | exact HS.drew.rd 14 rfl | exact HS.drew.rd 15 rfl | exact HS.drew.rd 16 rfl | exact HS.drew.rd 17 rfl | exact HS.drew.rd 18 rfl | exact HS.drew.rd 19 rfl | exact HS.drew.rd 20 rfl | exact HS.drew.rd 21 rfl | exact HS.drew.rd 22 rfl | exact HS.drew.rd 23 rfl), (by first | exact HS.rd 0 rfl | exact HS.rd 1 rfl | exact HS.rd 2 rfl | exact HS.rd 3 rfl | exact HS.rd 4 rfl | exact HS.rd 5 rfl | exact HS.rd 6 rfl | exact HS.rd 7 rfl | exact HS.rd 8 rfl | exact HS.rd 9 rfl | exact HS.rd 10 rfl | exact HS.rd 11 rfl | exact HS.rd 12 rfl | exact HS.rd 13 rfl | exact HS.rd 14 rfl | exact HS.rd 15 rfl | exact HS.rd 16 rfl | exact HS.rd 17 rfl | exact HS.rd 18 rfl | exact HS.rd 19 rfl | exact HS.rd 20 rfl | exact HS.rd 21 rfl | exact HS.rd 22 rfl | exact HS.rd 23 rfl | exact HS.drew.rd 0 rfl | exact HS.drew.rd 1 rfl | exact HS.drew.rd 2 rfl | exact HS.drew.rd 3 rfl | exact HS.drew.rd 4 rfl | exact HS.drew.rd 5 rfl | exact HS.drew.rd 6 rfl | exact HS.drew.rd 7 rfl | exact HS.drew.rd 8 rfl | exact HS.drew.rd 9 rfl | exact HS.drew.rd 10 rfl | exact HS.drew.rd 11 rfl | exact HS.drew.rd 12 rfl | exact HS.drew.rd 13 rfl | exact HS.drew.rd 14 rfl | exact HS.drew.rd 15 rfl | exact HS.drew.rd 16 rfl | exact HS.drew.rd 17 rfl | exact HS.drew.rd 18 rfl | exact HS.drew.rd 19 rfl | exact HS.drew.rd 20 rfl | exact HS.drew.rd 21 rfl | exact HS.drew.rd 22 rfl | exact HS.drew.rd 23 rfl), (by first | exact HS.rd 0 rfl | exact HS.rd 1 rfl | exact HS.rd 2 rfl | exact HS.rd 3 rfl | exact HS.rd 4 rfl | exact HS.rd 5 rfl | exact HS.rd 6 rfl | exact HS.rd 7 rfl | exact HS.rd 8 rfl | exact HS.rd 9 rfl | exact HS.rd 10 rfl | exact HS.rd 11 rfl | exact HS.rd 12 rfl | exact HS.rd 13 rfl | exact HS.rd 14 rfl | exact HS.rd 15 rfl | exact HS.rd 16 rfl | exact HS.rd 17 rfl | exact HS.rd 18 rfl | exact HS.rd 19 rfl | exact HS.rd 20 rfl | exact HS.rd 21 rfl | exact HS.rd 22 rfl | exact HS.rd 23 rfl | exact HS.drew.rd 0 rfl | exact HS.drew.rd 1 rfl | exact HS.drew.rd 2 rfl | exact HS.drew.rd 3 rfl | exact HS.drew.rd 4 rfl | exact HS.drew.rd 5 rfl | exact HS.drew.rd 6 rfl | exact HS.drew.rd 7 rfl | exact HS.drew.rd 8 rfl | exact HS.drew.rd 9 rfl | exact HS.drew.rd 10 rfl | exact HS.drew.rd 11 rfl | exact HS.drew.rd 12 rfl | exact HS.drew.rd 13 rfl | exact HS.drew.rd 14 rfl | exact HS.drew.rd 15 rfl | exact HS.drew.rd 16 rfl | exact HS.drew.rd 17 rfl | exact HS.drew.rd 18 rfl | exact HS.drew.rd 19 rfl | exact HS.drew.rd 20 rfl | exact HS.drew.rd 21 rfl | exact HS.drew.rd 22 rfl | exact HS.drew.rd 23 rfl), (by first | exact HS.rd 0 rfl | exact HS.rd 1 rfl | exact HS.rd 2 rfl | exact HS.rd 3 rfl | exact HS.rd 4 rfl | exact HS.rd 5 rfl | exact HS.rd 6 rfl | exact HS.rd 7 rfl | exact HS.rd 8 rfl | exact HS.rd 9 rfl | exact HS.rd 10 rfl | exact HS.rd 11 rfl | exact HS.rd 12 rfl | exact HS.rd 13 rfl | exact HS.rd 14 rfl | exact HS.rd 15 rfl | exact HS.rd 16 rfl | exact HS.rd 17 rfl | exact HS.rd 18 rfl | exact HS.rd 19 rfl | exact HS.rd 20 rfl | exact HS.rd 21 rfl | exact HS.rd 22 rfl | exact HS.rd 23 rfl | exact HS.drew.rd 0 rfl | exact HS.drew.rd 1 rfl | exact HS.drew.rd 2 rfl | exact HS.drew.rd 3 rfl | exact HS.drew.rd 4 rfl | exact HS.drew.rd 5 rfl | exact HS.drew.rd 6 rfl | exact HS.drew.rd 7 rfl | exact HS.drew.rd 8 rfl | exact HS.drew.rd 9 rfl | exact HS.drew.rd 10 rfl | exact HS.drew.rd 11 rfl | exact HS.drew.rd 12 rfl | exact HS.drew.rd 13 rfl | exact HS.drew.rd 14 rfl | exact HS.drew.rd 15 rfl | exact HS.drew.rd 16 rfl | exact HS.drew.rd 17 rfl | exact HS.drew.rd 18 rfl | exact HS.drew.rd 19 rfl | exact HS.drew.rd 20 rfl | exact HS.drew.rd 21 rfl | exact HS.drew.rd 22 rfl | exact HS.drew.rd 23 rfl)⟩).mono ?_; rintro e w1 ⟨rfl, hb⟩; (first | have H' := HS.of_below hb | have H' := HS.drew.of_below hb | have H' := (HS.box0 [_] _).of_below hb | have H' := ((HS.box0 [_] _).box0 [_] _).of_below hb | have H' := (HS.box0 [_] _).drew.of_below hb | have H' := (HS.alloc _).of_below hb | have H' := ((HS.alloc _).alloc _).of_below hb | have H' := (HS.alloc _).drew.of_below hb); clear HS; have HS := H'; clear H'; have F := HS.facts; simp only [Own.Facts, Own.Cells, World.size_alloc, List.cons_append, List.nil_append, List.eraseIdx_cons_succ, List.eraseIdx_cons_zero, List.eraseIdx_zero, List.tail_cons, Nat.zero_add] at F))
    go_wp2_with fail
    refine (markReplica r _ _ _ _ 1 _ ((((HS.pick 10 rfl).pick 10 rfl).pick 10 rfl).pick 10 rfl) (by omega)).mono ?_
    rintro e w13 ⟨rfl, H13⟩
    clear HS F
    have HS := H13
    clear H13
    simp only [List.eraseIdx_cons_succ, List.eraseIdx_cons_zero] at HS
    have F := HS.facts; simp only [Own.Facts, Own.Cells, World.size_alloc, List.cons_append, List.nil_append, List.eraseIdx_cons_succ, List.eraseIdx_cons_zero, List.eraseIdx_zero, List.tail_cons, Nat.zero_add] at F
    go_wp2_with fail
    refine (eqFrame kk kk T T _ _ _ (by first | exact HS.rd 0 rfl | exact HS.rd 1 rfl | exact HS.rd 2 rfl | exact HS.rd 3 rfl | exact HS.rd 4 rfl | exact HS.rd 5 rfl | exact HS.rd 6 rfl | exact HS.rd 7 rfl | exact HS.rd 8 rfl | exact HS.rd 9 rfl | exact HS.rd 10 rfl | exact HS.rd 11 rfl | exact HS.rd 12 rfl | exact HS.rd 13 rfl | exact HS.rd 14 rfl | exact HS.rd 15 rfl | exact HS.rd 16 rfl | exact HS.rd 17 rfl | exact HS.rd 18 rfl | exact HS.rd 19 rfl | exact HS.rd 20 rfl | exact HS.rd 21 rfl | exact HS.rd 22 rfl | exact HS.rd 23 rfl | exact HS.drew.rd 0 rfl | exact HS.drew.rd 1 rfl | exact HS.drew.rd 2 rfl | exact HS.drew.rd 3 rfl | exact HS.drew.rd 4 rfl | exact HS.drew.rd 5 rfl | exact HS.drew.rd 6 rfl | exact HS.drew.rd 7 rfl | exact HS.drew.rd 8 rfl | exact HS.drew.rd 9 rfl | exact HS.drew.rd 10 rfl | exact HS.drew.rd 11 rfl | exact HS.drew.rd 12 rfl | exact HS.drew.rd 13 rfl | exact HS.drew.rd 14 rfl | exact HS.drew.rd 15 rfl | exact HS.drew.rd 16 rfl | exact HS.drew.rd 17 rfl | exact HS.drew.rd 18 rfl | exact HS.drew.rd 19 rfl | exact HS.drew.rd 20 rfl | exact HS.drew.rd 21 rfl | exact HS.drew.rd 22 rfl | exact HS.drew.rd 23 rfl) (by first | exact HS.rd 0 rfl | exact HS.rd 1 rfl | exact HS.rd 2 rfl | exact HS.rd 3 rfl | exact HS.rd 4 rfl | exact HS.rd 5 rfl | exact HS.rd 6 rfl | exact HS.rd 7 rfl | exact HS.rd 8 rfl | exact HS.rd 9 rfl | exact HS.rd 10 rfl | exact HS.rd 11 rfl | exact HS.rd 12 rfl | exact HS.rd 13 rfl | exact HS.rd 14 rfl | exact HS.rd 15 rfl | exact HS.rd 16 rfl | exact HS.rd 17 rfl | exact HS.rd 18 rfl | exact HS.rd 19 rfl | exact HS.rd 20 rfl | exact HS.rd 21 rfl | exact HS.rd 22 rfl | exact HS.rd 23 rfl | exact HS.drew.rd 0 rfl | exact HS.drew.rd 1 rfl | exact HS.drew.rd 2 rfl | exact HS.drew.rd 3 rfl | exact HS.drew.rd 4 rfl | exact HS.drew.rd 5 rfl | exact HS.drew.rd 6 rfl | exact HS.drew.rd 7 rfl | exact HS.drew.rd 8 rfl | exact HS.drew.rd 9 rfl | exact HS.drew.rd 10 rfl | exact HS.drew.rd 11 rfl | exact HS.drew.rd 12 rfl | exact HS.drew.rd 13 rfl | exact HS.drew.rd 14 rfl | exact HS.drew.rd 15 rfl | exact HS.drew.rd 16 rfl | exact HS.drew.rd 17 rfl | exact HS.drew.rd 18 rfl | exact HS.drew.rd 19 rfl | exact HS.drew.rd 20 rfl | exact HS.drew.rd 21 rfl | exact HS.drew.rd 22 rfl | exact HS.drew.rd 23 rfl)).mono ?_; rintro e w15 ⟨rfl, hb⟩; (first | have H' := HS.of_below hb | have H' := HS.drew.of_below hb | have H' := (HS.box0 [_] _).of_below hb | have H' := ((HS.box0 [_] _).box0 [_] _).of_below hb | have H' := (HS.alloc _).of_below hb | have H' := ((HS.alloc _).alloc _).of_below hb); clear HS; have HS := H'; clear H'; have F := HS.facts; simp only [Own.Facts, Own.Cells, World.size_alloc, List.cons_append, List.nil_append, List.eraseIdx_cons_succ, List.eraseIdx_cons_zero, List.eraseIdx_zero, List.tail_cons, Nat.zero_add] at F
    go_wp2_with fail
    refine (markFrame kk T _ 1 _ (HS.pick 9 rfl) (by omega)).mono ?_
    rintro e w16 ⟨rfl, H16⟩
    clear HS F
    have HS := H16
    clear H16
    simp only [List.eraseIdx_cons_succ, List.eraseIdx_cons_zero] at HS
    have F := HS.facts; simp only [Own.Facts, Own.Cells, World.size_alloc, List.cons_append, List.nil_append, List.eraseIdx_cons_succ, List.eraseIdx_cons_zero, List.eraseIdx_zero, List.tail_cons, Nat.zero_add] at F
    go_wp2_with fail
    refine (heldFrame kk T _ 1 _ HS (by omega) (by omega)).mono ?_; rintro e w17 ⟨rfl, hb⟩; (first | have H' := HS.of_below hb | have H' := HS.drew.of_below hb | have H' := (HS.box0 [_] _).of_below hb | have H' := ((HS.box0 [_] _).box0 [_] _).of_below hb | have H' := (HS.alloc _).of_below hb | have H' := ((HS.alloc _).alloc _).of_below hb); clear HS; have HS := H'; clear H'; have F := HS.facts; simp only [Own.Facts, Own.Cells, World.size_alloc, List.cons_append, List.nil_append, List.eraseIdx_cons_succ, List.eraseIdx_cons_zero, List.eraseIdx_zero, List.tail_cons, Nat.zero_add] at F
    go_wp2_with fail
    refine (toReplica r _ _ _ _ _ (H.out.old HS) HN.out).mono ?_; rintro e w18 ⟨a2, b2, c2', d2, rfl, hs⟩; obtain ⟨G1, g1, rfl, _, _⟩ := (hs.rd 0 rfl).val; obtain ⟨G2, g2, rfl, _, _⟩ := (hs.rd 1 rfl).val; obtain ⟨G3, g3, rfl, _, _⟩ := (hs.rd 2 rfl).val; obtain ⟨G4, g4, rfl, _, _⟩ := (hs.rd 3 rfl).val; replace HS := HS.call hs; simp only [List.cons_append, List.nil_append] at HS; clear hs; have F := HS.facts; simp only [Own.Facts, Own.Cells, World.size_alloc, List.cons_append, List.nil_append, List.eraseIdx_cons_succ, List.eraseIdx_cons_zero, List.eraseIdx_zero, List.tail_cons, Nat.zero_add] at F
    go_wp2_with fail
    refine (wh2 HT.out (implWhole r _ _ _ _ _ ⟨HS.rd 0 rfl, HS.rd 1 rfl, HS.rd 2 rfl, HS.rd 3 rfl⟩ HW.out HN.out)).mono ?_
    rintro e w20 ⟨v20, rfl, hs⟩
    obtain ⟨AH, cH, rfl, _, _⟩ := (hs.rd 0 rfl).val
    replace HS := (HS.call1 hs).box (b := w20.heap.size) [.int .i64 kk, .slice AH T.length cH] 54
    clear hs F
    have F := HS.facts; simp only [Own.Facts, Own.Cells, World.size_alloc, List.cons_append, List.nil_append, List.eraseIdx_cons_succ, List.eraseIdx_cons_zero, List.eraseIdx_zero, List.tail_cons, Nat.zero_add] at F
    go_wp2_with fail
    refine (eqFrame kk kk T T _ _ _ (HS.rd 1 rfl) (by first | exact HS.rd 0 rfl | exact HS.rd 1 rfl | exact HS.rd 2 rfl | exact HS.rd 3 rfl | exact HS.rd 4 rfl | exact HS.rd 5 rfl | exact HS.rd 6 rfl | exact HS.rd 7 rfl | exact HS.rd 8 rfl | exact HS.rd 9 rfl | exact HS.rd 10 rfl | exact HS.rd 11 rfl | exact HS.rd 12 rfl | exact HS.rd 13 rfl | exact HS.rd 14 rfl | exact HS.rd 15 rfl | exact HS.rd 16 rfl | exact HS.rd 17 rfl | exact HS.rd 18 rfl | exact HS.rd 19 rfl | exact HS.rd 20 rfl | exact HS.rd 21 rfl | exact HS.rd 22 rfl | exact HS.rd 23 rfl | exact HS.drew.rd 0 rfl | exact HS.drew.rd 1 rfl | exact HS.drew.rd 2 rfl | exact HS.drew.rd 3 rfl | exact HS.drew.rd 4 rfl | exact HS.drew.rd 5 rfl | exact HS.drew.rd 6 rfl | exact HS.drew.rd 7 rfl | exact HS.drew.rd 8 rfl | exact HS.drew.rd 9 rfl | exact HS.drew.rd 10 rfl | exact HS.drew.rd 11 rfl | exact HS.drew.rd 12 rfl | exact HS.drew.rd 13 rfl | exact HS.drew.rd 14 rfl | exact HS.drew.rd 15 rfl | exact HS.drew.rd 16 rfl | exact HS.drew.rd 17 rfl | exact HS.drew.rd 18 rfl | exact HS.drew.rd 19 rfl | exact HS.drew.rd 20 rfl | exact HS.drew.rd 21 rfl | exact HS.drew.rd 22 rfl | exact HS.drew.rd 23 rfl)).mono ?_; rintro e w21 ⟨rfl, hb⟩; (first | have H' := HS.of_below hb | have H' := HS.drew.of_below hb | have H' := (HS.box0 [_] _).of_below hb | have H' := ((HS.box0 [_] _).box0 [_] _).of_below hb | have H' := (HS.alloc _).of_below hb | have H' := ((HS.alloc _).alloc _).of_below hb); clear HS; have HS := H'; clear H'; have F := HS.facts; simp only [Own.Facts, Own.Cells, World.size_alloc, List.cons_append, List.nil_append, List.eraseIdx_cons_succ, List.eraseIdx_cons_zero, List.eraseIdx_zero, List.tail_cons, Nat.zero_add] at F
    go_wp2
    go_ret
    exact ⟨rfl, HS.below⟩
namespace fnExactWhole
set_option linter.unusedSimpArgs false
set_option linter.unusedVariables false
open Go.ChangeShapes Go.WideShapes Go.ChangeAt Go.RowKit Go.Ow
set_option linter.unusedVariables false
theorem own : ownKnob Try.prog.godebug = none := by kernel_rfl
theorem laidOut : laidOutB Try.prog = true := laidOutF
set_option maxRecDepth 100000 in
theorem lifted (os : Os) (started : os.Started) (H : Type) (enc : TypeId × Value → H) :
    ReturnsInHanded {} Try.checked os 5 .any (Rows.fnExactWholeSpec.pre6 enc Try.prog Try.f5 Rows.fnExactWholeRow.domain false) (Rows.fnExactWholeSpec.post enc Try.prog Try.f5 false true false false) := by
  refine returnsInHanded_of_change_sized (C := Try.checked) own started (by kernel_rfl) Try.func5
    (ChangeSpec.witness6 (enc := enc) (C := Try.checked) false ⟨#[], #[.agg #[.int .i64 0, .slice none 0 0, .slice none 0 0, .slice none 0 0, .slice none 0 0]], []⟩ 8 (by kernel_rfl) (by kernel_rfl) (by kernel_rfl) (by kernel_rfl)) ?_
  intro W base args ds gs before hval0 hW hcnd hsz0 _
  have hsz : (DataW.weightsEach Try.prog (Try.f5.params.toList ++ Rows.fnExactWholeSpec.plain.varTypes Try.prog) (ds ++ gs)).all (· ≤ reachBytes) = true := hsz0
  have hval : ∀ (j : Nat) t v, Try.f5.params[j]? = some t → args[j]? = some v → Value.okWide Try.prog W .any base t v := hval0
  have hW' := hW
  obtain ⟨p, q, hA0, hV, rfl, hfz, hnd⟩ := hW
  have hA : DataW.TrodAll enc Try.prog W 0 (fun _ => true) true Try.f5.params.toList args.toList ds p := hA0
  rw [Try.params5] at hA hval hsz
  obtain ⟨v0, vs0, d0, ds0, p0, q0, hargs, rfl, rfl, h0, r0⟩ := trodAll_cons hA
  obtain ⟨rfl, rfl, rfl⟩ := trodAll_nil r0
  obtain rfl : args = #[v0] := by cases args; simp_all
  obtain ⟨rfl, rfl⟩ := trodVars_none hV
  have hwt : ∀ n ∈ DataW.weightsEach Try.prog [29] [d0], n ≤ 140737488351232 := by
    have hsz2 : (DataW.weightsEach Try.prog [29] [d0]).all (· ≤ reachBytes) = true := hsz
    exact fun n hn => of_decide_eq_true (List.all_eq_true.1 hsz2 n hn)
  have k0 := h0
  have lt0 : ∀ x ∈ p0, x.block < W.heap.size := by obtain ⟨m, hm⟩ := k0; exact DataW.trod_lt m _ _ _ hm
  have wk0 := hval 0 29 v0 rfl rfl
  obtain ⟨fu0, hf0⟩ := h0
  have ww0 : ∀ n ∈ DataW.weights Try.prog 29 d0, n ≤ 140737488351232 := fun n hn => hwt n (weights_each (i := 0) rfl rfl n hn)
  obtain ⟨r, cs_r, rfl, rd_r, ok_r⟩ := open_t dcReplica Try.underlying29 hf0 ww0 wk0
  obtain ⟨a, b, c, d, rfl, hr⟩ := rdR_of rd_r
  clear hA0 hval0 hsz0 hsz
  refine (lawWhole r a b c d W hr (rpW_ok ok_r)).mono fun e W' ⟨he, bel⟩ => ?_
  subst he
  exact ⟨_, rfl, _, _, _, [], _, [], hW', trodAll_mk1 (shut_bool Try.underlying4 _), (trodAll_cons_mk (Below.trod laidOut (by kernel_rfl) (of_decide_eq_true (by kernel_rfl)) k0 bel lt0) trodAll_mk0), rfl, bel.frame _, fun h => by cases h⟩
theorem joined : joinedFacts Try.prog 5 Try.f5 Rows.fnExactWholeSpec Rows.fnExactWholeRow = true := by
  unfold joinedFacts
  simp only [Bool.and_eq_true, mayEnter, liftsFinal, make, laidOutF, mapsRowedF, stopsF, knobsF, plainKeysF, heardF]
  repeat' (refine And.intro ?_ ?_)
  all_goals first | exact trivial | with_reducible rfl | kernel_rfl
theorem over : Rows.fnExactWholeRow.holds Try.pinned (OpenSpec.ofChange Rows.fnExactWholeSpec) :=
  OpenClaim.holds_of_wide 5 Try.f5 rfl rfl rfl rfl rfl rfl rfl ⟨rfl, rfl, rfl, rfl, rfl⟩ rfl rfl rfl rfl rfl (by kernel_rfl) Try.func5 joined (of_decide_eq_true (by kernel_rfl))
    (by unfold Func.isWrapper; first | (rw [if_pos (by decide +kernel)]; kernel_rfl) | (rw [if_neg (by decide +kernel)]; exact ⟨rfl, rfl⟩))
    (fun os started H enc _ => lifted os started H enc)
end fnExactWhole
theorem fnExactWhole_holds : Rows.FnExactWholeSaid := fnExactWhole.over
#print axioms fnExactWhole_holds
end Go.Proofs.Ytbcgbkeldcaalaa
