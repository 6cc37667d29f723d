/- FnExactPutState: for every state the law returns true, and the state reads behind the call as it read before. No condition. -/
import Derived.Test.YtbcgbkeldcaalaaRows
import Derived.Test.YtbcgbkeldcaalaaY6
import Derived.Test.YtbcgbkeldcaalaaX3
import Derived.Test.YtbcgbkeldcaalaaJ6
namespace Go.Proofs.Ytbcgbkeldcaalaa
set_option linter.unusedSimpArgs false
set_option linter.unusedVariables false
open Go.RowKit Go.Ow
attribute [local irreducible] wpQuiet
set_option maxRecDepth 100000
theorem lsz_bound (M : Nat) : ∀ l : List Lf, (∀ y ∈ l, y.p.length ≤ M) → lsz l ≤ l.length * (M + 4)
  | [], _ => by simp [lsz]
  | x :: l, h => by
    have h1 := h x (by simp)
    have h2 := lsz_bound M l fun y hy => h y (List.mem_cons_of_mem _ hy)
    rw [lsz, List.length_cons, Nat.succ_mul]; omega
theorem psR_len (s : St) : (psR s).1.length ≤ 4000 := by
  unfold psR
  split
  · split
    · assumption
    · simp
  · simp
theorem ps2 {f : FuncId} {args : Array Value} {w : World} {s : St} {T : List UInt8} {k : Nat} (h1 : (psR s).1 = T ∧ (psR s).2 = k) (h : Calls Try.prog f args w fun e w' => ∃ v', e = .returned (.tuple #[v', .int .i64 ((psR s).2 : Nat)]) ∧ Own w [.own v' (psR s).1] w') :
    Calls Try.prog f args w fun e w' => ∃ v', e = .returned (.tuple #[v', .int .i64 (k : Nat)]) ∧ Own w [.own v' T] w' := by
  rw [h1.1, h1.2] at h; exact h
set_option maxHeartbeats 8000000 in
theorem lawPutState (s : St) (vl vc : Value) (w : World) (h1 : Rd w vl s.l) (h2 : Rd w vc s.c) (hw : ∀ y ∈ s.l, LfW y) : Calls Try.prog 4 #[.agg #[vl, vc]] w fun e w' => e = .returned (.bool true) ∧ Below w.heap.size w w' := by
  obtain ⟨A, c, rfl, _, hl⟩ := h1.val
  obtain ⟨A2, d2, rfl, _, hl2⟩ := h2.val
  have HS := (Own.start w).box [.slice A s.l.length c, .slice A2 s.c.length d2] 27
  have HW := Lib.hid hw
  clear hw
  have hTL := psR_len s
  obtain ⟨T, hT⟩ : ∃ T, (psR s).1 = T := ⟨_, rfl⟩
  obtain ⟨kc, hkc⟩ : ∃ k, (psR s).2 = k := ⟨_, rfl⟩
  rw [hT] at hTL
  have HT := Lib.hid (And.intro hT hkc)
  clear hT hkc
  go_enter Try.func4, Try.ntmps4
  go_wp2_with fail
  refine (szState s _ _ 1048576 _ (HS.old h1) (HS.old h2) HW.out (by omega) (by omega)).mono ?_; rintro e w1 ⟨⟨r, rfl, hr1, hr2, hr3⟩, hb⟩; (first | have H' := HS.of_below hb | have H' := HS.drew.of_below hb | have H' := (HS.box0 [_] _).of_below hb | have H' := ((HS.box0 [_] _).box0 [_] _).of_below hb | have H' := (HS.alloc _).of_below hb | have H' := ((HS.alloc _).alloc _).of_below hb); clear HS; have HS := H'; clear H'; have F := HS.facts; simp only [Own.Facts, Own.Cells, World.size_alloc, List.cons_append, List.nil_append, List.eraseIdx_cons_succ, List.eraseIdx_cons_zero, List.eraseIdx_zero, List.tail_cons, Nat.zero_add] at F
  have HR3 := Lib.hid hr3
  clear hr3
  by_cases hr : r < 0
  · go_wp2
    go_ret
    exact ⟨rfl, HS.below⟩
  · obtain ⟨hn, hp, hc⟩ := HR3.out (by omega)
    have HP := Lib.hid (show ∀ y ∈ s.l, y.p.length ≤ 1048576 from fun y hy => by have := hp y hy; omega)
    clear hp
    have hn2 : s.l.length ≤ 1048576 := by omega
    have hc2 : s.c.length ≤ 1048576 := by omega
    have hls : lsz s.l ≤ 2199027449856 := by
      have h := lsz_bound 1048576 s.l HP.out
      have h' := Nat.mul_le_mul_right (1048576 + 4) hn2
      omega
    have hms : msz s ≤ 2199030595584 := by unfold msz; omega
    clear hn hc
    go_wp2_with fail
    refine (toState s _ _ _ (HS.old h1) (HS.old h2) hn2 HP.out hc2).mono ?_; rintro e w3 ⟨ul, uc, rfl, hs⟩; obtain ⟨A3, c3, rfl, _, _⟩ := (hs.rd 0 rfl).val; obtain ⟨A4, c4, rfl, _, _⟩ := (hs.rd 1 rfl).val; (first | have H' := HS.call2 hs | have H' := HS.drew.call2 hs | have H' := (HS.box0 [_] _).call2 hs | have H' := ((HS.box0 [_] _).box0 [_] _).call2 hs | have H' := (HS.alloc _).call2 hs | have H' := ((HS.alloc _).alloc _).call2 hs); clear HS; have HS := H'; clear H'; have F := HS.facts; simp only [Own.Facts, Own.Cells, World.size_alloc, List.cons_append, List.nil_append, List.eraseIdx_cons_succ, List.eraseIdx_cons_zero, List.eraseIdx_zero, List.tail_cons, Nat.zero_add] at F
    go_wp2_with fail
    refine (ps2 HT.out (specPutState s _ _ _ (HS.rd 0 rfl) (HS.rd 1 rfl) HW.out)).mono ?_; rintro e w5 ⟨v0, rfl, hs⟩; obtain ⟨A0, c0, rfl, _, _⟩ := (hs.rd 0 rfl).val; (first | have H' := HS.call1 hs | have H' := HS.drew.call1 hs | have H' := (HS.box0 [_] _).call1 hs | have H' := ((HS.box0 [_] _).box0 [_] _).call1 hs | have H' := (HS.alloc _).call1 hs | have H' := ((HS.alloc _).alloc _).call1 hs); clear HS; have HS := H'; clear H'; have F := HS.facts; simp only [Own.Facts, Own.Cells, World.size_alloc, List.cons_append, List.nil_append, List.eraseIdx_cons_succ, List.eraseIdx_cons_zero, List.eraseIdx_zero, List.tail_cons, Nat.zero_add] at F
    go_wp2_with fail
    refine (toState s _ _ _ (HS.old h1) (HS.old h2) hn2 HP.out hc2).mono ?_; rintro e w6 ⟨ul, uc, rfl, hs⟩; obtain ⟨A6, c6, rfl, _, _⟩ := (hs.rd 0 rfl).val; obtain ⟨A7, c7, rfl, _, _⟩ := (hs.rd 1 rfl).val; (first | have H' := HS.call2 hs | have H' := HS.drew.call2 hs | have H' := (HS.box0 [_] _).call2 hs | have H' := ((HS.box0 [_] _).box0 [_] _).call2 hs | have H' := (HS.alloc _).call2 hs | have H' := ((HS.alloc _).alloc _).call2 hs); clear HS; have HS := H'; clear H'; have F := HS.facts; simp only [Own.Facts, Own.Cells, World.size_alloc, List.cons_append, List.nil_append, List.eraseIdx_cons_succ, List.eraseIdx_cons_zero, List.eraseIdx_zero, List.tail_cons, Nat.zero_add] at F
    replace HS := (HS.box (b := w6.heap.size) [.slice A6 s.l.length c6, .slice A7 s.c.length c7] 37)
    have F := HS.facts; simp only [Own.Facts, Own.Cells, World.size_alloc, List.cons_append, List.nil_append, List.eraseIdx_cons_succ, List.eraseIdx_cons_zero, List.eraseIdx_zero, List.tail_cons, Nat.zero_add] at F
    go_wp2_with fail
    refine (ps2 HT.out (implPutState s _ _ _ (HS.rd 1 rfl) (HS.rd 2 rfl) HW.out hc2)).mono ?_; rintro e w8 ⟨g0, rfl, hs⟩; obtain ⟨AG, cG, rfl, _, hTl⟩ := (hs.rd 0 rfl).val; (first | have H' := HS.call1 hs | have H' := HS.drew.call1 hs | have H' := (HS.box0 [_] _).call1 hs | have H' := ((HS.box0 [_] _).box0 [_] _).call1 hs | have H' := (HS.alloc _).call1 hs | have H' := ((HS.alloc _).alloc _).call1 hs); clear HS; have HS := H'; clear H'; have F := HS.facts; simp only [Own.Facts, Own.Cells, World.size_alloc, List.cons_append, List.nil_append, List.eraseIdx_cons_succ, List.eraseIdx_cons_zero, List.eraseIdx_zero, List.tail_cons, Nat.zero_add] at F
    have hd1 : decide (T = T) = true := by simp
    have hd3 : decide (s = s) = true := by simp
    go_wp2_with fail
    refine (eqByteS T T _ _ _ (HS.rd 0 rfl) (HS.rd 4 rfl)).mono ?_; rintro e w9 ⟨rfl, hb⟩; (first | have H' := HS.of_below hb | have H' := HS.drew.of_below hb | have H' := (HS.box0 [_] _).of_below hb | have H' := ((HS.box0 [_] _).box0 [_] _).of_below hb | have H' := (HS.alloc _).of_below hb | have H' := ((HS.alloc _).alloc _).of_below hb); clear HS; have HS := H'; clear H'; have F := HS.facts; simp only [Own.Facts, Own.Cells, World.size_alloc, List.cons_append, List.nil_append, List.eraseIdx_cons_succ, List.eraseIdx_cons_zero, List.eraseIdx_zero, List.tail_cons, Nat.zero_add] at F
    go_wp2
    go_region_held3 (fun w' => w'.cell? ⟨w6.heap.size, 0, none⟩ = some (.slice A6 s.l.length c6) ∧ w'.cell? ⟨w6.heap.size, 1, none⟩ = some (.slice A7 s.c.length c7) ∧ w'.cell? ⟨w.heap.size, 0, none⟩ = some (.slice A s.l.length c) ∧ w'.cell? ⟨w.heap.size, 1, none⟩ = some (.slice A2 s.c.length d2)) (first | go_keep) (first | (go_at_call 15; refine (toState s _ _ _ (by repeat (first | exact HS.old h1 | exact HS.rd 0 rfl | exact HS.rd 1 rfl | exact HS.rd 2 rfl | exact HS.rd 3 rfl | exact HS.rd 4 rfl | exact HS.rd 5 rfl | exact HS.drew.old h1 | exact HS.drew.rd 0 rfl | exact HS.drew.rd 1 rfl | exact HS.drew.rd 2 rfl | exact HS.drew.rd 3 rfl | exact HS.drew.rd 4 rfl | exact HS.drew.rd 5 rfl | refine Rd.alloc ?_ _)) (by repeat (first | exact HS.old h2 | exact HS.rd 0 rfl | exact HS.rd 1 rfl | exact HS.rd 2 rfl | exact HS.rd 3 rfl | exact HS.rd 4 rfl | exact HS.rd 5 rfl | exact HS.drew.old h2 | exact HS.drew.rd 0 rfl | exact HS.drew.rd 1 rfl | exact HS.drew.rd 2 rfl | exact HS.drew.rd 3 rfl | exact HS.drew.rd 4 rfl | exact HS.drew.rd 5 rfl | refine Rd.alloc ?_ _)) hn2 HP.out hc2).mono ?_; rintro e w1 ⟨ul, uc, rfl, hs⟩; obtain ⟨A9, c9, rfl, _, _⟩ := (hs.rd 0 rfl).val; obtain ⟨A10, c10, rfl, _, _⟩ := (hs.rd 1 rfl).val; (first | have H' := HS.call2 hs | have H' := HS.drew.call2 hs | have H' := (HS.box0 [_] _).call2 hs | have H' := ((HS.box0 [_] _).box0 [_] _).call2 hs | have H' := (HS.box0 [_] _).drew.call2 hs | have H' := (HS.alloc _).call2 hs | have H' := ((HS.alloc _).alloc _).call2 hs | have H' := (HS.alloc _).drew.call2 hs); clear HS; have HS := H'; clear H'; have F := HS.facts; simp only [Own.Facts, Own.Cells, World.size_alloc, List.cons_append, List.nil_append, List.eraseIdx_cons_succ, List.eraseIdx_cons_zero, List.eraseIdx_zero, List.tail_cons, Nat.zero_add] at F) | (go_at_call 18; refine (eqState s s _ _ _ _ _ (by first | exact HS.rd 0 rfl | exact HS.rd 1 rfl | exact HS.rd 2 rfl | exact HS.rd 3 rfl | exact HS.rd 4 rfl | exact HS.rd 5 rfl | exact HS.rd 6 rfl | exact HS.rd 7 rfl | exact HS.rd 8 rfl | exact HS.rd 9 rfl | exact HS.rd 10 rfl | exact HS.rd 11 rfl | exact HS.rd 12 rfl | exact HS.rd 13 rfl | exact HS.rd 14 rfl | exact HS.rd 15 rfl | exact HS.drew.rd 0 rfl | exact HS.drew.rd 1 rfl | exact HS.drew.rd 2 rfl | exact HS.drew.rd 3 rfl | exact HS.drew.rd 4 rfl | exact HS.drew.rd 5 rfl | exact HS.drew.rd 6 rfl | exact HS.drew.rd 7 rfl | exact HS.drew.rd 8 rfl | exact HS.drew.rd 9 rfl | exact HS.drew.rd 10 rfl | exact HS.drew.rd 11 rfl | exact HS.drew.rd 12 rfl | exact HS.drew.rd 13 rfl | exact HS.drew.rd 14 rfl | exact HS.drew.rd 15 rfl) (by first | exact HS.rd 0 rfl | exact HS.rd 1 rfl | exact HS.rd 2 rfl | exact HS.rd 3 rfl | exact HS.rd 4 rfl | exact HS.rd 5 rfl | exact HS.rd 6 rfl | exact HS.rd 7 rfl | exact HS.rd 8 rfl | exact HS.rd 9 rfl | exact HS.rd 10 rfl | exact HS.rd 11 rfl | exact HS.rd 12 rfl | exact HS.rd 13 rfl | exact HS.rd 14 rfl | exact HS.rd 15 rfl | exact HS.drew.rd 0 rfl | exact HS.drew.rd 1 rfl | exact HS.drew.rd 2 rfl | exact HS.drew.rd 3 rfl | exact HS.drew.rd 4 rfl | exact HS.drew.rd 5 rfl | exact HS.drew.rd 6 rfl | exact HS.drew.rd 7 rfl | exact HS.drew.rd 8 rfl | exact HS.drew.rd 9 rfl | exact HS.drew.rd 10 rfl | exact HS.drew.rd 11 rfl | exact HS.drew.rd 12 rfl | exact HS.drew.rd 13 rfl | exact HS.drew.rd 14 rfl | exact HS.drew.rd 15 rfl) (by first | exact HS.rd 0 rfl | exact HS.rd 1 rfl | exact HS.rd 2 rfl | exact HS.rd 3 rfl | exact HS.rd 4 rfl | exact HS.rd 5 rfl | exact HS.rd 6 rfl | exact HS.rd 7 rfl | exact HS.rd 8 rfl | exact HS.rd 9 rfl | exact HS.rd 10 rfl | exact HS.rd 11 rfl | exact HS.rd 12 rfl | exact HS.rd 13 rfl | exact HS.rd 14 rfl | exact HS.rd 15 rfl | exact HS.drew.rd 0 rfl | exact HS.drew.rd 1 rfl | exact HS.drew.rd 2 rfl | exact HS.drew.rd 3 rfl | exact HS.drew.rd 4 rfl | exact HS.drew.rd 5 rfl | exact HS.drew.rd 6 rfl | exact HS.drew.rd 7 rfl | exact HS.drew.rd 8 rfl | exact HS.drew.rd 9 rfl | exact HS.drew.rd 10 rfl | exact HS.drew.rd 11 rfl | exact HS.drew.rd 12 rfl | exact HS.drew.rd 13 rfl | exact HS.drew.rd 14 rfl | exact HS.drew.rd 15 rfl) (by first | exact HS.rd 0 rfl | exact HS.rd 1 rfl | exact HS.rd 2 rfl | exact HS.rd 3 rfl | exact HS.rd 4 rfl | exact HS.rd 5 rfl | exact HS.rd 6 rfl | exact HS.rd 7 rfl | exact HS.rd 8 rfl | exact HS.rd 9 rfl | exact HS.rd 10 rfl | exact HS.rd 11 rfl | exact HS.rd 12 rfl | exact HS.rd 13 rfl | exact HS.rd 14 rfl | exact HS.rd 15 rfl | exact HS.drew.rd 0 rfl | exact HS.drew.rd 1 rfl | exact HS.drew.rd 2 rfl | exact HS.drew.rd 3 rfl | exact HS.drew.rd 4 rfl | exact HS.drew.rd 5 rfl | exact HS.drew.rd 6 rfl | exact HS.drew.rd 7 rfl | exact HS.drew.rd 8 rfl | exact HS.drew.rd 9 rfl | exact HS.drew.rd 10 rfl | exact HS.drew.rd 11 rfl | exact HS.drew.rd 12 rfl | exact HS.drew.rd 13 rfl | exact HS.drew.rd 14 rfl | exact HS.drew.rd 15 rfl)).mono ?_; rintro e w1 ⟨rfl, hb⟩; (first | have H' := HS.of_below hb | have H' := HS.drew.of_below hb | have H' := (HS.box0 [_] _).of_below hb | have H' := ((HS.box0 [_] _).box0 [_] _).of_below hb | have H' := (HS.box0 [_] _).drew.of_below hb | have H' := (HS.alloc _).of_below hb | have H' := ((HS.alloc _).alloc _).of_below hb | have H' := (HS.alloc _).drew.of_below hb); clear HS; have HS := H'; clear H'; have F := HS.facts; simp only [Own.Facts, Own.Cells, World.size_alloc, List.cons_append, List.nil_append, List.eraseIdx_cons_succ, List.eraseIdx_cons_zero, List.eraseIdx_zero, List.tail_cons, Nat.zero_add] at F))
    go_wp2_with fail
    refine (markState s _ _ 1 _ ((HS.pick 5 rfl).pick 5 rfl) (by omega)).mono ?_
    rintro e w13 ⟨rfl, H13⟩
    clear HS F
    have HS := H13
    clear H13
    have F := HS.facts; simp only [Own.Facts, Own.Cells, World.size_alloc, List.cons_append, List.nil_append, List.eraseIdx_cons_succ, List.eraseIdx_cons_zero, List.eraseIdx_zero, List.tail_cons, Nat.zero_add] at F
    go_wp2_with fail
    refine (eqByteS T T _ _ _ (HS.rd 4 rfl) (HS.rd 6 rfl)).mono ?_; rintro e w15 ⟨rfl, hb⟩; (first | have H' := HS.of_below hb | have H' := HS.drew.of_below hb | have H' := (HS.box0 [_] _).of_below hb | have H' := ((HS.box0 [_] _).box0 [_] _).of_below hb | have H' := (HS.alloc _).of_below hb | have H' := ((HS.alloc _).alloc _).of_below hb); clear HS; have HS := H'; clear H'; have F := HS.facts; simp only [Own.Facts, Own.Cells, World.size_alloc, List.cons_append, List.nil_append, List.eraseIdx_cons_succ, List.eraseIdx_cons_zero, List.eraseIdx_zero, List.tail_cons, Nat.zero_add] at F
    go_wp2_with fail
    refine (markByteS T _ 1 _ (HS.pick 4 rfl) (by omega)).mono ?_
    rintro e w16 ⟨rfl, H16⟩
    clear HS F
    have HS := H16
    clear H16
    have F := HS.facts; simp only [Own.Facts, Own.Cells, World.size_alloc, List.cons_append, List.nil_append, List.eraseIdx_cons_succ, List.eraseIdx_cons_zero, List.eraseIdx_zero, List.tail_cons, Nat.zero_add] at F
    go_wp2_with fail
    refine (heldByteS T _ 1 _ HS (by omega) (by omega)).mono ?_; rintro e w17 ⟨rfl, hb⟩; (first | have H' := HS.of_below hb | have H' := HS.drew.of_below hb | have H' := (HS.box0 [_] _).of_below hb | have H' := ((HS.box0 [_] _).box0 [_] _).of_below hb | have H' := (HS.alloc _).of_below hb | have H' := ((HS.alloc _).alloc _).of_below hb); clear HS; have HS := H'; clear H'; have F := HS.facts; simp only [Own.Facts, Own.Cells, World.size_alloc, List.cons_append, List.nil_append, List.eraseIdx_cons_succ, List.eraseIdx_cons_zero, List.eraseIdx_zero, List.tail_cons, Nat.zero_add] at F
    go_wp2_with fail
    refine (toState s _ _ _ (HS.old h1) (HS.old h2) hn2 HP.out hc2).mono ?_; rintro e w18 ⟨ul, uc, rfl, hs⟩; obtain ⟨A18, c18, rfl, _, _⟩ := (hs.rd 0 rfl).val; obtain ⟨B18, d18, rfl, _, _⟩ := (hs.rd 1 rfl).val; (first | have H' := HS.call2 hs | have H' := HS.drew.call2 hs | have H' := (HS.box0 [_] _).call2 hs | have H' := ((HS.box0 [_] _).box0 [_] _).call2 hs | have H' := (HS.alloc _).call2 hs | have H' := ((HS.alloc _).alloc _).call2 hs); clear HS; have HS := H'; clear H'; have F := HS.facts; simp only [Own.Facts, Own.Cells, World.size_alloc, List.cons_append, List.nil_append, List.eraseIdx_cons_succ, List.eraseIdx_cons_zero, List.eraseIdx_zero, List.tail_cons, Nat.zero_add] at F
    go_wp2_with fail
    refine (ps2 HT.out (implPutState s _ _ _ (HS.rd 0 rfl) (HS.rd 1 rfl) HW.out hc2)).mono ?_; rintro e w20 ⟨g0, rfl, hs⟩; obtain ⟨AH, cH, rfl, _, _⟩ := (hs.rd 0 rfl).val; (first | have H' := HS.call1 hs | have H' := HS.drew.call1 hs | have H' := (HS.box0 [_] _).call1 hs | have H' := ((HS.box0 [_] _).box0 [_] _).call1 hs | have H' := (HS.alloc _).call1 hs | have H' := ((HS.alloc _).alloc _).call1 hs); clear HS; have HS := H'; clear H'; have F := HS.facts; simp only [Own.Facts, Own.Cells, World.size_alloc, List.cons_append, List.nil_append, List.eraseIdx_cons_succ, List.eraseIdx_cons_zero, List.eraseIdx_zero, List.tail_cons, Nat.zero_add] at F
    go_wp2_with fail
    refine (eqByteS T T _ _ _ (HS.rd 0 rfl) (by first | exact HS.rd 0 rfl | exact HS.rd 1 rfl | exact HS.rd 2 rfl | exact HS.rd 3 rfl | exact HS.rd 4 rfl | exact HS.rd 5 rfl | exact HS.rd 6 rfl | exact HS.rd 7 rfl | exact HS.rd 8 rfl | exact HS.rd 9 rfl | exact HS.rd 10 rfl | exact HS.rd 11 rfl | exact HS.rd 12 rfl | exact HS.rd 13 rfl | exact HS.rd 14 rfl | exact HS.rd 15 rfl | exact HS.drew.rd 0 rfl | exact HS.drew.rd 1 rfl | exact HS.drew.rd 2 rfl | exact HS.drew.rd 3 rfl | exact HS.drew.rd 4 rfl | exact HS.drew.rd 5 rfl | exact HS.drew.rd 6 rfl | exact HS.drew.rd 7 rfl | exact HS.drew.rd 8 rfl | exact HS.drew.rd 9 rfl | exact HS.drew.rd 10 rfl | exact HS.drew.rd 11 rfl | exact HS.drew.rd 12 rfl | exact HS.drew.rd 13 rfl | exact HS.drew.rd 14 rfl | exact HS.drew.rd 15 rfl)).mono ?_; rintro e w21 ⟨rfl, hb⟩; (first | have H' := HS.of_below hb | have H' := HS.drew.of_below hb | have H' := (HS.box0 [_] _).of_below hb | have H' := ((HS.box0 [_] _).box0 [_] _).of_below hb | have H' := (HS.alloc _).of_below hb | have H' := ((HS.alloc _).alloc _).of_below hb); clear HS; have HS := H'; clear H'; have F := HS.facts; simp only [Own.Facts, Own.Cells, World.size_alloc, List.cons_append, List.nil_append, List.eraseIdx_cons_succ, List.eraseIdx_cons_zero, List.eraseIdx_zero, List.tail_cons, Nat.zero_add] at F
    go_wp2
    go_ret
    exact ⟨rfl, HS.below⟩
namespace fnExactPutState
set_option linter.unusedSimpArgs false
set_option linter.unusedVariables false
open Go.ChangeShapes Go.WideShapes Go.ChangeAt Go.RowKit Go.Ow
set_option linter.unusedVariables false
theorem own : ownKnob Try.prog.godebug = none := by kernel_rfl
theorem laidOut : laidOutB Try.prog = true := laidOutF
set_option maxRecDepth 100000 in
theorem lifted (os : Os) (started : os.Started) (H : Type) (enc : TypeId × Value → H) :
    ReturnsInHanded {} Try.checked os 4 .any (Rows.fnExactPutStateSpec.pre6 enc Try.prog Try.f4 Rows.fnExactPutStateRow.domain false) (Rows.fnExactPutStateSpec.post enc Try.prog Try.f4 false true false false) := by
  refine returnsInHanded_of_change_sized (C := Try.checked) own started (by kernel_rfl) Try.func4
    (ChangeSpec.witness6 (enc := enc) (C := Try.checked) false ⟨#[], #[.agg #[.slice none 0 0, .slice none 0 0]], []⟩ 8 (by kernel_rfl) (by kernel_rfl) (by kernel_rfl) (by kernel_rfl)) ?_
  intro W base args ds gs before hval0 hW hcnd hsz0 _
  have hsz : (DataW.weightsEach Try.prog (Try.f4.params.toList ++ Rows.fnExactPutStateSpec.plain.varTypes Try.prog) (ds ++ gs)).all (· ≤ reachBytes) = true := hsz0
  have hval : ∀ (j : Nat) t v, Try.f4.params[j]? = some t → args[j]? = some v → Value.okWide Try.prog W .any base t v := hval0
  have hW' := hW
  obtain ⟨p, q, hA0, hV, rfl, hfz, hnd⟩ := hW
  have hA : DataW.TrodAll enc Try.prog W 0 (fun _ => true) true Try.f4.params.toList args.toList ds p := hA0
  rw [Try.params4] at hA hval hsz
  obtain ⟨v0, vs0, d0, ds0, p0, q0, hargs, rfl, rfl, h0, r0⟩ := trodAll_cons hA
  obtain ⟨rfl, rfl, rfl⟩ := trodAll_nil r0
  obtain rfl : args = #[v0] := by cases args; simp_all
  obtain ⟨rfl, rfl⟩ := trodVars_none hV
  have hwt : ∀ n ∈ DataW.weightsEach Try.prog [27] [d0], n ≤ 140737488351232 := by
    have hsz2 : (DataW.weightsEach Try.prog [27] [d0]).all (· ≤ reachBytes) = true := hsz
    exact fun n hn => of_decide_eq_true (List.all_eq_true.1 hsz2 n hn)
  have k0 := h0
  have lt0 : ∀ x ∈ p0, x.block < W.heap.size := by obtain ⟨m, hm⟩ := k0; exact DataW.trod_lt m _ _ _ hm
  have wk0 := hval 0 27 v0 rfl rfl
  obtain ⟨fu0, hf0⟩ := h0
  have ww0 : ∀ n ∈ DataW.weights Try.prog 27 d0, n ≤ 140737488351232 := fun n hn => hwt n (weights_each (i := 0) rfl rfl n hn)
  obtain ⟨s, cs_s, rfl, rd_s, ok_s⟩ := open_t dcState Try.underlying27 hf0 ww0 wk0
  obtain ⟨vl, vc, rfl, hrl, hrc⟩ := St.open_ rd_s
  clear hA0 hval0 hsz0 hsz
  refine (lawPutState s vl vc W hrl hrc (lfW_ok ok_s)).mono fun e W' ⟨he, bel⟩ => ?_
  subst he
  exact ⟨_, rfl, _, _, _, [], _, [], hW', trodAll_mk1 (shut_bool Try.underlying4 _), (trodAll_cons_mk (Below.trod laidOut (by kernel_rfl) (of_decide_eq_true (by kernel_rfl)) k0 bel lt0) trodAll_mk0), rfl, bel.frame _, fun h => by cases h⟩
theorem joined : joinedFacts Try.prog 4 Try.f4 Rows.fnExactPutStateSpec Rows.fnExactPutStateRow = true := by
  unfold joinedFacts
  simp only [Bool.and_eq_true, mayEnter, liftsFinal, make, laidOutF, mapsRowedF, stopsF, knobsF, plainKeysF, heardF]
  repeat' (refine And.intro ?_ ?_)
  all_goals first | exact trivial | with_reducible rfl | kernel_rfl
theorem over : Rows.fnExactPutStateRow.holds Try.pinned (OpenSpec.ofChange Rows.fnExactPutStateSpec) :=
  OpenClaim.holds_of_wide 4 Try.f4 rfl rfl rfl rfl rfl rfl rfl ⟨rfl, rfl, rfl, rfl, rfl⟩ rfl rfl rfl rfl rfl (by kernel_rfl) Try.func4 joined (of_decide_eq_true (by kernel_rfl))
    (by unfold Func.isWrapper; first | (rw [if_pos (by decide +kernel)]; kernel_rfl) | (rw [if_neg (by decide +kernel)]; exact ⟨rfl, rfl⟩))
    (fun os started H enc _ => lifted os started H enc)
end fnExactPutState
theorem fnExactPutState_holds : Rows.FnExactPutStateSaid := fnExactPutState.over
#print axioms fnExactPutState_holds
end Go.Proofs.Ytbcgbkeldcaalaa
