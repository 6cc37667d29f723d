/- FnExactAddDot: for every context and dot the law returns true, and the context reads behind the call as it read before. No condition. -/
import Derived.Test.YtgfgkbmebdaieaaRows
import Derived.Test.YtgfgkbmebdaieaaVB
import Derived.Test.YtgfgkbmebdaieaaD1
import Derived.Test.YtgfgkbmebdaieaaC5
import Derived.Test.YtgfgkbmebdaieaaAw
import Derived.Test.YtgfgkbmebdaieaaFf
import Derived.Test.YtgfgkbmebdaieaaVd
namespace Go.Proofs.Ytgfgkbmebdaieaa
set_option linter.unusedSimpArgs false
set_option linter.unusedVariables false
open Go.RowKit Go.Ow
attribute [local irreducible] wpQuiet
set_option maxRecDepth 100000
theorem un2 {f : FuncId} {args : Array Value} {w : World} {xs ys zs : List Rn} {ok : Bool} (h1 : uniR xs ys = zs) (h2 : uniOk xs ys = ok) (h : Calls Try.prog f args w fun e w' => ∃ vr, e = .returned (.tuple #[.agg #[vr], .bool (uniOk xs ys)]) ∧ Own w [.own vr (uniR xs ys)] w') :
    Calls Try.prog f args w fun e w' => ∃ vr, e = .returned (.tuple #[.agg #[vr], .bool ok]) ∧ Own w [.own vr zs] w' := by
  rw [h1, h2] at h; exact h
set_option maxHeartbeats 8000000 in
theorem lawAddDot (xs : List Rn) (rep seq : Int) (v : Value) (w : World) (hv : Rd w v xs) : Calls Try.prog 7 #[.agg #[v], .agg #[.int .i64 rep, .int .i64 seq]] w fun e w' => e = .returned (.bool true) ∧ Below w.heap.size w w' := by
  obtain ⟨A, c, rfl, hc, hl⟩ := hv.val
  have HS := ((Own.start w).box [.slice A xs.length c] 25).box (b := w.heap.size + 1) [.int .i64 rep, .int .i64 seq] 53
  by_cases hn : xs.length ≤ 1048576
  · have hs : szL xs.length 1048576 = 1048576 - (xs.length : Int) := by unfold szL wrap64; rw [if_neg (by omega)]; omega
    have hg1 : ¬ (1048576 - (xs.length : Int) < 0) := by omega
    obtain ⟨zs, hzs⟩ : ∃ zs, uniR xs [⟨rep, seq, seq⟩] = zs := ⟨_, rfl⟩
    obtain ⟨ok, hok⟩ : ∃ ok, uniOk xs [⟨rep, seq, seq⟩] = ok := ⟨_, rfl⟩
    have HZ := Lib.hid (And.intro hzs hok)
    clear hzs hok
    go_enter Try.func7, Try.ntmps7
    go_wp2_with fail
    refine (szContext xs _ 1048576 _ (HS.old hv)).mono ?_; rintro e w2 ⟨rfl, hb⟩; (first | have H' := HS.of_below hb | have H' := HS.drew.of_below hb | have H' := (HS.box0 [_] _).of_below hb | have H' := ((HS.box0 [_] _).box0 [_] _).of_below hb | have H' := (HS.alloc _).of_below hb | have H' := ((HS.alloc _).alloc _).of_below hb); clear HS; have HS := H'; clear H'; have F := HS.facts; simp only [Own.Facts, Own.Cells, World.size_alloc, List.cons_append, List.nil_append, List.eraseIdx_cons_succ, List.eraseIdx_cons_zero, List.eraseIdx_zero, List.tail_cons, Nat.zero_add] at F
    rw [hs]
    clear hs
    go_wp2
    have hn0 : w2.heap.size ≠ w.heap.size ∧ w2.heap.size ≠ w.heap.size + 1 := by omega
    go_region_held3 (fun w' => w'.cell? ⟨w.heap.size, 0, none⟩ = some (.slice A xs.length c) ∧ w'.cell? ⟨w.heap.size + 1, 0, none⟩ = some (.int .i64 rep) ∧ w'.cell? ⟨w.heap.size + 1, 1, none⟩ = some (.int .i64 seq)) (first | go_keep) (first | (go_at_call 23; refine (toContext xs _ _ (by first | exact HS.old hv | exact (HS.alloc _).old hv | exact HS.drew.old hv | exact (HS.alloc _).drew.old hv | exact (HS.drew.alloc _).old hv) hn).mono ?_; rintro e w1 ⟨v2, rfl, hs⟩; obtain ⟨A2, c2, rfl, _, _⟩ := (hs.rd 0 rfl).val; (first | have H' := HS.call1 hs | have H' := HS.drew.call1 hs | have H' := (HS.box0 [_] _).call1 hs | have H' := ((HS.box0 [_] _).box0 [_] _).call1 hs | have H' := (HS.box0 [_] _).drew.call1 hs | have H' := (HS.alloc _).call1 hs | have H' := ((HS.alloc _).alloc _).call1 hs | have H' := (HS.alloc _).drew.call1 hs); clear HS; have HS := H'; clear H'; have F := HS.facts; simp only [Own.Facts, Own.Cells, World.size_alloc, List.cons_append, List.nil_append, List.eraseIdx_cons_succ, List.eraseIdx_cons_zero, List.eraseIdx_zero, List.tail_cons, Nat.zero_add] at F; try (have hnA : w1.heap.size ≠ w.heap.size ∧ w1.heap.size ≠ w.heap.size + 1 := (by omega))) | (go_at_call 31; refine (toDot rep seq _).mono ?_; rintro e w1 ⟨rfl, hb⟩; skip; (first | have H' := HS.of_below hb | have H' := HS.drew.of_below hb | have H' := (HS.box0 [_] _).of_below hb | have H' := ((HS.box0 [_] _).box0 [_] _).of_below hb | have H' := (HS.box0 [_] _).drew.of_below hb | have H' := (HS.alloc _).of_below hb | have H' := ((HS.alloc _).alloc _).of_below hb | have H' := (HS.alloc _).drew.of_below hb); clear HS; have HS := H'; clear H'; have F := HS.facts; simp only [Own.Facts, Own.Cells, World.size_alloc, List.cons_append, List.nil_append, List.eraseIdx_cons_succ, List.eraseIdx_cons_zero, List.eraseIdx_zero, List.tail_cons, Nat.zero_add] at F; try (have hnA : w1.heap.size ≠ w.heap.size ∧ w1.heap.size ≠ w.heap.size + 1 := (by omega))) | (go_at_call 30; refine (un2 HZ.out.1 HZ.out.2 (specAddDot xs rep seq _ _ (by first | exact HS.rd 0 rfl | exact (HS.alloc _).rd 0 rfl | exact HS.drew.rd 0 rfl | exact (HS.alloc _).drew.rd 0 rfl | exact HS.rd 1 rfl | exact (HS.alloc _).rd 1 rfl | exact HS.drew.rd 1 rfl | exact (HS.alloc _).drew.rd 1 rfl | exact HS.rd 2 rfl | exact (HS.alloc _).rd 2 rfl | exact HS.drew.rd 2 rfl | exact (HS.alloc _).drew.rd 2 rfl | exact HS.rd 3 rfl | exact (HS.alloc _).rd 3 rfl | exact HS.drew.rd 3 rfl | exact (HS.alloc _).drew.rd 3 rfl))).mono ?_; rintro e w1 ⟨vr, rfl, hs⟩; obtain ⟨A3, c3, rfl, _, _⟩ := (hs.rd 0 rfl).val; (first | have H' := HS.call1 hs | have H' := HS.drew.call1 hs | have H' := (HS.box0 [_] _).call1 hs | have H' := ((HS.box0 [_] _).box0 [_] _).call1 hs | have H' := (HS.box0 [_] _).drew.call1 hs | have H' := (HS.alloc _).call1 hs | have H' := ((HS.alloc _).alloc _).call1 hs | have H' := (HS.alloc _).drew.call1 hs); clear HS; have HS := H'; clear H'; have F := HS.facts; simp only [Own.Facts, Own.Cells, World.size_alloc, List.cons_append, List.nil_append, List.eraseIdx_cons_succ, List.eraseIdx_cons_zero, List.eraseIdx_zero, List.tail_cons, Nat.zero_add] at F; try (have hnA : w1.heap.size ≠ w.heap.size ∧ w1.heap.size ≠ w.heap.size + 1 := (by omega))))
    all_goals
      first | (refine th_box HS ?_; intro HB) | (refine th_set 0 HS rfl ?_; intro HB) | (refine th_set 1 HS rfl ?_; intro HB) | (refine th_set 2 HS rfl ?_; intro HB) | (refine th_set 3 HS rfl ?_; intro HB) | (refine th_set 4 HS rfl ?_; intro HB) | (refine th_set 5 HS rfl ?_; intro HB)
      clear HS F
      have HS := HB
      clear HB
      have F := HS.facts; simp only [Own.Facts, Own.Cells, World.size_alloc, List.cons_append, List.nil_append, List.eraseIdx_cons_succ, List.eraseIdx_cons_zero, List.eraseIdx_zero, List.tail_cons, Nat.zero_add] at F
      go_wp2_with fail
      refine (toContext xs _ _ (HS.old hv) hn).mono ?_; rintro e w4 ⟨v4, rfl, hs⟩; obtain ⟨A4, c4, rfl, _, _⟩ := (hs.rd 0 rfl).val; (first | have H' := HS.call1 hs | have H' := HS.drew.call1 hs | have H' := (HS.box0 [_] _).call1 hs | have H' := ((HS.box0 [_] _).box0 [_] _).call1 hs | have H' := (HS.alloc _).call1 hs | have H' := ((HS.alloc _).alloc _).call1 hs); clear HS; have HS := H'; clear H'; have F := HS.facts; simp only [Own.Facts, Own.Cells, World.size_alloc, List.cons_append, List.nil_append, List.eraseIdx_cons_succ, List.eraseIdx_cons_zero, List.eraseIdx_zero, List.tail_cons, Nat.zero_add] at F
      replace HS := HS.box (b := w4.heap.size) [.slice A4 xs.length c4] 33
      clear F
      have F := HS.facts; simp only [Own.Facts, Own.Cells, World.size_alloc, List.cons_append, List.nil_append, List.eraseIdx_cons_succ, List.eraseIdx_cons_zero, List.eraseIdx_zero, List.tail_cons, Nat.zero_add] at F
      go_wp2
      obtain ⟨wx, hwx⟩ : ∃ x, w4.alloc (.cells #[.slice A4 xs.length c4] 33) = x := ⟨_, rfl⟩
      have hsz : wx.heap.size = w4.heap.size + 1 := by rw [← hwx, World.size_alloc]
      rw [hwx] at HS F
      try rw [hwx]
      clear hwx
      have hn1 : wx.heap.size ≠ w4.heap.size ∧ wx.heap.size ≠ w.heap.size + 1 := by omega
      clear hsz
      go_region_held3 (fun w' => w'.cell? ⟨w4.heap.size, 0, none⟩ = some (.slice A4 xs.length c4) ∧ w'.cell? ⟨w.heap.size + 1, 0, none⟩ = some (.int .i64 rep) ∧ w'.cell? ⟨w.heap.size + 1, 1, none⟩ = some (.int .i64 seq)) (first | go_keep) (first | (go_at_call 31; refine (toDot rep seq _).mono ?_; rintro e w1 ⟨rfl, hb⟩; skip; (first | have H' := HS.of_below hb | have H' := HS.drew.of_below hb | have H' := (HS.box0 [_] _).of_below hb | have H' := ((HS.box0 [_] _).box0 [_] _).of_below hb | have H' := (HS.box0 [_] _).drew.of_below hb | have H' := (HS.alloc _).of_below hb | have H' := ((HS.alloc _).alloc _).of_below hb | have H' := (HS.alloc _).drew.of_below hb); clear HS; have HS := H'; clear H'; have F := HS.facts; simp only [Own.Facts, Own.Cells, World.size_alloc, List.cons_append, List.nil_append, List.eraseIdx_cons_succ, List.eraseIdx_cons_zero, List.eraseIdx_zero, List.tail_cons, Nat.zero_add] at F; try (have hnA : w1.heap.size ≠ w4.heap.size ∧ w1.heap.size ≠ w.heap.size + 1 := (by omega))) | (go_at_call 32; refine (un2 HZ.out.1 HZ.out.2 (implAddDot xs rep seq _ _ (by first | exact HS.rd 0 rfl | exact (HS.alloc _).rd 0 rfl | exact HS.drew.rd 0 rfl | exact (HS.alloc _).drew.rd 0 rfl | exact HS.rd 1 rfl | exact (HS.alloc _).rd 1 rfl | exact HS.drew.rd 1 rfl | exact (HS.alloc _).drew.rd 1 rfl | exact HS.rd 2 rfl | exact (HS.alloc _).rd 2 rfl | exact HS.drew.rd 2 rfl | exact (HS.alloc _).drew.rd 2 rfl | exact HS.rd 3 rfl | exact (HS.alloc _).rd 3 rfl | exact HS.drew.rd 3 rfl | exact (HS.alloc _).drew.rd 3 rfl | exact HS.rd 4 rfl | exact (HS.alloc _).rd 4 rfl | exact HS.drew.rd 4 rfl | exact (HS.alloc _).drew.rd 4 rfl) hn)).mono ?_; rintro e w1 ⟨vr, rfl, hs⟩; obtain ⟨A6, c6, rfl, _, hLl⟩ := (hs.rd 0 rfl).val; (first | have H' := HS.call1 hs | have H' := HS.drew.call1 hs | have H' := (HS.box0 [_] _).call1 hs | have H' := ((HS.box0 [_] _).box0 [_] _).call1 hs | have H' := (HS.box0 [_] _).drew.call1 hs | have H' := (HS.alloc _).call1 hs | have H' := ((HS.alloc _).alloc _).call1 hs | have H' := (HS.alloc _).drew.call1 hs); clear HS; have HS := H'; clear H'; have F := HS.facts; simp only [Own.Facts, Own.Cells, World.size_alloc, List.cons_append, List.nil_append, List.eraseIdx_cons_succ, List.eraseIdx_cons_zero, List.eraseIdx_zero, List.tail_cons, Nat.zero_add] at F; try (have hnA : w1.heap.size ≠ w4.heap.size ∧ w1.heap.size ≠ w.heap.size + 1 := (by omega))))
      all_goals
        first | (refine th_box HS ?_; intro HB) | (refine th_set 0 HS rfl ?_; intro HB) | (refine th_set 1 HS rfl ?_; intro HB) | (refine th_set 2 HS rfl ?_; intro HB) | (refine th_set 3 HS rfl ?_; intro HB) | (refine th_set 4 HS rfl ?_; intro HB) | (refine th_set 5 HS rfl ?_; intro HB)
        clear HS F
        have HS := HB
        clear HB
        have F := HS.facts; simp only [Own.Facts, Own.Cells, World.size_alloc, List.cons_append, List.nil_append, List.eraseIdx_cons_succ, List.eraseIdx_cons_zero, List.eraseIdx_zero, List.tail_cons, Nat.zero_add] at F
        have hd1 : decide (zs = zs) = true := by simp
        have hd2 : decide (xs = xs) = true := by simp
        go_wp2_with fail
        refine (eqContext zs zs _ _ _ (by first | exact HS.rd 0 rfl | exact HS.rd 1 rfl | exact HS.rd 2 rfl | exact HS.rd 3 rfl | exact HS.rd 4 rfl | exact HS.rd 5 rfl | exact HS.rd 6 rfl | exact HS.rd 7 rfl | exact HS.rd 8 rfl | exact HS.rd 9 rfl | exact HS.rd 10 rfl | exact HS.rd 11 rfl | exact HS.rd 12 rfl | exact HS.rd 13 rfl) (by first | exact HS.rd 0 rfl | exact HS.rd 1 rfl | exact HS.rd 2 rfl | exact HS.rd 3 rfl | exact HS.rd 4 rfl | exact HS.rd 5 rfl | exact HS.rd 6 rfl | exact HS.rd 7 rfl | exact HS.rd 8 rfl | exact HS.rd 9 rfl | exact HS.rd 10 rfl | exact HS.rd 11 rfl | exact HS.rd 12 rfl | exact HS.rd 13 rfl)).mono ?_; rintro e w7 ⟨rfl, hb⟩; (first | have H' := HS.of_below hb | have H' := HS.drew.of_below hb | have H' := (HS.box0 [_] _).of_below hb | have H' := ((HS.box0 [_] _).box0 [_] _).of_below hb | have H' := (HS.alloc _).of_below hb | have H' := ((HS.alloc _).alloc _).of_below hb); clear HS; have HS := H'; clear H'; have F := HS.facts; simp only [Own.Facts, Own.Cells, World.size_alloc, List.cons_append, List.nil_append, List.eraseIdx_cons_succ, List.eraseIdx_cons_zero, List.eraseIdx_zero, List.tail_cons, Nat.zero_add] at F
        go_wp2
        go_region_held3 (fun w' => w'.cell? ⟨w4.heap.size, 0, none⟩ = some (.slice A4 xs.length c4) ∧ w'.cell? ⟨w.heap.size, 0, none⟩ = some (.slice A xs.length c)) (first | go_keep) (first | (go_at_call 23; refine (toContext xs _ _ (by repeat (first | exact HS.old hv | exact HS.rd 0 rfl | exact HS.rd 1 rfl | exact HS.rd 2 rfl | exact HS.rd 3 rfl | exact HS.rd 4 rfl | exact HS.rd 5 rfl | exact HS.drew.old hv | exact HS.drew.rd 0 rfl | exact HS.drew.rd 1 rfl | exact HS.drew.rd 2 rfl | exact HS.drew.rd 3 rfl | exact HS.drew.rd 4 rfl | exact HS.drew.rd 5 rfl | refine Rd.alloc ?_ _)) hn).mono ?_; rintro e w1 ⟨v8, rfl, hs⟩; obtain ⟨A8, c8, rfl, _, _⟩ := (hs.rd 0 rfl).val; (first | have H' := HS.call1 hs | have H' := HS.drew.call1 hs | have H' := (HS.box0 [_] _).call1 hs | have H' := ((HS.box0 [_] _).box0 [_] _).call1 hs | have H' := (HS.box0 [_] _).drew.call1 hs | have H' := (HS.alloc _).call1 hs | have H' := ((HS.alloc _).alloc _).call1 hs | have H' := (HS.alloc _).drew.call1 hs); clear HS; have HS := H'; clear H'; have F := HS.facts; simp only [Own.Facts, Own.Cells, World.size_alloc, List.cons_append, List.nil_append, List.eraseIdx_cons_succ, List.eraseIdx_cons_zero, List.eraseIdx_zero, List.tail_cons, Nat.zero_add] at F) | (go_at_call 25; refine (eqContext xs xs _ _ _ (by first | exact HS.rd 0 rfl | exact HS.drew.rd 0 rfl | exact HS.rd 1 rfl | exact HS.drew.rd 1 rfl | exact HS.rd 2 rfl | exact HS.drew.rd 2 rfl | exact HS.rd 3 rfl | exact HS.drew.rd 3 rfl | exact HS.rd 4 rfl | exact HS.drew.rd 4 rfl | exact HS.rd 5 rfl | exact HS.drew.rd 5 rfl | exact HS.rd 6 rfl | exact HS.drew.rd 6 rfl | exact HS.rd 7 rfl | exact HS.drew.rd 7 rfl | exact HS.rd 8 rfl | exact HS.drew.rd 8 rfl | exact HS.rd 9 rfl | exact HS.drew.rd 9 rfl | exact HS.rd 10 rfl | exact HS.drew.rd 10 rfl | exact HS.rd 11 rfl | exact HS.drew.rd 11 rfl | exact HS.rd 12 rfl | exact HS.drew.rd 12 rfl | exact HS.rd 13 rfl | exact HS.drew.rd 13 rfl) (by first | exact HS.rd 0 rfl | exact HS.drew.rd 0 rfl | exact HS.rd 1 rfl | exact HS.drew.rd 1 rfl | exact HS.rd 2 rfl | exact HS.drew.rd 2 rfl | exact HS.rd 3 rfl | exact HS.drew.rd 3 rfl | exact HS.rd 4 rfl | exact HS.drew.rd 4 rfl | exact HS.rd 5 rfl | exact HS.drew.rd 5 rfl | exact HS.rd 6 rfl | exact HS.drew.rd 6 rfl | exact HS.rd 7 rfl | exact HS.drew.rd 7 rfl | exact HS.rd 8 rfl | exact HS.drew.rd 8 rfl | exact HS.rd 9 rfl | exact HS.drew.rd 9 rfl | exact HS.rd 10 rfl | exact HS.drew.rd 10 rfl | exact HS.rd 11 rfl | exact HS.drew.rd 11 rfl | exact HS.rd 12 rfl | exact HS.drew.rd 12 rfl | exact HS.rd 13 rfl | exact HS.drew.rd 13 rfl)).mono ?_; rintro e w1 ⟨rfl, hb⟩; (first | have H' := HS.of_below hb | have H' := HS.drew.of_below hb | have H' := (HS.box0 [_] _).of_below hb | have H' := ((HS.box0 [_] _).box0 [_] _).of_below hb | have H' := (HS.box0 [_] _).drew.of_below hb | have H' := (HS.alloc _).of_below hb | have H' := ((HS.alloc _).alloc _).of_below hb | have H' := (HS.alloc _).drew.of_below hb); clear HS; have HS := H'; clear H'; have F := HS.facts; simp only [Own.Facts, Own.Cells, World.size_alloc, List.cons_append, List.nil_append, List.eraseIdx_cons_succ, List.eraseIdx_cons_zero, List.eraseIdx_zero, List.tail_cons, Nat.zero_add] at F))
        go_wp2_with fail
        refine (markContext xs _ (1) _ (by first | exact HS.pick 0 rfl | exact HS.pick 1 rfl | exact HS.pick 2 rfl | exact HS.pick 3 rfl | exact HS.pick 4 rfl | exact HS.pick 5 rfl | exact HS.pick 6 rfl | exact HS.pick 7 rfl | exact HS.pick 8 rfl | exact HS.pick 9 rfl | exact HS.pick 10 rfl | exact HS.pick 11 rfl | exact HS.pick 12 rfl | exact HS.pick 13 rfl) (by omega)).mono ?_
        rintro e w10 ⟨rfl, H10⟩
        clear HS F
        have HS := H10
        clear H10
        have F := HS.facts; simp only [Own.Facts, Own.Cells, World.size_alloc, List.cons_append, List.nil_append, List.eraseIdx_cons_succ, List.eraseIdx_cons_zero, List.eraseIdx_zero, List.tail_cons, Nat.zero_add] at F
        go_wp2_with fail
        refine (eqContext zs zs _ _ _ (by first | exact HS.rd 0 rfl | exact HS.rd 1 rfl | exact HS.rd 2 rfl | exact HS.rd 3 rfl | exact HS.rd 4 rfl | exact HS.rd 5 rfl | exact HS.rd 6 rfl | exact HS.rd 7 rfl | exact HS.rd 8 rfl | exact HS.rd 9 rfl | exact HS.rd 10 rfl | exact HS.rd 11 rfl | exact HS.rd 12 rfl | exact HS.rd 13 rfl) (by first | exact HS.rd 0 rfl | exact HS.rd 1 rfl | exact HS.rd 2 rfl | exact HS.rd 3 rfl | exact HS.rd 4 rfl | exact HS.rd 5 rfl | exact HS.rd 6 rfl | exact HS.rd 7 rfl | exact HS.rd 8 rfl | exact HS.rd 9 rfl | exact HS.rd 10 rfl | exact HS.rd 11 rfl | exact HS.rd 12 rfl | exact HS.rd 13 rfl)).mono ?_; rintro e w12 ⟨rfl, hb⟩; (first | have H' := HS.of_below hb | have H' := HS.drew.of_below hb | have H' := (HS.box0 [_] _).of_below hb | have H' := ((HS.box0 [_] _).box0 [_] _).of_below hb | have H' := (HS.alloc _).of_below hb | have H' := ((HS.alloc _).alloc _).of_below hb); clear HS; have HS := H'; clear H'; have F := HS.facts; simp only [Own.Facts, Own.Cells, World.size_alloc, List.cons_append, List.nil_append, List.eraseIdx_cons_succ, List.eraseIdx_cons_zero, List.eraseIdx_zero, List.tail_cons, Nat.zero_add] at F
        go_wp2_with fail
        refine (markContext zs _ (1) _ (by first | exact HS.pick 0 rfl | exact HS.pick 1 rfl | exact HS.pick 2 rfl | exact HS.pick 3 rfl | exact HS.pick 4 rfl | exact HS.pick 5 rfl | exact HS.pick 6 rfl | exact HS.pick 7 rfl | exact HS.pick 8 rfl | exact HS.pick 9 rfl | exact HS.pick 10 rfl | exact HS.pick 11 rfl | exact HS.pick 12 rfl | exact HS.pick 13 rfl) (by omega)).mono ?_
        rintro e w13 ⟨rfl, H13⟩
        clear HS F
        have HS := H13
        clear H13
        have F := HS.facts; simp only [Own.Facts, Own.Cells, World.size_alloc, List.cons_append, List.nil_append, List.eraseIdx_cons_succ, List.eraseIdx_cons_zero, List.eraseIdx_zero, List.tail_cons, Nat.zero_add] at F
        go_wp2_with fail
        refine (heldContext zs _ 1 _ HS (by omega) hLl).mono ?_
        rintro e w14 ⟨rfl, hb14⟩
        replace HS := HS.of_below hb14
        clear F
        have F := HS.facts; simp only [Own.Facts, Own.Cells, World.size_alloc, List.cons_append, List.nil_append, List.eraseIdx_cons_succ, List.eraseIdx_cons_zero, List.eraseIdx_zero, List.tail_cons, Nat.zero_add] at F
        go_wp2
        have hn0 : w14.heap.size ≠ w.heap.size ∧ w14.heap.size ≠ w.heap.size + 1 := by omega
        go_region_held3 (fun w' => w'.cell? ⟨w.heap.size, 0, none⟩ = some (.slice A xs.length c) ∧ w'.cell? ⟨w.heap.size + 1, 0, none⟩ = some (.int .i64 rep) ∧ w'.cell? ⟨w.heap.size + 1, 1, none⟩ = some (.int .i64 seq)) (first | go_keep) (first | (go_at_call 23; refine (toContext xs _ _ (by first | exact HS.old hv | exact (HS.alloc _).old hv | exact HS.drew.old hv | exact (HS.alloc _).drew.old hv | exact (HS.drew.alloc _).old hv) hn).mono ?_; rintro e w1 ⟨v2, rfl, hs⟩; obtain ⟨A2, c2, rfl, _, _⟩ := (hs.rd 0 rfl).val; (first | have H' := HS.call1 hs | have H' := HS.drew.call1 hs | have H' := (HS.box0 [_] _).call1 hs | have H' := ((HS.box0 [_] _).box0 [_] _).call1 hs | have H' := (HS.box0 [_] _).drew.call1 hs | have H' := (HS.alloc _).call1 hs | have H' := ((HS.alloc _).alloc _).call1 hs | have H' := (HS.alloc _).drew.call1 hs); clear HS; have HS := H'; clear H'; have F := HS.facts; simp only [Own.Facts, Own.Cells, World.size_alloc, List.cons_append, List.nil_append, List.eraseIdx_cons_succ, List.eraseIdx_cons_zero, List.eraseIdx_zero, List.tail_cons, Nat.zero_add] at F; try (have hnA : w1.heap.size ≠ w.heap.size ∧ w1.heap.size ≠ w.heap.size + 1 := (by omega))) | (go_at_call 31; refine (toDot rep seq _).mono ?_; rintro e w1 ⟨rfl, hb⟩; skip; (first | have H' := HS.of_below hb | have H' := HS.drew.of_below hb | have H' := (HS.box0 [_] _).of_below hb | have H' := ((HS.box0 [_] _).box0 [_] _).of_below hb | have H' := (HS.box0 [_] _).drew.of_below hb | have H' := (HS.alloc _).of_below hb | have H' := ((HS.alloc _).alloc _).of_below hb | have H' := (HS.alloc _).drew.of_below hb); clear HS; have HS := H'; clear H'; have F := HS.facts; simp only [Own.Facts, Own.Cells, World.size_alloc, List.cons_append, List.nil_append, List.eraseIdx_cons_succ, List.eraseIdx_cons_zero, List.eraseIdx_zero, List.tail_cons, Nat.zero_add] at F; try (have hnA : w1.heap.size ≠ w.heap.size ∧ w1.heap.size ≠ w.heap.size + 1 := (by omega))) | (go_at_call 32; refine (un2 HZ.out.1 HZ.out.2 (implAddDot xs rep seq _ _ (by first | exact HS.rd 0 rfl | exact (HS.alloc _).rd 0 rfl | exact HS.drew.rd 0 rfl | exact (HS.alloc _).drew.rd 0 rfl | exact HS.rd 1 rfl | exact (HS.alloc _).rd 1 rfl | exact HS.drew.rd 1 rfl | exact (HS.alloc _).drew.rd 1 rfl | exact HS.rd 2 rfl | exact (HS.alloc _).rd 2 rfl | exact HS.drew.rd 2 rfl | exact (HS.alloc _).drew.rd 2 rfl | exact HS.rd 3 rfl | exact (HS.alloc _).rd 3 rfl | exact HS.drew.rd 3 rfl | exact (HS.alloc _).drew.rd 3 rfl | exact HS.rd 4 rfl | exact (HS.alloc _).rd 4 rfl | exact HS.drew.rd 4 rfl | exact (HS.alloc _).drew.rd 4 rfl) hn)).mono ?_; rintro e w1 ⟨vr, rfl, hs⟩; obtain ⟨A3, c3, rfl, _, _⟩ := (hs.rd 0 rfl).val; (first | have H' := HS.call1 hs | have H' := HS.drew.call1 hs | have H' := (HS.box0 [_] _).call1 hs | have H' := ((HS.box0 [_] _).box0 [_] _).call1 hs | have H' := (HS.box0 [_] _).drew.call1 hs | have H' := (HS.alloc _).call1 hs | have H' := ((HS.alloc _).alloc _).call1 hs | have H' := (HS.alloc _).drew.call1 hs); clear HS; have HS := H'; clear H'; have F := HS.facts; simp only [Own.Facts, Own.Cells, World.size_alloc, List.cons_append, List.nil_append, List.eraseIdx_cons_succ, List.eraseIdx_cons_zero, List.eraseIdx_zero, List.tail_cons, Nat.zero_add] at F; try (have hnA : w1.heap.size ≠ w.heap.size ∧ w1.heap.size ≠ w.heap.size + 1 := (by omega))))
        all_goals
          first | (refine th_box HS ?_; intro HB) | (refine th_set 0 HS rfl ?_; intro HB) | (refine th_set 1 HS rfl ?_; intro HB) | (refine th_set 2 HS rfl ?_; intro HB) | (refine th_set 3 HS rfl ?_; intro HB) | (refine th_set 4 HS rfl ?_; intro HB) | (refine th_set 5 HS rfl ?_; intro HB)
          clear HS F
          have HS := HB
          clear HB
          have F := HS.facts; simp only [Own.Facts, Own.Cells, World.size_alloc, List.cons_append, List.nil_append, List.eraseIdx_cons_succ, List.eraseIdx_cons_zero, List.eraseIdx_zero, List.tail_cons, Nat.zero_add] at F
          go_wp2_with fail
          refine (eqContext zs zs _ _ _ (by first | exact HS.rd 0 rfl | exact HS.rd 1 rfl | exact HS.rd 2 rfl | exact HS.rd 3 rfl | exact HS.rd 4 rfl | exact HS.rd 5 rfl | exact HS.rd 6 rfl | exact HS.rd 7 rfl | exact HS.rd 8 rfl | exact HS.rd 9 rfl | exact HS.rd 10 rfl | exact HS.rd 11 rfl | exact HS.rd 12 rfl | exact HS.rd 13 rfl | exact HS.rd 14 rfl | exact HS.rd 15 rfl | exact HS.rd 16 rfl | exact HS.rd 17 rfl | exact HS.rd 18 rfl | exact HS.rd 19 rfl | exact HS.rd 20 rfl | exact HS.rd 21 rfl) (by first | exact HS.rd 0 rfl | exact HS.rd 1 rfl | exact HS.rd 2 rfl | exact HS.rd 3 rfl | exact HS.rd 4 rfl | exact HS.rd 5 rfl | exact HS.rd 6 rfl | exact HS.rd 7 rfl | exact HS.rd 8 rfl | exact HS.rd 9 rfl | exact HS.rd 10 rfl | exact HS.rd 11 rfl | exact HS.rd 12 rfl | exact HS.rd 13 rfl | exact HS.rd 14 rfl | exact HS.rd 15 rfl | exact HS.rd 16 rfl | exact HS.rd 17 rfl | exact HS.rd 18 rfl | exact HS.rd 19 rfl | exact HS.rd 20 rfl | exact HS.rd 21 rfl)).mono ?_; rintro e w15 ⟨rfl, hb⟩; (first | have H' := HS.of_below hb | have H' := HS.drew.of_below hb | have H' := (HS.box0 [_] _).of_below hb | have H' := ((HS.box0 [_] _).box0 [_] _).of_below hb | have H' := (HS.alloc _).of_below hb | have H' := ((HS.alloc _).alloc _).of_below hb); clear HS; have HS := H'; clear H'; have F := HS.facts; simp only [Own.Facts, Own.Cells, World.size_alloc, List.cons_append, List.nil_append, List.eraseIdx_cons_succ, List.eraseIdx_cons_zero, List.eraseIdx_zero, List.tail_cons, Nat.zero_add] at F
          go_wp2
          go_ret
          exact ⟨rfl, HS.below⟩
  · have hs : szL xs.length 1048576 = -1 := by unfold szL wrap64; rw [if_pos (by omega)]
    go_enter Try.func7, Try.ntmps7
    go_wp2_with fail
    refine (szContext xs _ 1048576 _ (HS.old hv)).mono ?_; rintro e w1 ⟨rfl, hb⟩; (first | have H' := HS.of_below hb | have H' := HS.drew.of_below hb | have H' := (HS.box0 [_] _).of_below hb | have H' := ((HS.box0 [_] _).box0 [_] _).of_below hb | have H' := (HS.alloc _).of_below hb | have H' := ((HS.alloc _).alloc _).of_below hb); clear HS; have HS := H'; clear H'; have F := HS.facts; simp only [Own.Facts, Own.Cells, World.size_alloc, List.cons_append, List.nil_append, List.eraseIdx_cons_succ, List.eraseIdx_cons_zero, List.eraseIdx_zero, List.tail_cons, Nat.zero_add] at F
    rw [hs]
    clear hs
    go_wp2
    go_ret
    exact ⟨rfl, HS.below⟩
namespace fnExactAddDot
open Go.ChangeShapes Go.WideShapes Go.ChangeAt Go.RowKit Go.Ow
set_option linter.unusedVariables false
theorem own : ownKnob Try.prog.godebug = none := by kernel_rfl
theorem laidOut : laidOutB Try.prog = true := laidOutF
set_option maxRecDepth 100000 in
theorem lifted (os : Os) (started : os.Started) (H : Type) (enc : TypeId × Value → H) :
    ReturnsInHanded {} Try.checked os 7 .any (Rows.fnExactAddDotSpec.pre6 enc Try.prog Try.f7 Rows.fnExactAddDotRow.domain false) (Rows.fnExactAddDotSpec.post enc Try.prog Try.f7 false true false false) := by
  refine returnsInHanded_of_change_sized (C := Try.checked) own started (by kernel_rfl) Try.func7
    (ChangeSpec.witness6 (enc := enc) (C := Try.checked) false ⟨#[], #[.agg #[.slice none 0 0], .agg #[.int .i64 0, .int .i64 0]], []⟩ 8 (by kernel_rfl) (by kernel_rfl) (by kernel_rfl) (by kernel_rfl)) ?_
  intro W base args ds gs before hval0 hW hcnd hsz0 _
  have hsz : (DataW.weightsEach Try.prog (Try.f7.params.toList ++ Rows.fnExactAddDotSpec.plain.varTypes Try.prog) (ds ++ gs)).all (· ≤ reachBytes) = true := hsz0
  have hval : ∀ (j : Nat) t v, Try.f7.params[j]? = some t → args[j]? = some v → Value.okWide Try.prog W .any base t v := hval0
  have hW' := hW
  obtain ⟨p, q, hA0, hV, rfl, hfz, hnd⟩ := hW
  have hA : DataW.TrodAll enc Try.prog W 0 (fun _ => true) true Try.f7.params.toList args.toList ds p := hA0
  rw [Try.params7] at hA hval hsz
  obtain ⟨v0, vs0, d0, ds0, p0, q0, hargs, rfl, rfl, h0, r0⟩ := trodAll_cons hA
  obtain ⟨v1, vs1, d1, ds1, p1, q1, rfl, rfl, rfl, h1, r1⟩ := trodAll_cons r0
  obtain ⟨rfl, rfl, rfl⟩ := trodAll_nil r1
  obtain rfl : args = #[v0, v1] := by cases args; simp_all
  obtain ⟨rfl, rfl⟩ := trodVars_none hV
  have hwt : ∀ n ∈ DataW.weightsEach Try.prog [25, 53] [d0, d1], n ≤ 140737488351232 := by
    have hsz2 : (DataW.weightsEach Try.prog [25, 53] [d0, d1]).all (· ≤ reachBytes) = true := hsz
    exact fun n hn => of_decide_eq_true (List.all_eq_true.1 hsz2 n hn)
  have k0 := h0
  have lt0 : ∀ x ∈ p0, x.block < W.heap.size := by obtain ⟨m, hm⟩ := k0; exact DataW.trod_lt m _ _ _ hm
  have wk0 := hval 0 25 v0 rfl rfl
  obtain ⟨fu0, hf0⟩ := h0
  have ww0 : ∀ n ∈ DataW.weights Try.prog 25 d0, n ≤ 140737488351232 := fun n hn => hwt n (weights_each (i := 0) rfl rfl n hn)
  obtain ⟨xs, cs_xs, rfl, rd_xs, ok_xs⟩ := open_t dcContext Try.underlying25 hf0 ww0 wk0
  obtain ⟨u, rfl, hr⟩ := rd_xs
  have k1 := h1
  have lt1 : ∀ x ∈ p1, x.block < W.heap.size := by obtain ⟨m, hm⟩ := k1; exact DataW.trod_lt m _ _ _ hm
  have wk1 := hval 1 53 v1 rfl rfl
  obtain ⟨fu1, hf1⟩ := h1
  have ww1 : ∀ n ∈ DataW.weights Try.prog 53 d1, n ≤ 140737488351232 := fun n hn => hwt n (weights_each (i := 1) rfl rfl n hn)
  obtain ⟨d, cs_d, rfl, rd_d, ok_d⟩ := open_t dcDot Try.underlying53 hf1 ww1 wk1
  obtain ⟨_, _, rfl, rfl, rfl⟩ := rd_d
  clear hA0 hval0 hsz0 hsz
  refine (lawAddDot xs d.1 d.2 u W hr).mono fun e W' ⟨he, bel⟩ => ?_
  subst he
  exact ⟨_, rfl, _, _, _, [], _, [], hW', trodAll_mk1 (shut_bool Try.underlying4 _), (trodAll_cons_mk (Below.trod laidOut (by kernel_rfl) (of_decide_eq_true (by kernel_rfl)) k0 bel lt0) (trodAll_cons_mk (Below.trod laidOut (by kernel_rfl) (of_decide_eq_true (by kernel_rfl)) k1 bel lt1) trodAll_mk0)), rfl, bel.frame _, fun h => by cases h⟩
theorem joined : joinedFacts Try.prog 7 Try.f7 Rows.fnExactAddDotSpec Rows.fnExactAddDotRow = true := by
  unfold joinedFacts
  simp only [Bool.and_eq_true, mayEnter, liftsFinal, make, laidOutF, mapsRowedF, stopsF, knobsF, plainKeysF, heardF]
  repeat' (refine And.intro ?_ ?_)
  all_goals first | exact trivial | with_reducible rfl | kernel_rfl
theorem over : Rows.fnExactAddDotRow.holds Try.pinned (OpenSpec.ofChange Rows.fnExactAddDotSpec) :=
  OpenClaim.holds_of_wide 7 Try.f7 rfl rfl rfl rfl rfl rfl rfl ⟨rfl, rfl, rfl, rfl, rfl⟩ rfl rfl rfl rfl rfl (by kernel_rfl) Try.func7 joined (of_decide_eq_true (by kernel_rfl))
    (by unfold Func.isWrapper; first | (rw [if_pos (by decide +kernel)]; kernel_rfl) | (rw [if_neg (by decide +kernel)]; exact ⟨rfl, rfl⟩))
    (fun os started H enc _ => lifted os started H enc)
end fnExactAddDot
theorem fnExactAddDot_holds : Rows.FnExactAddDotSaid := fnExactAddDot.over
#print axioms fnExactAddDot_holds
end Go.Proofs.Ytgfgkbmebdaieaa
