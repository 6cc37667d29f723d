/- FnExactCovers: for every two contexts the law returns true, and both read behind the call as they read before. No condition. -/
import Derived.Test.YtgfgkbmebdaieaaRows
import Derived.Test.YtgfgkbmebdaieaaV8
import Derived.Test.YtgfgkbmebdaieaaVA
import Derived.Test.YtgfgkbmebdaieaaFf
import Derived.Test.YtgfgkbmebdaieaaVd
namespace Go.Proofs.Ytgfgkbmebdaieaa
set_option linter.unusedSimpArgs false
set_option linter.unusedVariables false
open Go.RowKit Go.Ow
attribute [local irreducible] wpQuiet
set_option maxRecDepth 100000
set_option maxHeartbeats 4000000 in
theorem lawCovers (xs ys : List Rn) (v u : Value) (w : World) (hv : Rd w v xs) (hu : Rd w u ys) : Calls Try.prog 5 #[.agg #[v], .agg #[u]] w fun e w' => e = .returned (.bool true) ∧ Below w.heap.size w w' := by
  obtain ⟨A, c, rfl, hc, hl⟩ := hv.val
  obtain ⟨B, d, rfl, hd, hm⟩ := hu.val
  have HS := ((Own.start w).box [.slice A xs.length c] 25).box (b := w.heap.size + 1) [.slice B ys.length d] 25
  by_cases hn : xs.length ≤ 1048576
  · have hs : szL xs.length 1048576 = 1048576 - (xs.length : Int) := by unfold szL wrap64; rw [if_neg (by omega)]; omega
    by_cases hn2 : ys.length ≤ 1048576 - xs.length
    · have hs2 : szL ys.length (1048576 - (xs.length : Int)) = 1048576 - (xs.length : Int) - ys.length := by unfold szL wrap64; rw [if_neg (by omega)]; omega
      have hg1 : ¬ (1048576 - (xs.length : Int) < 0) := by omega
      have hg2 : ¬ (1048576 - (xs.length : Int) - ys.length < 0) := by omega
      have hn3 : ys.length ≤ 1048576 := by omega
      go_enter Try.func5, Try.ntmps5
      go_wp2_with fail
      refine (szContext xs _ 1048576 _ (HS.old hv)).mono ?_; rintro e w1 ⟨rfl, hb⟩; (first | have H' := HS.of_below hb | have H' := HS.drew.of_below hb | have H' := (HS.box0 [_] _).of_below hb | have H' := ((HS.box0 [_] _).box0 [_] _).of_below hb | have H' := (HS.alloc _).of_below hb | have H' := ((HS.alloc _).alloc _).of_below hb); clear HS; have HS := H'; clear H'; have F := HS.facts; simp only [Own.Facts, Own.Cells, World.size_alloc, List.cons_append, List.nil_append, List.eraseIdx_cons_succ, List.eraseIdx_cons_zero, List.eraseIdx_zero, List.tail_cons, Nat.zero_add] at F
      rw [hs]
      clear hs
      go_wp2_with fail
      refine (szContext ys _ _ _ (HS.old hu)).mono ?_; rintro e w2 ⟨rfl, hb⟩; (first | have H' := HS.of_below hb | have H' := HS.drew.of_below hb | have H' := (HS.box0 [_] _).of_below hb | have H' := ((HS.box0 [_] _).box0 [_] _).of_below hb | have H' := (HS.alloc _).of_below hb | have H' := ((HS.alloc _).alloc _).of_below hb); clear HS; have HS := H'; clear H'; have F := HS.facts; simp only [Own.Facts, Own.Cells, World.size_alloc, List.cons_append, List.nil_append, List.eraseIdx_cons_succ, List.eraseIdx_cons_zero, List.eraseIdx_zero, List.tail_cons, Nat.zero_add] at F
      rw [hs2]
      clear hs2
      go_wp2
      go_region_held3 (fun w' => w'.cell? ⟨w.heap.size, 0, none⟩ = some (.slice A xs.length c) ∧ w'.cell? ⟨w.heap.size + 1, 0, none⟩ = some (.slice B ys.length d)) (first | go_keep) (first | (go_at_call 23; refine (toContext _ _ _ (by first | exact HS.old hv | exact HS.old hu | exact HS.drew.old hv | exact HS.drew.old hu) (by first | exact hn | exact hn3)).mono ?_; rintro e w1 ⟨v2, rfl, hs⟩; obtain ⟨A2, c2, rfl, _, _⟩ := (hs.rd 0 rfl).val; (first | have H' := HS.call1 hs | have H' := HS.drew.call1 hs | have H' := (HS.box0 [_] _).call1 hs | have H' := ((HS.box0 [_] _).box0 [_] _).call1 hs | have H' := (HS.box0 [_] _).drew.call1 hs | have H' := (HS.alloc _).call1 hs | have H' := ((HS.alloc _).alloc _).call1 hs | have H' := (HS.alloc _).drew.call1 hs); clear HS; have HS := H'; clear H'; have F := HS.facts; simp only [Own.Facts, Own.Cells, World.size_alloc, List.cons_append, List.nil_append, List.eraseIdx_cons_succ, List.eraseIdx_cons_zero, List.eraseIdx_zero, List.tail_cons, Nat.zero_add] at F) | (go_at_call 22; refine (specCovers xs ys _ _ _ (by first | exact HS.rd 0 rfl | exact HS.drew.rd 0 rfl | exact HS.rd 1 rfl | exact HS.drew.rd 1 rfl | exact HS.rd 2 rfl | exact HS.drew.rd 2 rfl | exact HS.rd 3 rfl | exact HS.drew.rd 3 rfl | exact HS.rd 4 rfl | exact HS.drew.rd 4 rfl | exact HS.rd 5 rfl | exact HS.drew.rd 5 rfl | exact HS.rd 6 rfl | exact HS.drew.rd 6 rfl | exact HS.rd 7 rfl | exact HS.drew.rd 7 rfl | exact HS.rd 8 rfl | exact HS.drew.rd 8 rfl | exact HS.rd 9 rfl | exact HS.drew.rd 9 rfl) (by first | exact HS.rd 0 rfl | exact HS.drew.rd 0 rfl | exact HS.rd 1 rfl | exact HS.drew.rd 1 rfl | exact HS.rd 2 rfl | exact HS.drew.rd 2 rfl | exact HS.rd 3 rfl | exact HS.drew.rd 3 rfl | exact HS.rd 4 rfl | exact HS.drew.rd 4 rfl | exact HS.rd 5 rfl | exact HS.drew.rd 5 rfl | exact HS.rd 6 rfl | exact HS.drew.rd 6 rfl | exact HS.rd 7 rfl | exact HS.drew.rd 7 rfl | exact HS.rd 8 rfl | exact HS.drew.rd 8 rfl | exact HS.rd 9 rfl | exact HS.drew.rd 9 rfl)).mono ?_; rintro e w1 ⟨rfl, hb⟩; (first | have H' := HS.of_below hb | have H' := HS.drew.of_below hb | have H' := (HS.box0 [_] _).of_below hb | have H' := ((HS.box0 [_] _).box0 [_] _).of_below hb | have H' := (HS.box0 [_] _).drew.of_below hb | have H' := (HS.alloc _).of_below hb | have H' := ((HS.alloc _).alloc _).of_below hb | have H' := (HS.alloc _).drew.of_below hb); clear HS; have HS := H'; clear H'; have F := HS.facts; simp only [Own.Facts, Own.Cells, World.size_alloc, List.cons_append, List.nil_append, List.eraseIdx_cons_succ, List.eraseIdx_cons_zero, List.eraseIdx_zero, List.tail_cons, Nat.zero_add] at F))
      all_goals
        go_wp2_with fail
        refine (toContext xs _ _ (by first | exact HS.old hv | exact HS.drew.old hv) hn).mono ?_; rintro e w4 ⟨v4, rfl, hs⟩; obtain ⟨A4, c4, rfl, _, _⟩ := (hs.rd 0 rfl).val; (first | have H' := HS.call1 hs | have H' := HS.drew.call1 hs | have H' := (HS.box0 [_] _).call1 hs | have H' := ((HS.box0 [_] _).box0 [_] _).call1 hs | have H' := (HS.alloc _).call1 hs | have H' := ((HS.alloc _).alloc _).call1 hs); clear HS; have HS := H'; clear H'; have F := HS.facts; simp only [Own.Facts, Own.Cells, World.size_alloc, List.cons_append, List.nil_append, List.eraseIdx_cons_succ, List.eraseIdx_cons_zero, List.eraseIdx_zero, List.tail_cons, Nat.zero_add] at F
        replace HS := HS.box (b := w4.heap.size) [.slice A4 xs.length c4] 33
        clear F
        have F := HS.facts; simp only [Own.Facts, Own.Cells, World.size_alloc, List.cons_append, List.nil_append, List.eraseIdx_cons_succ, List.eraseIdx_cons_zero, List.eraseIdx_zero, List.tail_cons, Nat.zero_add] at F
        go_wp2_with fail
        refine (toContext ys _ _ (HS.old hu) hn3).mono ?_; rintro e w5 ⟨v5, rfl, hs⟩; obtain ⟨A5, c5, rfl, _, _⟩ := (hs.rd 0 rfl).val; (first | have H' := HS.call1 hs | have H' := HS.drew.call1 hs | have H' := (HS.box0 [_] _).call1 hs | have H' := ((HS.box0 [_] _).box0 [_] _).call1 hs | have H' := (HS.alloc _).call1 hs | have H' := ((HS.alloc _).alloc _).call1 hs); clear HS; have HS := H'; clear H'; have F := HS.facts; simp only [Own.Facts, Own.Cells, World.size_alloc, List.cons_append, List.nil_append, List.eraseIdx_cons_succ, List.eraseIdx_cons_zero, List.eraseIdx_zero, List.tail_cons, Nat.zero_add] at F
        replace HS := HS.box (b := w5.heap.size) [.slice A5 ys.length c5] 33
        clear F
        have F := HS.facts; simp only [Own.Facts, Own.Cells, World.size_alloc, List.cons_append, List.nil_append, List.eraseIdx_cons_succ, List.eraseIdx_cons_zero, List.eraseIdx_zero, List.tail_cons, Nat.zero_add] at F
        go_wp2_with fail
        refine (implCovers xs ys _ _ _ (HS.rd 3 rfl) (HS.rd 1 rfl) hn hn3).mono ?_; rintro e w6 ⟨rfl, hb⟩; (first | have H' := HS.of_below hb | have H' := HS.drew.of_below hb | have H' := (HS.box0 [_] _).of_below hb | have H' := ((HS.box0 [_] _).box0 [_] _).of_below hb | have H' := (HS.alloc _).of_below hb | have H' := ((HS.alloc _).alloc _).of_below hb); clear HS; have HS := H'; clear H'; have F := HS.facts; simp only [Own.Facts, Own.Cells, World.size_alloc, List.cons_append, List.nil_append, List.eraseIdx_cons_succ, List.eraseIdx_cons_zero, List.eraseIdx_zero, List.tail_cons, Nat.zero_add] at F
        go_wp2
        go_region_held3 (fun w' => w'.cell? ⟨w4.heap.size, 0, none⟩ = some (.slice A4 xs.length c4) ∧ w'.cell? ⟨w.heap.size, 0, none⟩ = some (.slice A xs.length c)) (first | go_keep) (first | (go_at_call 23; refine (toContext xs _ _ (by repeat (first | exact HS.old hv | exact HS.rd 0 rfl | exact HS.rd 1 rfl | exact HS.rd 2 rfl | exact HS.rd 3 rfl | exact HS.rd 4 rfl | exact HS.rd 5 rfl | exact HS.drew.old hv | exact HS.drew.rd 0 rfl | exact HS.drew.rd 1 rfl | exact HS.drew.rd 2 rfl | exact HS.drew.rd 3 rfl | exact HS.drew.rd 4 rfl | exact HS.drew.rd 5 rfl | refine Rd.alloc ?_ _)) hn).mono ?_; rintro e w1 ⟨v8, rfl, hs⟩; obtain ⟨A8, c8, rfl, _, _⟩ := (hs.rd 0 rfl).val; (first | have H' := HS.call1 hs | have H' := HS.drew.call1 hs | have H' := (HS.box0 [_] _).call1 hs | have H' := ((HS.box0 [_] _).box0 [_] _).call1 hs | have H' := (HS.box0 [_] _).drew.call1 hs | have H' := (HS.alloc _).call1 hs | have H' := ((HS.alloc _).alloc _).call1 hs | have H' := (HS.alloc _).drew.call1 hs); clear HS; have HS := H'; clear H'; have F := HS.facts; simp only [Own.Facts, Own.Cells, World.size_alloc, List.cons_append, List.nil_append, List.eraseIdx_cons_succ, List.eraseIdx_cons_zero, List.eraseIdx_zero, List.tail_cons, Nat.zero_add] at F) | (go_at_call 25; refine (eqContext xs xs _ _ _ (by first | exact HS.rd 0 rfl | exact HS.drew.rd 0 rfl | exact HS.rd 1 rfl | exact HS.drew.rd 1 rfl | exact HS.rd 2 rfl | exact HS.drew.rd 2 rfl | exact HS.rd 3 rfl | exact HS.drew.rd 3 rfl | exact HS.rd 4 rfl | exact HS.drew.rd 4 rfl | exact HS.rd 5 rfl | exact HS.drew.rd 5 rfl | exact HS.rd 6 rfl | exact HS.drew.rd 6 rfl | exact HS.rd 7 rfl | exact HS.drew.rd 7 rfl | exact HS.rd 8 rfl | exact HS.drew.rd 8 rfl | exact HS.rd 9 rfl | exact HS.drew.rd 9 rfl) (by first | exact HS.rd 0 rfl | exact HS.drew.rd 0 rfl | exact HS.rd 1 rfl | exact HS.drew.rd 1 rfl | exact HS.rd 2 rfl | exact HS.drew.rd 2 rfl | exact HS.rd 3 rfl | exact HS.drew.rd 3 rfl | exact HS.rd 4 rfl | exact HS.drew.rd 4 rfl | exact HS.rd 5 rfl | exact HS.drew.rd 5 rfl | exact HS.rd 6 rfl | exact HS.drew.rd 6 rfl | exact HS.rd 7 rfl | exact HS.drew.rd 7 rfl | exact HS.rd 8 rfl | exact HS.drew.rd 8 rfl | exact HS.rd 9 rfl | exact HS.drew.rd 9 rfl)).mono ?_; rintro e w1 ⟨rfl, hb⟩; (first | have H' := HS.of_below hb | have H' := HS.drew.of_below hb | have H' := (HS.box0 [_] _).of_below hb | have H' := ((HS.box0 [_] _).box0 [_] _).of_below hb | have H' := (HS.box0 [_] _).drew.of_below hb | have H' := (HS.alloc _).of_below hb | have H' := ((HS.alloc _).alloc _).of_below hb | have H' := (HS.alloc _).drew.of_below hb); clear HS; have HS := H'; clear H'; have F := HS.facts; simp only [Own.Facts, Own.Cells, World.size_alloc, List.cons_append, List.nil_append, List.eraseIdx_cons_succ, List.eraseIdx_cons_zero, List.eraseIdx_zero, List.tail_cons, Nat.zero_add] at F))
        go_wp2
        go_region_held3 (fun w' => w'.cell? ⟨w5.heap.size, 0, none⟩ = some (.slice A5 ys.length c5) ∧ w'.cell? ⟨w.heap.size + 1, 0, none⟩ = some (.slice B ys.length d)) (first | go_keep) (first | (go_at_call 23; refine (toContext ys _ _ (by repeat (first | exact HS.old hu | exact HS.rd 0 rfl | exact HS.rd 1 rfl | exact HS.rd 2 rfl | exact HS.rd 3 rfl | exact HS.rd 4 rfl | exact HS.rd 5 rfl | exact HS.drew.old hu | exact HS.drew.rd 0 rfl | exact HS.drew.rd 1 rfl | exact HS.drew.rd 2 rfl | exact HS.drew.rd 3 rfl | exact HS.drew.rd 4 rfl | exact HS.drew.rd 5 rfl | refine Rd.alloc ?_ _)) hn3).mono ?_; rintro e w1 ⟨v8, rfl, hs⟩; obtain ⟨A8, c8, rfl, _, _⟩ := (hs.rd 0 rfl).val; (first | have H' := HS.call1 hs | have H' := HS.drew.call1 hs | have H' := (HS.box0 [_] _).call1 hs | have H' := ((HS.box0 [_] _).box0 [_] _).call1 hs | have H' := (HS.box0 [_] _).drew.call1 hs | have H' := (HS.alloc _).call1 hs | have H' := ((HS.alloc _).alloc _).call1 hs | have H' := (HS.alloc _).drew.call1 hs); clear HS; have HS := H'; clear H'; have F := HS.facts; simp only [Own.Facts, Own.Cells, World.size_alloc, List.cons_append, List.nil_append, List.eraseIdx_cons_succ, List.eraseIdx_cons_zero, List.eraseIdx_zero, List.tail_cons, Nat.zero_add] at F) | (go_at_call 25; refine (eqContext ys ys _ _ _ (by first | exact HS.rd 0 rfl | exact HS.drew.rd 0 rfl | exact HS.rd 1 rfl | exact HS.drew.rd 1 rfl | exact HS.rd 2 rfl | exact HS.drew.rd 2 rfl | exact HS.rd 3 rfl | exact HS.drew.rd 3 rfl | exact HS.rd 4 rfl | exact HS.drew.rd 4 rfl | exact HS.rd 5 rfl | exact HS.drew.rd 5 rfl | exact HS.rd 6 rfl | exact HS.drew.rd 6 rfl | exact HS.rd 7 rfl | exact HS.drew.rd 7 rfl | exact HS.rd 8 rfl | exact HS.drew.rd 8 rfl | exact HS.rd 9 rfl | exact HS.drew.rd 9 rfl) (by first | exact HS.rd 0 rfl | exact HS.drew.rd 0 rfl | exact HS.rd 1 rfl | exact HS.drew.rd 1 rfl | exact HS.rd 2 rfl | exact HS.drew.rd 2 rfl | exact HS.rd 3 rfl | exact HS.drew.rd 3 rfl | exact HS.rd 4 rfl | exact HS.drew.rd 4 rfl | exact HS.rd 5 rfl | exact HS.drew.rd 5 rfl | exact HS.rd 6 rfl | exact HS.drew.rd 6 rfl | exact HS.rd 7 rfl | exact HS.drew.rd 7 rfl | exact HS.rd 8 rfl | exact HS.drew.rd 8 rfl | exact HS.rd 9 rfl | exact HS.drew.rd 9 rfl)).mono ?_; rintro e w1 ⟨rfl, hb⟩; (first | have H' := HS.of_below hb | have H' := HS.drew.of_below hb | have H' := (HS.box0 [_] _).of_below hb | have H' := ((HS.box0 [_] _).box0 [_] _).of_below hb | have H' := (HS.box0 [_] _).drew.of_below hb | have H' := (HS.alloc _).of_below hb | have H' := ((HS.alloc _).alloc _).of_below hb | have H' := (HS.alloc _).drew.of_below hb); clear HS; have HS := H'; clear H'; have F := HS.facts; simp only [Own.Facts, Own.Cells, World.size_alloc, List.cons_append, List.nil_append, List.eraseIdx_cons_succ, List.eraseIdx_cons_zero, List.eraseIdx_zero, List.tail_cons, Nat.zero_add] at F))
        go_wp2
        go_ret
        exact ⟨rfl, HS.below⟩
    · have hs2 : szL ys.length (1048576 - (xs.length : Int)) = -1 := by unfold szL wrap64; rw [if_pos (by omega)]
      have hg1 : ¬ (1048576 - (xs.length : Int) < 0) := by omega
      go_enter Try.func5, Try.ntmps5
      go_wp2_with fail
      refine (szContext xs _ 1048576 _ (HS.old hv)).mono ?_; rintro e w1 ⟨rfl, hb⟩; (first | have H' := HS.of_below hb | have H' := HS.drew.of_below hb | have H' := (HS.box0 [_] _).of_below hb | have H' := ((HS.box0 [_] _).box0 [_] _).of_below hb | have H' := (HS.alloc _).of_below hb | have H' := ((HS.alloc _).alloc _).of_below hb); clear HS; have HS := H'; clear H'; have F := HS.facts; simp only [Own.Facts, Own.Cells, World.size_alloc, List.cons_append, List.nil_append, List.eraseIdx_cons_succ, List.eraseIdx_cons_zero, List.eraseIdx_zero, List.tail_cons, Nat.zero_add] at F
      rw [hs]
      clear hs
      go_wp2_with fail
      refine (szContext ys _ _ _ (HS.old hu)).mono ?_; rintro e w2 ⟨rfl, hb⟩; (first | have H' := HS.of_below hb | have H' := HS.drew.of_below hb | have H' := (HS.box0 [_] _).of_below hb | have H' := ((HS.box0 [_] _).box0 [_] _).of_below hb | have H' := (HS.alloc _).of_below hb | have H' := ((HS.alloc _).alloc _).of_below hb); clear HS; have HS := H'; clear H'; have F := HS.facts; simp only [Own.Facts, Own.Cells, World.size_alloc, List.cons_append, List.nil_append, List.eraseIdx_cons_succ, List.eraseIdx_cons_zero, List.eraseIdx_zero, List.tail_cons, Nat.zero_add] at F
      rw [hs2]
      clear hs2
      go_wp2
      go_ret
      exact ⟨rfl, HS.below⟩
  · have hs : szL xs.length 1048576 = -1 := by unfold szL wrap64; rw [if_pos (by omega)]
    go_enter Try.func5, Try.ntmps5
    go_wp2_with fail
    refine (szContext xs _ 1048576 _ (HS.old hv)).mono ?_; rintro e w1 ⟨rfl, hb⟩; (first | have H' := HS.of_below hb | have H' := HS.drew.of_below hb | have H' := (HS.box0 [_] _).of_below hb | have H' := ((HS.box0 [_] _).box0 [_] _).of_below hb | have H' := (HS.alloc _).of_below hb | have H' := ((HS.alloc _).alloc _).of_below hb); clear HS; have HS := H'; clear H'; have F := HS.facts; simp only [Own.Facts, Own.Cells, World.size_alloc, List.cons_append, List.nil_append, List.eraseIdx_cons_succ, List.eraseIdx_cons_zero, List.eraseIdx_zero, List.tail_cons, Nat.zero_add] at F
    rw [hs]
    clear hs
    go_wp2
    go_ret
    exact ⟨rfl, HS.below⟩
namespace fnExactCovers
open Go.ChangeShapes Go.WideShapes Go.ChangeAt Go.RowKit Go.Ow
set_option linter.unusedVariables false
theorem own : ownKnob Try.prog.godebug = none := by kernel_rfl
theorem laidOut : laidOutB Try.prog = true := laidOutF
set_option maxRecDepth 100000 in
theorem lifted (os : Os) (started : os.Started) (H : Type) (enc : TypeId × Value → H) :
    ReturnsInHanded {} Try.checked os 5 .any (Rows.fnExactCoversSpec.pre6 enc Try.prog Try.f5 Rows.fnExactCoversRow.domain false) (Rows.fnExactCoversSpec.post enc Try.prog Try.f5 false true false false) := by
  refine returnsInHanded_of_change_sized (C := Try.checked) own started (by kernel_rfl) Try.func5
    (ChangeSpec.witness6 (enc := enc) (C := Try.checked) false ⟨#[], #[.agg #[.slice none 0 0], .agg #[.slice none 0 0]], []⟩ 8 (by kernel_rfl) (by kernel_rfl) (by kernel_rfl) (by kernel_rfl)) ?_
  intro W base args ds gs before hval0 hW hcnd hsz0 _
  have hsz : (DataW.weightsEach Try.prog (Try.f5.params.toList ++ Rows.fnExactCoversSpec.plain.varTypes Try.prog) (ds ++ gs)).all (· ≤ reachBytes) = true := hsz0
  have hval : ∀ (j : Nat) t v, Try.f5.params[j]? = some t → args[j]? = some v → Value.okWide Try.prog W .any base t v := hval0
  have hW' := hW
  obtain ⟨p, q, hA0, hV, rfl, hfz, hnd⟩ := hW
  have hA : DataW.TrodAll enc Try.prog W 0 (fun _ => true) true Try.f5.params.toList args.toList ds p := hA0
  rw [Try.params5] at hA hval hsz
  obtain ⟨v0, vs0, d0, ds0, p0, q0, hargs, rfl, rfl, h0, r0⟩ := trodAll_cons hA
  obtain ⟨v1, vs1, d1, ds1, p1, q1, rfl, rfl, rfl, h1, r1⟩ := trodAll_cons r0
  obtain ⟨rfl, rfl, rfl⟩ := trodAll_nil r1
  obtain rfl : args = #[v0, v1] := by cases args; simp_all
  obtain ⟨rfl, rfl⟩ := trodVars_none hV
  have hwt : ∀ n ∈ DataW.weightsEach Try.prog [25, 25] [d0, d1], n ≤ 140737488351232 := by
    have hsz2 : (DataW.weightsEach Try.prog [25, 25] [d0, d1]).all (· ≤ reachBytes) = true := hsz
    exact fun n hn => of_decide_eq_true (List.all_eq_true.1 hsz2 n hn)
  have k0 := h0
  have lt0 : ∀ x ∈ p0, x.block < W.heap.size := by obtain ⟨m, hm⟩ := k0; exact DataW.trod_lt m _ _ _ hm
  have wk0 := hval 0 25 v0 rfl rfl
  obtain ⟨fu0, hf0⟩ := h0
  have ww0 : ∀ n ∈ DataW.weights Try.prog 25 d0, n ≤ 140737488351232 := fun n hn => hwt n (weights_each (i := 0) rfl rfl n hn)
  obtain ⟨xs, cs_xs, rfl, rd_xs, ok_xs⟩ := open_t dcContext Try.underlying25 hf0 ww0 wk0
  obtain ⟨u0, rfl, hr⟩ := rd_xs
  have k1 := h1
  have lt1 : ∀ x ∈ p1, x.block < W.heap.size := by obtain ⟨m, hm⟩ := k1; exact DataW.trod_lt m _ _ _ hm
  have wk1 := hval 1 25 v1 rfl rfl
  obtain ⟨fu1, hf1⟩ := h1
  have ww1 : ∀ n ∈ DataW.weights Try.prog 25 d1, n ≤ 140737488351232 := fun n hn => hwt n (weights_each (i := 1) rfl rfl n hn)
  obtain ⟨ys, cs_ys, rfl, rd_ys, ok_ys⟩ := open_t dcContext Try.underlying25 hf1 ww1 wk1
  obtain ⟨u1, rfl, hr2⟩ := rd_ys
  clear hA0 hval0 hsz0 hsz
  refine (lawCovers xs ys u0 u1 W hr hr2).mono fun e W' ⟨he, bel⟩ => ?_
  subst he
  exact ⟨_, rfl, _, _, _, [], _, [], hW', trodAll_mk1 (shut_bool Try.underlying4 _), (trodAll_cons_mk (Below.trod laidOut (by kernel_rfl) (of_decide_eq_true (by kernel_rfl)) k0 bel lt0) (trodAll_cons_mk (Below.trod laidOut (by kernel_rfl) (of_decide_eq_true (by kernel_rfl)) k1 bel lt1) trodAll_mk0)), rfl, bel.frame _, fun h => by cases h⟩
theorem joined : joinedFacts Try.prog 5 Try.f5 Rows.fnExactCoversSpec Rows.fnExactCoversRow = true := by
  unfold joinedFacts
  simp only [Bool.and_eq_true, mayEnter, liftsFinal, make, laidOutF, mapsRowedF, stopsF, knobsF, plainKeysF, heardF]
  repeat' (refine And.intro ?_ ?_)
  all_goals first | exact trivial | with_reducible rfl | kernel_rfl
theorem over : Rows.fnExactCoversRow.holds Try.pinned (OpenSpec.ofChange Rows.fnExactCoversSpec) :=
  OpenClaim.holds_of_wide 5 Try.f5 rfl rfl rfl rfl rfl rfl rfl ⟨rfl, rfl, rfl, rfl, rfl⟩ rfl rfl rfl rfl rfl (by kernel_rfl) Try.func5 joined (of_decide_eq_true (by kernel_rfl))
    (by unfold Func.isWrapper; first | (rw [if_pos (by decide +kernel)]; kernel_rfl) | (rw [if_neg (by decide +kernel)]; exact ⟨rfl, rfl⟩))
    (fun os started H enc _ => lifted os started H enc)
end fnExactCovers
theorem fnExactCovers_holds : Rows.FnExactCoversSaid := fnExactCovers.over
#print axioms fnExactCovers_holds
end Go.Proofs.Ytgfgkbmebdaieaa
