/- Contexts: equality, the law, the row. -/
import Derived.Test.YtghpideinaaofaaC2
namespace Go.Proofs.Ytghpideinaaofaa
open Go.RowKit Go.Ow
attribute [local irreducible] wpQuiet
set_option linter.unusedSimpArgs false
set_option maxRecDepth 100000 in
theorem eqRunS (xs ys : List Rn) (v u : Value) (w : World) (hv : Rd w v xs) (hu : Rd w u ys) : Calls Try.prog 112 #[v, u] w fun e w' => e = .returned (.bool (decide (xs = ys))) ∧ Below w.heap.size w w' := by
  obtain ⟨A, c, rfl, hc, hl⟩ := hv.val
  obtain ⟨B, d, rfl, hd, hm⟩ := hu.val
  have HS := Own.start w
  by_cases hn : xs.length = ys.length
  · have HN := Lib.hid hn
    have hb1 : (xs.length == ys.length) = true := by simp [hn]
    have hb2 : ((xs.length : Int) != (ys.length : Int)) = false := by simp [hn]
    have hb3 : ((xs.length : Int) == (ys.length : Int)) = true := by simp [hn]
    clear hn
    go_enter Try.func112, Try.ntmps112
    go_wp2
    go_loopw [5] (fun i wr => ∃ k : Nat, k ≤ xs.length ∧ i = .int .i64 k ∧ Own w [] wr ∧ xs.take k = ys.take k) (fun i _ => xs.length - (intOf i).toNat)
    case atStart => exact ⟨0, by omega, rfl, HS, rfl⟩
    case round =>
      obtain ⟨k, hk, rfl, HS', hok⟩ := hrel
      have HOK := Lib.hid hok
      clear hok
      by_cases hlt : k < xs.length
      · have hlt2 : k < ys.length := by have := HN.out; omega
        obtain ⟨b, o, rfl⟩ := hv.fix (by omega)
        obtain ⟨b2, o2, rfl⟩ := hu.fix (by omega)
        have hF : ∀ p : Ext wr, _ := fun p => Rn.rd ((HS'.of_below p.h).old hv) k hlt
        have hG : ∀ p : Ext wr, _ := fun p => Rn.rd ((HS'.of_below p.h).old hu) k hlt2
        by_cases h1 : xs[k] = ys[k]
        · have h1b : decide (xs[k] = ys[k]) = true := by simp [h1]
          have H1 := Lib.hid h1
          clear h1
          go_wp2
          (refine wp_region_ext (by kernel_rfl) (by kernel_rfl) ?_; (repeat (quiet_step (first | exact q_call (eqRun _ _ _)))); refine wpQuiet_nil ?_; rintro _ ⟨⟨w1, hw1⟩, rfl⟩)
          have H2 := HS'.of_below hw1
          clear hF hG
          go_wp2
          go_roundw
          case rel => exact ⟨k + 1, by omega, by go_num, H2, by rw [List.take_succ_eq_append_getElem hlt, List.take_succ_eq_append_getElem hlt2, HOK.out, H1.out]⟩
          case measure => simp [intOf]; omega
        · have h1b : decide (xs[k] = ys[k]) = false := by simp [h1]
          have hne : xs ≠ ys := fun h => h1 (by simp [h])
          have H1 := Lib.hid hne
          clear h1 hne
          go_wp2
          (refine wp_region_ext (by kernel_rfl) (by kernel_rfl) ?_; (repeat (quiet_step (first | exact q_call (eqRun _ _ _)))); refine wpQuiet_nil ?_; rintro _ ⟨⟨w1, hw1⟩, rfl⟩)
          have H2 := HS'.of_below hw1
          clear hF hG
          go_wp2
          go_ret
          exact ⟨by simp [H1.out], H2.below⟩
      · go_wp2
        go_ret
        obtain rfl : k = xs.length := by omega
        have h := HOK.out
        rw [List.take_length, HN.out, List.take_length] at h
        exact ⟨by simp [h], HS'.below⟩
  · have hb1 : (xs.length == ys.length) = false := by simp [hn]
    have hb2 : ((xs.length : Int) != (ys.length : Int)) = true := by simp; omega
    have hb3 : ((xs.length : Int) == (ys.length : Int)) = false := by simp; omega
    have hne : xs ≠ ys := fun h => hn (by rw [h])
    have H1 := Lib.hid hne
    clear hne
    go_enter Try.func112, Try.ntmps112
    go_wp2
    go_ret
    exact ⟨by simp [H1.out], HS.below⟩
theorem eqContext (xs ys : List Rn) (v u : Value) (w : World) (hv : Rd w v xs) (hu : Rd w u ys) : Calls Try.prog 42 #[.agg #[v], .agg #[u]] w fun e w' => e = .returned (.bool (decide (xs = ys))) ∧ Below w.heap.size w w' := by
  obtain ⟨A, c, rfl, hc, hl⟩ := hv.val
  obtain ⟨B, d, rfl, hd, hm⟩ := hu.val
  cases h1 : decide (xs = ys)
  all_goals
    go_enter Try.func42, Try.ntmps42
    go_wp2_with (go_at_call 112; refine (eqRunS xs ys _ _ _ ((hv.alloc _).alloc _) ((hu.alloc _).alloc _)).mono ?_; rintro e w1 ⟨rfl, hb⟩)
    go_ret
    exact ⟨rfl, (((Own.start w).alloc _).alloc _ |>.of_below hb).below⟩

theorem law (xs : List Rn) (v : Value) (w : World) (hv : Rd w v xs) : Calls Try.prog 8 #[.agg #[v]] w fun e w' => e = .returned (.bool true) ∧ Below w.heap.size w w' := by
  obtain ⟨A, c, rfl, hc, hl⟩ := hv.val
  by_cases hn : xs.length ≤ 1048576
  · have hs : szL xs.length 1048576 = 1048576 - (xs.length : Int) := by unfold szL wrap64; rw [if_neg (by omega)]; omega
    have hs2 : ¬ (1048576 - (xs.length : Int) < 0) := by omega
    have HS := (Own.start w).box [.slice A xs.length c] 38
    go_enter Try.func8, Try.ntmps8
    go_wp2_with fail
    refine (szContext xs _ 1048576 _ (by repeat (first | exact HS.old hv | exact HS.rd 0 rfl | exact HS.rd 1 rfl | exact HS.rd 2 rfl | exact HS.rd 3 rfl | exact HS.rd 4 rfl | exact HS.rd 5 rfl | exact HS.drew.old hv | exact HS.drew.rd 0 rfl | exact HS.drew.rd 1 rfl | exact HS.drew.rd 2 rfl | exact HS.drew.rd 3 rfl | exact HS.drew.rd 4 rfl | exact HS.drew.rd 5 rfl | refine Rd.alloc ?_ _))).mono ?_; rintro e w1 ⟨rfl, hb⟩; (first | have H' := HS.of_below hb | have H' := HS.drew.of_below hb | have H' := (HS.box0 [_] _).of_below hb | have H' := ((HS.box0 [_] _).box0 [_] _).of_below hb | have H' := (HS.alloc _).of_below hb | have H' := ((HS.alloc _).alloc _).of_below hb); clear HS; have HS := H'; clear H'; have F := HS.facts; simp only [Own.Facts, Own.Cells, World.size_alloc] at F
    go_wp2_with fail
    refine (toContext xs _ _ (by repeat (first | exact HS.old hv | exact HS.rd 0 rfl | exact HS.rd 1 rfl | exact HS.rd 2 rfl | exact HS.rd 3 rfl | exact HS.rd 4 rfl | exact HS.rd 5 rfl | exact HS.drew.old hv | exact HS.drew.rd 0 rfl | exact HS.drew.rd 1 rfl | exact HS.drew.rd 2 rfl | exact HS.drew.rd 3 rfl | exact HS.drew.rd 4 rfl | exact HS.drew.rd 5 rfl | refine Rd.alloc ?_ _)) hn).mono ?_; rintro e w2 ⟨v2, rfl, hs⟩; obtain ⟨A2, c2, rfl, _, _⟩ := (hs.rd 0 rfl).val; (first | have H' := HS.call1 hs | have H' := HS.drew.call1 hs | have H' := (HS.box0 [_] _).call1 hs | have H' := ((HS.box0 [_] _).box0 [_] _).call1 hs | have H' := (HS.alloc _).call1 hs | have H' := ((HS.alloc _).alloc _).call1 hs); clear HS; have HS := H'; clear H'; have F := HS.facts; simp only [Own.Facts, Own.Cells, World.size_alloc] at F
    go_wp2_with fail
    refine (specCtxOk xs _ _ (by repeat (first | exact HS.old hv | exact HS.rd 0 rfl | exact HS.rd 1 rfl | exact HS.rd 2 rfl | exact HS.rd 3 rfl | exact HS.rd 4 rfl | exact HS.rd 5 rfl | exact HS.drew.old hv | exact HS.drew.rd 0 rfl | exact HS.drew.rd 1 rfl | exact HS.drew.rd 2 rfl | exact HS.drew.rd 3 rfl | exact HS.drew.rd 4 rfl | exact HS.drew.rd 5 rfl | refine Rd.alloc ?_ _))).mono ?_; rintro e w3 ⟨rfl, hb⟩; (first | have H' := HS.of_below hb | have H' := HS.drew.of_below hb | have H' := (HS.box0 [_] _).of_below hb | have H' := ((HS.box0 [_] _).box0 [_] _).of_below hb | have H' := (HS.alloc _).of_below hb | have H' := ((HS.alloc _).alloc _).of_below hb); clear HS; have HS := H'; clear H'; have F := HS.facts; simp only [Own.Facts, Own.Cells, World.size_alloc] at F
    go_wp2_with fail
    refine (toContext xs _ _ (by repeat (first | exact HS.old hv | exact HS.rd 0 rfl | exact HS.rd 1 rfl | exact HS.rd 2 rfl | exact HS.rd 3 rfl | exact HS.rd 4 rfl | exact HS.rd 5 rfl | exact HS.drew.old hv | exact HS.drew.rd 0 rfl | exact HS.drew.rd 1 rfl | exact HS.drew.rd 2 rfl | exact HS.drew.rd 3 rfl | exact HS.drew.rd 4 rfl | exact HS.drew.rd 5 rfl | refine Rd.alloc ?_ _)) hn).mono ?_; rintro e w4 ⟨v4, rfl, hs⟩; obtain ⟨A4, c4, rfl, _, _⟩ := (hs.rd 0 rfl).val; (first | have H' := HS.call1 hs | have H' := HS.drew.call1 hs | have H' := (HS.box0 [_] _).call1 hs | have H' := ((HS.box0 [_] _).box0 [_] _).call1 hs | have H' := (HS.alloc _).call1 hs | have H' := ((HS.alloc _).alloc _).call1 hs); clear HS; have HS := H'; clear H'; have F := HS.facts; simp only [Own.Facts, Own.Cells, World.size_alloc] at F
    go_wp2_with fail
    refine (implCtxOk xs _ _ (by repeat (first | exact HS.old hv | exact HS.rd 0 rfl | exact HS.rd 1 rfl | exact HS.rd 2 rfl | exact HS.rd 3 rfl | exact HS.rd 4 rfl | exact HS.rd 5 rfl | exact HS.drew.old hv | exact HS.drew.rd 0 rfl | exact HS.drew.rd 1 rfl | exact HS.drew.rd 2 rfl | exact HS.drew.rd 3 rfl | exact HS.drew.rd 4 rfl | exact HS.drew.rd 5 rfl | refine Rd.alloc ?_ _))).mono ?_; rintro e w5 ⟨rfl, hb⟩; (first | have H' := HS.of_below hb | have H' := HS.drew.of_below hb | have H' := (HS.box0 [_] _).of_below hb | have H' := ((HS.box0 [_] _).box0 [_] _).of_below hb | have H' := (HS.alloc _).of_below hb | have H' := ((HS.alloc _).alloc _).of_below hb); clear HS; have HS := H'; clear H'; have F := HS.facts; simp only [Own.Facts, Own.Cells, World.size_alloc] at F
    go_wp2_with fail
    go_region_held3 (fun w' => w'.cell? ⟨w4.heap.size, 0, none⟩ = some (.slice A4 xs.length c4) ∧ w'.cell? ⟨w.heap.size, 0, none⟩ = some (.slice A xs.length c)) (first | go_keep | (trace_state; fail)) (first | (go_at_call 40; refine (toContext xs _ _ (by repeat (first | exact HS.old hv | exact HS.rd 0 rfl | exact HS.rd 1 rfl | exact HS.rd 2 rfl | exact HS.rd 3 rfl | exact HS.rd 4 rfl | exact HS.rd 5 rfl | exact HS.drew.old hv | exact HS.drew.rd 0 rfl | exact HS.drew.rd 1 rfl | exact HS.drew.rd 2 rfl | exact HS.drew.rd 3 rfl | exact HS.drew.rd 4 rfl | exact HS.drew.rd 5 rfl | refine Rd.alloc ?_ _)) hn).mono ?_; rintro e w1 ⟨v6, rfl, hs⟩; obtain ⟨A6, c6, rfl, _, _⟩ := (hs.rd 0 rfl).val; (first | have H' := HS.call1 hs | have H' := HS.drew.call1 hs | have H' := (HS.box0 [_] _).call1 hs | have H' := ((HS.box0 [_] _).box0 [_] _).call1 hs | have H' := (HS.alloc _).call1 hs | have H' := ((HS.alloc _).alloc _).call1 hs); clear HS; have HS := H'; clear H'; have F := HS.facts; simp only [Own.Facts, Own.Cells, World.size_alloc] at F) | (go_at_call 42; refine (eqContext xs xs _ _ _ (by repeat (first | exact HS.old hv | exact HS.rd 0 rfl | exact HS.rd 1 rfl | exact HS.rd 2 rfl | exact HS.rd 3 rfl | exact HS.rd 4 rfl | exact HS.rd 5 rfl | exact HS.drew.old hv | exact HS.drew.rd 0 rfl | exact HS.drew.rd 1 rfl | exact HS.drew.rd 2 rfl | exact HS.drew.rd 3 rfl | exact HS.drew.rd 4 rfl | exact HS.drew.rd 5 rfl | refine Rd.alloc ?_ _)) (by repeat (first | exact HS.old hv | exact HS.rd 0 rfl | exact HS.rd 1 rfl | exact HS.rd 2 rfl | exact HS.rd 3 rfl | exact HS.rd 4 rfl | exact HS.rd 5 rfl | exact HS.drew.old hv | exact HS.drew.rd 0 rfl | exact HS.drew.rd 1 rfl | exact HS.drew.rd 2 rfl | exact HS.drew.rd 3 rfl | exact HS.drew.rd 4 rfl | exact HS.drew.rd 5 rfl | refine Rd.alloc ?_ _))).mono ?_; rintro e w1 ⟨rfl, hb⟩; (first | have H' := HS.of_below hb | have H' := HS.drew.of_below hb | have H' := (HS.box0 [_] _).of_below hb | have H' := ((HS.box0 [_] _).box0 [_] _).of_below hb | have H' := (HS.alloc _).of_below hb | have H' := ((HS.alloc _).alloc _).of_below hb); clear HS; have HS := H'; clear H'; have F := HS.facts; simp only [Own.Facts, Own.Cells, World.size_alloc] at F))
    go_wp2
    go_ret
    exact ⟨rfl, HS.below⟩
  · have hs : szL xs.length 1048576 = -1 := by unfold szL wrap64; rw [if_pos (by omega)]
    have HS := (Own.start w).box [.slice A xs.length c] 38
    go_enter Try.func8, Try.ntmps8
    go_wp2_with fail
    refine (szContext xs _ 1048576 _ (by repeat (first | exact HS.old hv | exact HS.rd 0 rfl | exact HS.rd 1 rfl | exact HS.rd 2 rfl | exact HS.rd 3 rfl | exact HS.rd 4 rfl | exact HS.rd 5 rfl | exact HS.drew.old hv | exact HS.drew.rd 0 rfl | exact HS.drew.rd 1 rfl | exact HS.drew.rd 2 rfl | exact HS.drew.rd 3 rfl | exact HS.drew.rd 4 rfl | exact HS.drew.rd 5 rfl | refine Rd.alloc ?_ _))).mono ?_; rintro e w1 ⟨rfl, hb⟩; (first | have H' := HS.of_below hb | have H' := HS.drew.of_below hb | have H' := (HS.box0 [_] _).of_below hb | have H' := ((HS.box0 [_] _).box0 [_] _).of_below hb | have H' := (HS.alloc _).of_below hb | have H' := ((HS.alloc _).alloc _).of_below hb); clear HS; have HS := H'; clear H'; have F := HS.facts; simp only [Own.Facts, Own.Cells, World.size_alloc] at F
    go_wp2
    go_ret
    exact ⟨rfl, HS.below⟩
end Go.Proofs.Ytghpideinaaofaa
