/- States: equality. -/
import Derived.Test.YtbcgbkeldcaalaaC3
import Derived.Test.YtbcgbkeldcaalaaD1
import Derived.Test.YtbcgbkeldcaalaaL1
namespace Go.Proofs.Ytbcgbkeldcaalaa
set_option linter.unusedSimpArgs false
set_option linter.unusedVariables false
open Go.RowKit Go.Ow
attribute [local irreducible] wpQuiet
set_option maxRecDepth 100000
instance : Ty Lf := ⟨91⟩
theorem eqStringS (xs ys : List ByteArray) (v u : Value) (w : World) (hv : Rd w v xs) (hu : Rd w u ys) : Calls Try.prog 35 #[v, u] w fun e w' => e = .returned (.bool (decide (xs = ys))) ∧ Below w.heap.size w w' := by
  obtain ⟨A, c, rfl, hc, hl⟩ := hv.val
  obtain ⟨B, d, rfl, hd, hm⟩ := hu.val
  have HS := Own.start w
  by_cases hn : xs.length = ys.length
  · have hb2 : ((xs.length : Int) != (ys.length : Int)) = false := by simp; omega
    have hb3 : ((xs.length : Int) == (ys.length : Int)) = true := by simp; omega
    have HN := Lib.hid hn
    clear hn
    go_enter Try.func35, Try.ntmps35
    go_wp2
    go_loopw [5] (fun i wr => ∃ k : Nat, k ≤ xs.length ∧ i = .int .i64 k ∧ Own w [] wr ∧ xs.take k = ys.take k) (fun i _ => xs.length - (intOf i).toNat)
    case atStart => exact ⟨0, by omega, rfl, HS, rfl⟩
    case round =>
      obtain ⟨k, hk, rfl, HS', hok⟩ := hrel
      have HOK := Lib.hid hok
      clear hok
      by_cases hlt : k < xs.length
      · have hlt2 : k < ys.length := by have := HN.out; omega
        obtain ⟨b, o, rfl⟩ := hv.fix (by omega)
        obtain ⟨b2, o2, rfl⟩ := hu.fix (by omega)
        have hF : ∀ p : Ext wr, _ := fun p => Sg.rd ((HS'.of_below p.h).old hv) k hlt
        have hG : ∀ p : Ext wr, _ := fun p => Sg.rd ((HS'.of_below p.h).old hu) k hlt2
        by_cases h1 : xs[k] = ys[k]
        · rw [h1] at hF
          have H1 := Lib.hid h1
          clear h1
          generalize ys[k] = m at hF hG
          go_wp2
          (refine wp_region_ext (by kernel_rfl) (by kernel_rfl) ?_; (repeat (quiet_step (first | fail))); refine wpQuiet_nil ?_; rintro _ ⟨⟨w1, hw1⟩, rfl⟩)
          have H2 := HS'.of_below hw1
          clear hF hG
          go_wp2
          go_roundw
          case rel => exact ⟨k + 1, by omega, by go_num, H2, by rw [List.take_succ_eq_append_getElem hlt, List.take_succ_eq_append_getElem hlt2, HOK.out, H1.out]⟩
          case measure => simp [intOf]; omega
        · have hne : xs ≠ ys := fun h => h1 (by simp [h])
          have H1 := Lib.hid hne
          have h1b : (xs[k].toList == ys[k].toList) = false := by rw [str_eq]; simp [h1]
          clear hne h1
          generalize xs[k] = m at hF h1b
          generalize ys[k] = m' at hG h1b
          go_wp2
          (refine wp_region_ext (by kernel_rfl) (by kernel_rfl) ?_; (repeat (quiet_step (first | fail))); refine wpQuiet_nil ?_; rintro _ ⟨⟨w1, hw1⟩, rfl⟩)
          have H2 := HS'.of_below hw1
          clear hF hG
          go_wp2
          go_ret
          exact ⟨by simp [H1.out], H2.below⟩
      · go_wp2
        go_ret
        obtain rfl : k = xs.length := by omega
        have h := HOK.out
        rw [List.take_length, HN.out, List.take_length] at h
        exact ⟨by simp [h], HS'.below⟩
  · have hb2 : ((xs.length : Int) != (ys.length : Int)) = true := by simp; omega
    have hb3 : ((xs.length : Int) == (ys.length : Int)) = false := by simp; omega
    have hne : xs ≠ ys := fun h => hn (by rw [h])
    have H1 := Lib.hid hne
    clear hne
    go_enter Try.func35, Try.ntmps35
    go_wp2
    go_ret
    exact ⟨by simp [H1.out], HS.below⟩
theorem eqLeaf (x y : Lf) (vp up : Value) (w : World) (hv : Rd w vp x.p) (hu : Rd w up y.p) :
    Calls Try.prog 83 #[.agg #[vp, .bool x.fl, .int .i64 x.dr, .int .i64 x.ds, .string x.v], .agg #[up, .bool y.fl, .int .i64 y.dr, .int .i64 y.ds, .string y.v]] w fun e w' => e = .returned (.bool (decide (x = y))) ∧ Below w.heap.size w w' := by
  obtain ⟨A, c, rfl, hc, hl⟩ := hv.val
  obtain ⟨B, d, rfl, hd, hm⟩ := hu.val
  have HS := ((Own.start w).box [.slice A x.p.length c, .bool x.fl, .int .i64 x.dr, .int .i64 x.ds, .string x.v] 91).box (b := w.heap.size + 1) [.slice B y.p.length d, .bool y.fl, .int .i64 y.dr, .int .i64 y.ds, .string y.v] 91
  have he : decide (x = y) = (decide (x.p = y.p) && ((x.fl == y.fl) && (decide (x.dr = y.dr ∧ x.ds = y.ds) && (x.v.toList == y.v.toList)))) := by
    rw [str_eq, Bool.eq_iff_iff]; cases x; cases y; simp; intros; exact and_assoc.symm
  rw [he]
  have HE := Lib.hid he
  clear he
  cases h1 : decide (x.p = y.p)
  · go_enter Try.func83, Try.ntmps83
    go_wp2_with fail
    refine (eqStringS _ _ _ _ _ (HS.old hv) (HS.old hu)).mono ?_; rintro e w1 ⟨rfl, hb⟩; (first | have H' := HS.of_below hb | have H' := HS.drew.of_below hb | have H' := (HS.box0 [_] _).of_below hb | have H' := ((HS.box0 [_] _).box0 [_] _).of_below hb | have H' := (HS.alloc _).of_below hb | have H' := ((HS.alloc _).alloc _).of_below hb); clear HS; have HS := H'; clear H'; have F := HS.facts; simp only [Own.Facts, Own.Cells, World.size_alloc, List.cons_append, List.nil_append, List.eraseIdx_cons_succ, List.eraseIdx_cons_zero, List.eraseIdx_zero, List.tail_cons, Nat.zero_add] at F
    go_wp2
    go_ret
    exact ⟨rfl, HS.below⟩
  · cases h2 : (x.fl == y.fl)
    · have h2b : (x.fl != y.fl) = true := by simp [bne, h2]
      go_enter Try.func83, Try.ntmps83
      go_wp2_with fail
      refine (eqStringS _ _ _ _ _ (HS.old hv) (HS.old hu)).mono ?_; rintro e w1 ⟨rfl, hb⟩; (first | have H' := HS.of_below hb | have H' := HS.drew.of_below hb | have H' := (HS.box0 [_] _).of_below hb | have H' := ((HS.box0 [_] _).box0 [_] _).of_below hb | have H' := (HS.alloc _).of_below hb | have H' := ((HS.alloc _).alloc _).of_below hb); clear HS; have HS := H'; clear H'; have F := HS.facts; simp only [Own.Facts, Own.Cells, World.size_alloc, List.cons_append, List.nil_append, List.eraseIdx_cons_succ, List.eraseIdx_cons_zero, List.eraseIdx_zero, List.tail_cons, Nat.zero_add] at F
      go_wp2
      go_ret
      exact ⟨rfl, HS.below⟩
    · have h2b : (x.fl != y.fl) = false := by simp [bne, h2]
      cases h3 : decide (x.dr = y.dr ∧ x.ds = y.ds)
      · go_enter Try.func83, Try.ntmps83
        go_wp2_with fail
        refine (eqStringS _ _ _ _ _ (HS.old hv) (HS.old hu)).mono ?_; rintro e w1 ⟨rfl, hb⟩; (first | have H' := HS.of_below hb | have H' := HS.drew.of_below hb | have H' := (HS.box0 [_] _).of_below hb | have H' := ((HS.box0 [_] _).box0 [_] _).of_below hb | have H' := (HS.alloc _).of_below hb | have H' := ((HS.alloc _).alloc _).of_below hb); clear HS; have HS := H'; clear H'; have F := HS.facts; simp only [Own.Facts, Own.Cells, World.size_alloc, List.cons_append, List.nil_append, List.eraseIdx_cons_succ, List.eraseIdx_cons_zero, List.eraseIdx_zero, List.tail_cons, Nat.zero_add] at F
        go_wp2_with fail
        refine (eqDot _ _ _ _ _).mono ?_; rintro e w2 ⟨rfl, hb⟩; (first | have H' := HS.of_below hb | have H' := HS.drew.of_below hb | have H' := (HS.box0 [_] _).of_below hb | have H' := ((HS.box0 [_] _).box0 [_] _).of_below hb | have H' := (HS.alloc _).of_below hb | have H' := ((HS.alloc _).alloc _).of_below hb); clear HS; have HS := H'; clear H'; have F := HS.facts; simp only [Own.Facts, Own.Cells, World.size_alloc, List.cons_append, List.nil_append, List.eraseIdx_cons_succ, List.eraseIdx_cons_zero, List.eraseIdx_zero, List.tail_cons, Nat.zero_add] at F
        go_wp2
        go_ret
        exact ⟨rfl, HS.below⟩
      · cases h4 : (x.v.toList == y.v.toList)
        all_goals
          go_enter Try.func83, Try.ntmps83
          go_wp2_with fail
          refine (eqStringS _ _ _ _ _ (HS.old hv) (HS.old hu)).mono ?_; rintro e w1 ⟨rfl, hb⟩; (first | have H' := HS.of_below hb | have H' := HS.drew.of_below hb | have H' := (HS.box0 [_] _).of_below hb | have H' := ((HS.box0 [_] _).box0 [_] _).of_below hb | have H' := (HS.alloc _).of_below hb | have H' := ((HS.alloc _).alloc _).of_below hb); clear HS; have HS := H'; clear H'; have F := HS.facts; simp only [Own.Facts, Own.Cells, World.size_alloc, List.cons_append, List.nil_append, List.eraseIdx_cons_succ, List.eraseIdx_cons_zero, List.eraseIdx_zero, List.tail_cons, Nat.zero_add] at F
          go_wp2_with fail
          refine (eqDot _ _ _ _ _).mono ?_; rintro e w2 ⟨rfl, hb⟩; (first | have H' := HS.of_below hb | have H' := HS.drew.of_below hb | have H' := (HS.box0 [_] _).of_below hb | have H' := ((HS.box0 [_] _).box0 [_] _).of_below hb | have H' := (HS.alloc _).of_below hb | have H' := ((HS.alloc _).alloc _).of_below hb); clear HS; have HS := H'; clear H'; have F := HS.facts; simp only [Own.Facts, Own.Cells, World.size_alloc, List.cons_append, List.nil_append, List.eraseIdx_cons_succ, List.eraseIdx_cons_zero, List.eraseIdx_zero, List.tail_cons, Nat.zero_add] at F
          go_wp2
          go_ret
          exact ⟨rfl, HS.below⟩
end Go.Proofs.Ytbcgbkeldcaalaa
