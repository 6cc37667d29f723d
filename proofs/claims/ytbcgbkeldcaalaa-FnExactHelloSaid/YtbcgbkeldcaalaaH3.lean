/- States: equality. -/
import Derived.Test.YtbcgbkeldcaalaaH2
namespace Go.Proofs.Ytbcgbkeldcaalaa
set_option linter.unusedSimpArgs false
set_option linter.unusedVariables false
open Go.RowKit Go.Ow
attribute [local irreducible] wpQuiet
set_option maxRecDepth 100000
theorem eqState (x y : St) (vl vc ul uc : Value) (w : World) (h1 : Rd w vl x.l) (h2 : Rd w vc x.c) (h3 : Rd w ul y.l) (h4 : Rd w uc y.c) :
    Calls Try.prog 18 #[.agg #[vl, vc], .agg #[ul, uc]] w fun e w' => e = .returned (.bool (decide (x = y))) ∧ Below w.heap.size w w' := by
  obtain ⟨A1, c1, rfl, _, _⟩ := h1.val
  obtain ⟨A2, c2, rfl, _, _⟩ := h2.val
  obtain ⟨A3, c3, rfl, _, _⟩ := h3.val
  obtain ⟨A4, c4, rfl, _, _⟩ := h4.val
  have HS := ((Own.start w).box [.slice A1 x.l.length c1, .slice A2 x.c.length c2] 37).box (b := w.heap.size + 1) [.slice A3 y.l.length c3, .slice A4 y.c.length c4] 37
  have he : decide (x = y) = (decide (x.l = y.l) && decide (x.c = y.c)) := by rw [Bool.eq_iff_iff]; cases x; cases y; simp
  rw [he]
  have HE := Lib.hid he
  clear he
  cases d1 : decide (x.l = y.l)
  · go_enter Try.func18, Try.ntmps18
    go_wp2_with fail
    refine (eqLeafS _ _ _ _ _ (HS.old h1) (HS.old h3)).mono ?_; rintro e w1 ⟨rfl, hb⟩; (first | have H' := HS.of_below hb | have H' := HS.drew.of_below hb | have H' := (HS.box0 [_] _).of_below hb | have H' := ((HS.box0 [_] _).box0 [_] _).of_below hb | have H' := (HS.alloc _).of_below hb | have H' := ((HS.alloc _).alloc _).of_below hb); clear HS; have HS := H'; clear H'; have F := HS.facts; simp only [Own.Facts, Own.Cells, World.size_alloc, List.cons_append, List.nil_append, List.eraseIdx_cons_succ, List.eraseIdx_cons_zero, List.eraseIdx_zero, List.tail_cons, Nat.zero_add] at F
    go_wp2
    go_ret
    exact ⟨rfl, HS.below⟩
  · cases d2 : decide (x.c = y.c)
    all_goals
      go_enter Try.func18, Try.ntmps18
      go_wp2_with fail
      refine (eqLeafS _ _ _ _ _ (HS.old h1) (HS.old h3)).mono ?_; rintro e w1 ⟨rfl, hb⟩; (first | have H' := HS.of_below hb | have H' := HS.drew.of_below hb | have H' := (HS.box0 [_] _).of_below hb | have H' := ((HS.box0 [_] _).box0 [_] _).of_below hb | have H' := (HS.alloc _).of_below hb | have H' := ((HS.alloc _).alloc _).of_below hb); clear HS; have HS := H'; clear H'; have F := HS.facts; simp only [Own.Facts, Own.Cells, World.size_alloc, List.cons_append, List.nil_append, List.eraseIdx_cons_succ, List.eraseIdx_cons_zero, List.eraseIdx_zero, List.tail_cons, Nat.zero_add] at F
      go_wp2_with fail
      refine (eqContext _ _ _ _ _ (HS.old h2) (HS.old h4)).mono ?_; rintro e w2 ⟨rfl, hb⟩; (first | have H' := HS.of_below hb | have H' := HS.drew.of_below hb | have H' := (HS.box0 [_] _).of_below hb | have H' := ((HS.box0 [_] _).box0 [_] _).of_below hb | have H' := (HS.alloc _).of_below hb | have H' := ((HS.alloc _).alloc _).of_below hb); clear HS; have HS := H'; clear H'; have F := HS.facts; simp only [Own.Facts, Own.Cells, World.size_alloc, List.cons_append, List.nil_append, List.eraseIdx_cons_succ, List.eraseIdx_cons_zero, List.eraseIdx_zero, List.tail_cons, Nat.zero_add] at F
      go_wp2
      go_ret
      exact ⟨rfl, HS.below⟩
end Go.Proofs.Ytbcgbkeldcaalaa
