/- The program's Remove. -/
import Derived.Test.YtkafflbakgkpcaaGreatKd
import Derived.Test.YtkafflbakgkpcaaGreatJ4
import Derived.Test.YtkafflbakgkpcaaGreatIa
namespace Go.Proofs.YtkafflbakgkpcaaGreat
set_option linter.unusedSimpArgs false
set_option linter.unusedVariables false
open Go.RowKit Go.Ow
attribute [local irreducible] wpQuiet
set_option maxRecDepth 100000
def rmR (s : St) (p : List ByteArray) : St × St × Int := if stOk s = false then (⟨[], []⟩, ⟨[], []⟩, 1) else if pathOk p = false then (⟨[], []⟩, ⟨[], []⟩, 2) else chR s (fun x => unB p x.p) []
set_option maxHeartbeats 16000000 in
theorem implRemove (s : St) (p : List ByteArray) (vl vc vp : Value) (w : World) (h1 : Rd w vl s.l) (h2 : Rd w vc s.c) (h3 : Rd w vp p) (hw : ∀ y ∈ s.l, LfW y) (hc : s.c.length ≤ 1048576) (hpw : ∀ x ∈ p, x.size ≤ 140737488351232) :
    Calls Tryz.prog 11 #[.agg #[vl, vc], vp] w fun e w' => ∃ A c A2 c2 A3 c3 A4 c4, e = .returned (.tuple #[.agg #[.slice A (rmR s p).1.l.length c, .slice A2 (rmR s p).1.c.length c2], .agg #[.slice A3 (rmR s p).2.1.l.length c3, .slice A4 (rmR s p).2.1.c.length c4], .int .i64 (rmR s p).2.2]) ∧
      Own w [.own (.slice A (rmR s p).1.l.length c) (rmR s p).1.l, .own (.slice A2 (rmR s p).1.c.length c2) (rmR s p).1.c, .own (.slice A3 (rmR s p).2.1.l.length c3) (rmR s p).2.1.l, .own (.slice A4 (rmR s p).2.1.c.length c4) (rmR s p).2.1.c] w' := by
  obtain ⟨A1, c1, rfl, _, _⟩ := h1.val
  obtain ⟨A2, c2, rfl, _, _⟩ := h2.val
  obtain ⟨A3, c3, rfl, _, _⟩ := h3.val
  have HW := Lib.hid hw
  have HPW := Lib.hid hpw
  clear hw hpw
  have HS := ((((Own.start w).box [.slice A1 s.l.length c1, .slice A2 s.c.length c2] 36).box (b := w.heap.size + 1) [.slice A3 p.length c3] 28).box (b := w.heap.size + 1 + 1) [.slice none 0 0, .slice none 0 0] 36).box (b := w.heap.size + 1 + 1 + 1) [.slice none 0 0, .slice none 0 0] 36
  cases ha : stOk s
  · have HQ := Lib.hid (show rmR s p = (⟨[], []⟩, ⟨[], []⟩, 1) by unfold rmR; rw [if_pos ha])
    go_enter Tryz.func11, Tryz.ntmps11
    go_wp2_with fail
    refine (implStateOk s _ _ _ (HS.old h1) (HS.old h2) HW.out hc).mono ?_; rintro e w1 ⟨rfl, hb⟩; (first | have H' := HS.of_below hb | have H' := HS.drew.of_below hb | have H' := (HS.box0 [_] _).of_below hb | have H' := ((HS.box0 [_] _).box0 [_] _).of_below hb | have H' := (HS.alloc _).of_below hb | have H' := ((HS.alloc _).alloc _).of_below hb); clear HS; have HS := H'; clear H'; have F := HS.facts; simp only [Own.Facts, Own.Cells, World.size_alloc, List.cons_append, List.nil_append, List.eraseIdx_cons_succ, List.eraseIdx_cons_zero, List.eraseIdx_zero, List.tail_cons, Nat.zero_add] at F
    rw [ha]
    clear ha
    go_wp2
    have H2 := (((((HS.pick 1 rfl).set 0 (.slice none 0 0)).set 1 (.slice none 0 0)).pick 1 rfl).set 0 (.slice none 0 0)).set 1 (.slice none 0 0)
    have H3 := ((((H2.drop.drop.drop.drop.nil (α := Rn)).nil (α := Lf)).nil (α := Rn)).nil (α := Lf))
    exact bodyPost_ret (v := .tuple #[.agg #[.slice none 0 0, .slice none 0 0], .agg #[.slice none 0 0, .slice none 0 0], .int .i64 1]) (by simp [results, Tryz.results11, go_sem, *]) rfl ⟨none, 0, none, 0, none, 0, none, 0, by rw [HQ.out]; rfl, by rw [HQ.out]; exact H3⟩
  · cases hp : pathOk p
    · have HQ := Lib.hid (show rmR s p = (⟨[], []⟩, ⟨[], []⟩, 2) by unfold rmR; rw [if_neg (by simp [ha]), if_pos hp])
      go_enter Tryz.func11, Tryz.ntmps11
      go_wp2_with fail
      refine (implStateOk s _ _ _ (HS.old h1) (HS.old h2) HW.out hc).mono ?_; rintro e w1 ⟨rfl, hb⟩; (first | have H' := HS.of_below hb | have H' := HS.drew.of_below hb | have H' := (HS.box0 [_] _).of_below hb | have H' := ((HS.box0 [_] _).box0 [_] _).of_below hb | have H' := (HS.alloc _).of_below hb | have H' := ((HS.alloc _).alloc _).of_below hb); clear HS; have HS := H'; clear H'; have F := HS.facts; simp only [Own.Facts, Own.Cells, World.size_alloc, List.cons_append, List.nil_append, List.eraseIdx_cons_succ, List.eraseIdx_cons_zero, List.eraseIdx_zero, List.tail_cons, Nat.zero_add] at F
      rw [ha]
      clear ha
      go_wp2_with fail
      refine (implPathOk p _ _ (HS.old h3) HPW.out).mono ?_; rintro e w2 ⟨rfl, hb⟩; (first | have H' := HS.of_below hb | have H' := HS.drew.of_below hb | have H' := (HS.box0 [_] _).of_below hb | have H' := ((HS.box0 [_] _).box0 [_] _).of_below hb | have H' := (HS.alloc _).of_below hb | have H' := ((HS.alloc _).alloc _).of_below hb); clear HS; have HS := H'; clear H'; have F := HS.facts; simp only [Own.Facts, Own.Cells, World.size_alloc, List.cons_append, List.nil_append, List.eraseIdx_cons_succ, List.eraseIdx_cons_zero, List.eraseIdx_zero, List.tail_cons, Nat.zero_add] at F
      rw [hp]
      clear hp
      go_wp2
      have H2 := (((((HS.pick 1 rfl).set 0 (.slice none 0 0)).set 1 (.slice none 0 0)).pick 1 rfl).set 0 (.slice none 0 0)).set 1 (.slice none 0 0)
      have H3 := ((((H2.drop.drop.drop.drop.nil (α := Rn)).nil (α := Lf)).nil (α := Rn)).nil (α := Lf))
      exact bodyPost_ret (v := .tuple #[.agg #[.slice none 0 0, .slice none 0 0], .agg #[.slice none 0 0, .slice none 0 0], .int .i64 2]) (by simp [results, Tryz.results11, go_sem, *]) rfl ⟨none, 0, none, 0, none, 0, none, 0, by rw [HQ.out]; rfl, by rw [HQ.out]; exact H3⟩
    · obtain ⟨X, hX⟩ : ∃ X, chR s (fun x => unB p x.p) [] = X := ⟨_, rfl⟩
      have HQ := Lib.hid (show rmR s p = X by unfold rmR; rw [if_neg (by simp [ha]), if_neg (by simp [hp])]; exact hX)
      have HX := Lib.hid hX
      have HOK := Lib.hid ha
      clear hX
      go_enter Tryz.func11, Tryz.ntmps11
      go_wp2_with fail
      refine (implStateOk s _ _ _ (HS.old h1) (HS.old h2) HW.out hc).mono ?_; rintro e w1 ⟨rfl, hb⟩; (first | have H' := HS.of_below hb | have H' := HS.drew.of_below hb | have H' := (HS.box0 [_] _).of_below hb | have H' := ((HS.box0 [_] _).box0 [_] _).of_below hb | have H' := (HS.alloc _).of_below hb | have H' := ((HS.alloc _).alloc _).of_below hb); clear HS; have HS := H'; clear H'; have F := HS.facts; simp only [Own.Facts, Own.Cells, World.size_alloc, List.cons_append, List.nil_append, List.eraseIdx_cons_succ, List.eraseIdx_cons_zero, List.eraseIdx_zero, List.tail_cons, Nat.zero_add] at F
      rw [ha]
      clear ha
      go_wp2_with fail
      refine (implPathOk p _ _ (HS.old h3) HPW.out).mono ?_; rintro e w2 ⟨rfl, hb⟩; (first | have H' := HS.of_below hb | have H' := HS.drew.of_below hb | have H' := (HS.box0 [_] _).of_below hb | have H' := ((HS.box0 [_] _).box0 [_] _).of_below hb | have H' := (HS.alloc _).of_below hb | have H' := ((HS.alloc _).alloc _).of_below hb); clear HS; have HS := H'; clear H'; have F := HS.facts; simp only [Own.Facts, Own.Cells, World.size_alloc, List.cons_append, List.nil_append, List.eraseIdx_cons_succ, List.eraseIdx_cons_zero, List.eraseIdx_zero, List.tail_cons, Nat.zero_add] at F
      rw [hp]
      clear hp
      have HC : w2.cell? ⟨w.heap.size + 1, 0, none⟩ = some (.slice A3 p.length c3) := by
        have F := HS.facts; simp only [Own.Facts, Own.Cells, World.size_alloc, List.cons_append, List.nil_append, List.eraseIdx_cons_succ, List.eraseIdx_cons_zero, List.eraseIdx_zero, List.tail_cons, Nat.zero_add] at F
        simp [F]
      go_wp2_with fail
      refine (show Calls Tryz.prog 31 _ _ (fun e w' => ∃ A c A2 c2 A3 c3 A4 c4, e = .returned (.tuple #[.agg #[.slice A X.1.l.length c, .slice A2 X.1.c.length c2], .agg #[.slice A3 X.2.1.l.length c3, .slice A4 X.2.1.c.length c4], .int .i64 X.2.2]) ∧ Own _ [.own (.slice A X.1.l.length c) X.1.l, .own (.slice A2 X.1.c.length c2) X.1.c, .own (.slice A3 X.2.1.l.length c3) X.2.1.l, .own (.slice A4 X.2.1.c.length c4) X.2.1.c] w') from by
        have h := changeR s (fun x => unB p x.p) (w.heap.size + 1) _ _ _ (HS.old h1) (HS.old h2) HOK.out (fun w' hb x vx hx => goneR x p vx _ (w.heap.size + 1) w' hx (((Own.start _).of_below hb).old (HS.old h3)) (((bcell hb).1 (w.heap.size + 1) 0 (World.block_lt_of_cell? _ _ HC)).trans HC))
        rw [HX.out] at h; exact h).mono ?_
      rintro e w3 ⟨E1, e1, E2, e2, E3, e3, E4, e4, rfl, hs⟩
      replace HS := HS.call hs
      simp only [List.cons_append, List.nil_append] at HS
      clear hs
      have F := HS.facts; simp only [Own.Facts, Own.Cells, World.size_alloc, List.cons_append, List.nil_append, List.eraseIdx_cons_succ, List.eraseIdx_cons_zero, List.eraseIdx_zero, List.tail_cons, Nat.zero_add] at F
      go_wp2
      have H2 := (((((HS.pick 5 rfl).set 0 (.slice E1 X.1.l.length e1)).set 1 (.slice E2 X.1.c.length e2)).pick 5 rfl).set 0 (.slice E3 X.2.1.l.length e3)).set 1 (.slice E4 X.2.1.c.length e4)
      have H3 := own_take 4 ((H2.drop.drop))
      exact bodyPost_ret (v := .tuple #[.agg #[.slice E1 X.1.l.length e1, .slice E2 X.1.c.length e2], .agg #[.slice E3 X.2.1.l.length e3, .slice E4 X.2.1.c.length e4], .int .i64 X.2.2]) (by simp [results, Tryz.results11, go_sem, *]) rfl ⟨_, _, _, _, _, _, _, _, by rw [HQ.out], by rw [HQ.out]; exact H3⟩
end Go.Proofs.YtkafflbakgkpcaaGreat
