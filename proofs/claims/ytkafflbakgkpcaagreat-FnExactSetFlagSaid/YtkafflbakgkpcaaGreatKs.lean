/- The program's set, SetFlag, WriteReg. -/
import Derived.Test.YtkafflbakgkpcaaGreatKp0
import Derived.Test.YtkafflbakgkpcaaGreatKp
import Derived.Test.YtkafflbakgkpcaaGreatKl
import Derived.Test.YtkafflbakgkpcaaGreatKh
namespace Go.Proofs.YtkafflbakgkpcaaGreat
set_option linter.unusedSimpArgs false
set_option linter.unusedVariables false
open Go.RowKit Go.Ow
attribute [local irreducible] wpQuiet
set_option maxRecDepth 100000
theorem box1 {W w : World} {R : List Ds} {b t : Nat} {v : Value} (h : Own W (.box b t [v] :: R) w) : w.cell? ⟨b, 0, none⟩ = some v := by
  have F := h.only.facts
  simp only [Own.Facts, Own.Cells, Nat.zero_add, and_true] at F
  first | exact F.1.1 | exact F.1 | exact F
theorem box5 {W w : World} {R : List Ds} {b t : Nat} {v1 v2 v3 v4 v5 : Value} (h : Own W (.box b t [v1, v2, v3, v4, v5] :: R) w) : (w.cell? ⟨b, 0, none⟩ = some v1 ∧ w.cell? ⟨b, 1, none⟩ = some v2) ∧ w.cell? ⟨b, 2, none⟩ = some v3 ∧ w.cell? ⟨b, 3, none⟩ = some v4 ∧ w.cell? ⟨b, 4, none⟩ = some v5 := by
  have F := h.only.facts
  simp only [Own.Facts, Own.Cells, Nat.zero_add, and_true] at F
  exact ⟨⟨F.1.1, F.1.2.1⟩, F.1.2.2.1, F.1.2.2.2.1, F.1.2.2.2.2⟩
set_option maxHeartbeats 16000000 in
theorem implSet (s : St) (rep : Int) (p : List ByteArray) (fl on : Bool) (v : ByteArray) (vl vc vp : Value) (w : World) (h1 : Rd w vl s.l) (h2 : Rd w vc s.c) (h3 : Rd w vp p) (hw : ∀ y ∈ s.l, LfW y) (hc : s.c.length ≤ 1048576) (hpw : ∀ x ∈ p, x.size ≤ 140737488351232) (hrep : -9223372036854775808 ≤ rep ∧ rep ≤ 9223372036854775807) (hv : v.size ≤ 140737488351232) :
    Calls Tryz.prog 42 #[.agg #[vl, vc], .int .i64 rep, vp, .bool fl, .bool on, .string v] w fun e w' => ∃ A c A2 c2 A3 c3 A4 c4, e = .returned (.tuple #[.agg #[.slice A (stR s rep p fl on v).1.l.length c, .slice A2 (stR s rep p fl on v).1.c.length c2], .agg #[.slice A3 (stR s rep p fl on v).2.1.l.length c3, .slice A4 (stR s rep p fl on v).2.1.c.length c4], .int .i64 (stR s rep p fl on v).2.2]) ∧
      Own w [.own (.slice A (stR s rep p fl on v).1.l.length c) (stR s rep p fl on v).1.l, .own (.slice A2 (stR s rep p fl on v).1.c.length c2) (stR s rep p fl on v).1.c, .own (.slice A3 (stR s rep p fl on v).2.1.l.length c3) (stR s rep p fl on v).2.1.l, .own (.slice A4 (stR s rep p fl on v).2.1.c.length c4) (stR s rep p fl on v).2.1.c] w' := by
  obtain ⟨A1, c1, rfl, _, _⟩ := h1.val
  obtain ⟨A2, c2, rfl, _, _⟩ := h2.val
  obtain ⟨A3, c3, rfl, _, _⟩ := h3.val
  have HW := Lib.hid hw
  have HPW := Lib.hid hpw
  clear hw hpw
  have HS := (((((Own.start w).box [.slice A1 s.l.length c1, .slice A2 s.c.length c2] 36).box (b := w.heap.size + 1) [.slice A3 p.length c3] 28).box (b := w.heap.size + 1 + 1) [.bool fl] 4).box (b := w.heap.size + 1 + 1 + 1) [.slice none 0 0, .slice none 0 0] 36).box (b := w.heap.size + 1 + 1 + 1 + 1) [.slice none 0 0, .slice none 0 0] 36
  cases ha : stOk s
  · have HQ := Lib.hid (show stR s rep p fl on v = (⟨[], []⟩, ⟨[], []⟩, 1) by unfold stR; rw [if_pos ha])
    go_enter Tryz.func42, Tryz.ntmps42
    go_wp2_with fail
    refine (implStateOk s _ _ _ (HS.old h1) (HS.old h2) HW.out hc).mono ?_; rintro e w1 ⟨rfl, hb⟩; (first | have H' := HS.of_below hb | have H' := HS.drew.of_below hb | have H' := (HS.box0 [_] _).of_below hb | have H' := ((HS.box0 [_] _).box0 [_] _).of_below hb | have H' := (HS.alloc _).of_below hb | have H' := ((HS.alloc _).alloc _).of_below hb); clear HS; have HS := H'; clear H'; have F := HS.facts; simp only [Own.Facts, Own.Cells, World.size_alloc, List.cons_append, List.nil_append, List.eraseIdx_cons_succ, List.eraseIdx_cons_zero, List.eraseIdx_zero, List.tail_cons, Nat.zero_add] at F
    rw [ha]
    clear ha
    go_wp2
    have H2 := (((((HS.pick 1 rfl).set 0 (.slice none 0 0)).set 1 (.slice none 0 0)).pick 1 rfl).set 0 (.slice none 0 0)).set 1 (.slice none 0 0)
    have H3 := ((((H2.drop.drop.drop.drop.drop.nil (α := Rn)).nil (α := Lf)).nil (α := Rn)).nil (α := Lf))
    exact bodyPost_ret (v := .tuple #[.agg #[.slice none 0 0, .slice none 0 0], .agg #[.slice none 0 0, .slice none 0 0], .int .i64 1]) (by simp [results, Tryz.results42, go_sem, *]) rfl ⟨none, 0, none, 0, none, 0, none, 0, by rw [HQ.out]; rfl, by rw [HQ.out]; exact H3⟩
  · cases hp : pathOk p
    · have HQ := Lib.hid (show stR s rep p fl on v = (⟨[], []⟩, ⟨[], []⟩, 2) by unfold stR; rw [if_neg (by simp [ha]), if_pos (by simp [hp])])
      go_enter Tryz.func42, Tryz.ntmps42
      go_wp2_with fail
      refine (implStateOk s _ _ _ (HS.old h1) (HS.old h2) HW.out hc).mono ?_; rintro e w1 ⟨rfl, hb⟩; (first | have H' := HS.of_below hb | have H' := HS.drew.of_below hb | have H' := (HS.box0 [_] _).of_below hb | have H' := ((HS.box0 [_] _).box0 [_] _).of_below hb | have H' := (HS.alloc _).of_below hb | have H' := ((HS.alloc _).alloc _).of_below hb); clear HS; have HS := H'; clear H'; have F := HS.facts; simp only [Own.Facts, Own.Cells, World.size_alloc, List.cons_append, List.nil_append, List.eraseIdx_cons_succ, List.eraseIdx_cons_zero, List.eraseIdx_zero, List.tail_cons, Nat.zero_add] at F
      rw [ha]
      clear ha
      go_wp2_with fail
      refine (implPathOk p _ _ (HS.old h3) HPW.out).mono ?_; rintro e w2 ⟨rfl, hb⟩; (first | have H' := HS.of_below hb | have H' := HS.drew.of_below hb | have H' := (HS.box0 [_] _).of_below hb | have H' := ((HS.box0 [_] _).box0 [_] _).of_below hb | have H' := (HS.alloc _).of_below hb | have H' := ((HS.alloc _).alloc _).of_below hb); clear HS; have HS := H'; clear H'; have F := HS.facts; simp only [Own.Facts, Own.Cells, World.size_alloc, List.cons_append, List.nil_append, List.eraseIdx_cons_succ, List.eraseIdx_cons_zero, List.eraseIdx_zero, List.tail_cons, Nat.zero_add] at F
      rw [hp]
      clear hp
      go_wp2
      have H2 := (((((HS.pick 1 rfl).set 0 (.slice none 0 0)).set 1 (.slice none 0 0)).pick 1 rfl).set 0 (.slice none 0 0)).set 1 (.slice none 0 0)
      have H3 := ((((H2.drop.drop.drop.drop.drop.nil (α := Rn)).nil (α := Lf)).nil (α := Rn)).nil (α := Lf))
      exact bodyPost_ret (v := .tuple #[.agg #[.slice none 0 0, .slice none 0 0], .agg #[.slice none 0 0, .slice none 0 0], .int .i64 2]) (by simp [results, Tryz.results42, go_sem, *]) rfl ⟨none, 0, none, 0, none, 0, none, 0, by rw [HQ.out]; rfl, by rw [HQ.out]; exact H3⟩
    · by_cases hv2 : v.size ≤ 200
      · by_cases hr : 0 ≤ rep ∧ rep < 8
        · obtain ⟨hr1, hr2⟩ := hr
          have HOK := Lib.hid ha
          cases on
          · obtain ⟨X, hX⟩ : ∃ X, chR s (setB fl p) [] = X := ⟨_, rfl⟩
            have HQ := Lib.hid (show stR s rep p fl false v = X by unfold stR; rw [if_neg (by simp [ha]), if_neg (by simp [hp, hv2]), if_neg (by simp [hr1, hr2]), if_neg (by simp)]; exact hX)
            have HX := Lib.hid hX
            clear hX
            go_enter Tryz.func42, Tryz.ntmps42
            go_wp2_with fail
            refine (implStateOk s _ _ _ (HS.old h1) (HS.old h2) HW.out hc).mono ?_; rintro e w1 ⟨rfl, hb⟩; (first | have H' := HS.of_below hb | have H' := HS.drew.of_below hb | have H' := (HS.box0 [_] _).of_below hb | have H' := ((HS.box0 [_] _).box0 [_] _).of_below hb | have H' := (HS.alloc _).of_below hb | have H' := ((HS.alloc _).alloc _).of_below hb); clear HS; have HS := H'; clear H'; have F := HS.facts; simp only [Own.Facts, Own.Cells, World.size_alloc, List.cons_append, List.nil_append, List.eraseIdx_cons_succ, List.eraseIdx_cons_zero, List.eraseIdx_zero, List.tail_cons, Nat.zero_add] at F
            rw [ha]
            clear ha
            go_wp2_with fail
            refine (implPathOk p _ _ (HS.old h3) HPW.out).mono ?_; rintro e w2 ⟨rfl, hb⟩; (first | have H' := HS.of_below hb | have H' := HS.drew.of_below hb | have H' := (HS.box0 [_] _).of_below hb | have H' := ((HS.box0 [_] _).box0 [_] _).of_below hb | have H' := (HS.alloc _).of_below hb | have H' := ((HS.alloc _).alloc _).of_below hb); clear HS; have HS := H'; clear H'; have F := HS.facts; simp only [Own.Facts, Own.Cells, World.size_alloc, List.cons_append, List.nil_append, List.eraseIdx_cons_succ, List.eraseIdx_cons_zero, List.eraseIdx_zero, List.tail_cons, Nat.zero_add] at F
            rw [hp]
            clear hp
            have HC : w2.cell? ⟨w.heap.size + 1, 0, none⟩ = some (.slice A3 p.length c3) ∧ w2.cell? ⟨w.heap.size + 1 + 1, 0, none⟩ = some (.bool fl) := by
              have F := HS.facts; simp only [Own.Facts, Own.Cells, World.size_alloc, List.cons_append, List.nil_append, List.eraseIdx_cons_succ, List.eraseIdx_cons_zero, List.eraseIdx_zero, List.tail_cons, Nat.zero_add] at F
              simp [F]
            go_wp2_with fail
            refine (show Calls Tryz.prog 31 _ _ (fun e w' => ∃ A c A2 c2 A3 c3 A4 c4, e = .returned (.tuple #[.agg #[.slice A X.1.l.length c, .slice A2 X.1.c.length c2], .agg #[.slice A3 X.2.1.l.length c3, .slice A4 X.2.1.c.length c4], .int .i64 X.2.2]) ∧
                  Own _ [.own (.slice A X.1.l.length c) X.1.l, .own (.slice A2 X.1.c.length c2) X.1.c, .own (.slice A3 X.2.1.l.length c3) X.2.1.l, .own (.slice A4 X.2.1.c.length c4) X.2.1.c] w') from by
              have h := changeS0 s (setB fl p) (w.heap.size + 1 + 1) (w.heap.size + 1) _ _ w2 (HS.old h1) (HS.old h2) HOK.out (fun w' hb x vx hx => goneS x fl p vx _ (w.heap.size + 1 + 1) (w.heap.size + 1) w' hx (((Own.start _).of_below hb).old (HS.old h3)) (((bcell hb).1 (w.heap.size + 1 + 1) 0 (World.block_lt_of_cell? _ _ HC.2)).trans HC.2) (((bcell hb).1 (w.heap.size + 1) 0 (World.block_lt_of_cell? _ _ HC.1)).trans HC.1))
              rw [HX.out] at h; exact h).mono ?_
            rintro e w9 ⟨E1, e1, E2, e2, E3, e3, E4, e4, rfl, hs⟩
            replace HS := HS.call hs
            simp only [List.cons_append, List.nil_append] at HS
            clear hs
            have F := HS.facts; simp only [Own.Facts, Own.Cells, World.size_alloc, List.cons_append, List.nil_append, List.eraseIdx_cons_succ, List.eraseIdx_cons_zero, List.eraseIdx_zero, List.tail_cons, Nat.zero_add] at F
            go_wp2
            have H2 := (((((HS.pick 5 rfl).set 0 (.slice E1 X.1.l.length e1)).set 1 (.slice E2 X.1.c.length e2)).pick 5 rfl).set 0 (.slice E3 X.2.1.l.length e3)).set 1 (.slice E4 X.2.1.c.length e4)
            have H3 := own_take 4 ((H2.drop.drop))
            exact bodyPost_ret (v := .tuple #[.agg #[.slice E1 X.1.l.length e1, .slice E2 X.1.c.length e2], .agg #[.slice E3 X.2.1.l.length e3, .slice E4 X.2.1.c.length e4], .int .i64 X.2.2]) (by simp [results, Tryz.results42, go_sem, *]) rfl ⟨_, _, _, _, _, _, _, _, by rw [HQ.out], by rw [HQ.out]; exact H3⟩
          · obtain ⟨r, hr⟩ : ∃ r, (nextDot s.c rep).1 = r := ⟨_, rfl⟩
            obtain ⟨q, hq⟩ : ∃ q, (nextDot s.c rep).2.1 = q := ⟨_, rfl⟩
            have HND := Lib.hid (fun h : (nextDot s.c rep).2.2 = true => nextDot_ok h)
            cases ho : (nextDot s.c rep).2.2
            · have HQ := Lib.hid (show stR s rep p fl true v = (⟨[], []⟩, ⟨[], []⟩, 3) by unfold stR; rw [if_neg (by simp [ha]), if_neg (by simp [hp, hv2]), if_pos (by simp [ho])])
              go_enter Tryz.func42, Tryz.ntmps42
              go_wp2_with fail
              refine (implStateOk s _ _ _ (HS.old h1) (HS.old h2) HW.out hc).mono ?_; rintro e w1 ⟨rfl, hb⟩; (first | have H' := HS.of_below hb | have H' := HS.drew.of_below hb | have H' := (HS.box0 [_] _).of_below hb | have H' := ((HS.box0 [_] _).box0 [_] _).of_below hb | have H' := (HS.alloc _).of_below hb | have H' := ((HS.alloc _).alloc _).of_below hb); clear HS; have HS := H'; clear H'; have F := HS.facts; simp only [Own.Facts, Own.Cells, World.size_alloc, List.cons_append, List.nil_append, List.eraseIdx_cons_succ, List.eraseIdx_cons_zero, List.eraseIdx_zero, List.tail_cons, Nat.zero_add] at F
              rw [ha]
              clear ha
              go_wp2_with fail
              refine (implPathOk p _ _ (HS.old h3) HPW.out).mono ?_; rintro e w2 ⟨rfl, hb⟩; (first | have H' := HS.of_below hb | have H' := HS.drew.of_below hb | have H' := (HS.box0 [_] _).of_below hb | have H' := ((HS.box0 [_] _).box0 [_] _).of_below hb | have H' := (HS.alloc _).of_below hb | have H' := ((HS.alloc _).alloc _).of_below hb); clear HS; have HS := H'; clear H'; have F := HS.facts; simp only [Own.Facts, Own.Cells, World.size_alloc, List.cons_append, List.nil_append, List.eraseIdx_cons_succ, List.eraseIdx_cons_zero, List.eraseIdx_zero, List.tail_cons, Nat.zero_add] at F
              rw [hp]
              clear hp
              go_wp2_with fail
              refine (implNextDot s.c rep _ _ (HS.old h2) hc).mono ?_; rintro e w3 ⟨rfl, hb⟩; (first | have H' := HS.of_below hb | have H' := HS.drew.of_below hb | have H' := (HS.box0 [_] _).of_below hb | have H' := ((HS.box0 [_] _).box0 [_] _).of_below hb | have H' := (HS.alloc _).of_below hb | have H' := ((HS.alloc _).alloc _).of_below hb); clear HS; have HS := H'; clear H'; have F := HS.facts; simp only [Own.Facts, Own.Cells, World.size_alloc, List.cons_append, List.nil_append, List.eraseIdx_cons_succ, List.eraseIdx_cons_zero, List.eraseIdx_zero, List.tail_cons, Nat.zero_add] at F
              rw [ho, hr, hq]
              clear ho hr hq
              have HS2 := HS.box (b := w3.heap.size) [.int .i64 r, .int .i64 q] 55
              clear HS F
              have HS := HS2
              have F := HS.facts; simp only [Own.Facts, Own.Cells, World.size_alloc, List.cons_append, List.nil_append, List.eraseIdx_cons_succ, List.eraseIdx_cons_zero, List.eraseIdx_zero, List.tail_cons, Nat.zero_add] at F
              go_wp2
              have H2 := (((((HS.pick 2 rfl).set 0 (.slice none 0 0)).set 1 (.slice none 0 0)).pick 2 rfl).set 0 (.slice none 0 0)).set 1 (.slice none 0 0)
              have H3 := ((((H2.drop.drop.drop.drop.drop.drop.nil (α := Rn)).nil (α := Lf)).nil (α := Rn)).nil (α := Lf))
              exact bodyPost_ret (v := .tuple #[.agg #[.slice none 0 0, .slice none 0 0], .agg #[.slice none 0 0, .slice none 0 0], .int .i64 3]) (by simp [results, Tryz.results42, go_sem, *]) rfl ⟨none, 0, none, 0, none, 0, none, 0, by rw [HQ.out]; rfl, by rw [HQ.out]; exact H3⟩
            · have hND := HND.out ho
              rw [hr, hq] at hND
              have HND2 := Lib.hid hND
              clear hND
              obtain ⟨X, hX⟩ : ∃ X, chR s (setB fl p) [(⟨p, fl, r, q, v⟩ : Lf)] = X := ⟨_, rfl⟩
              have HQ := Lib.hid (show stR s rep p fl true v = X by unfold stR stP; rw [if_neg (by simp [ha]), if_neg (by simp [hp, hv2]), if_neg (by simp [hr1, hr2, ho]), if_pos rfl, hr, hq]; exact hX)
              have HX := Lib.hid hX
              have hpl : p.length ≤ 1048576 := by
                have h8 := hp
                unfold pathOk at h8
                simp only [Bool.and_eq_true, decide_eq_true_eq] at h8
                omega
              clear hX
              go_enter Tryz.func42, Tryz.ntmps42
              go_wp2_with fail
              refine (implStateOk s _ _ _ (HS.old h1) (HS.old h2) HW.out hc).mono ?_; rintro e w1 ⟨rfl, hb⟩; (first | have H' := HS.of_below hb | have H' := HS.drew.of_below hb | have H' := (HS.box0 [_] _).of_below hb | have H' := ((HS.box0 [_] _).box0 [_] _).of_below hb | have H' := (HS.alloc _).of_below hb | have H' := ((HS.alloc _).alloc _).of_below hb); clear HS; have HS := H'; clear H'; have F := HS.facts; simp only [Own.Facts, Own.Cells, World.size_alloc, List.cons_append, List.nil_append, List.eraseIdx_cons_succ, List.eraseIdx_cons_zero, List.eraseIdx_zero, List.tail_cons, Nat.zero_add] at F
              rw [ha]
              clear ha
              go_wp2_with fail
              refine (implPathOk p _ _ (HS.old h3) HPW.out).mono ?_; rintro e w2 ⟨rfl, hb⟩; (first | have H' := HS.of_below hb | have H' := HS.drew.of_below hb | have H' := (HS.box0 [_] _).of_below hb | have H' := ((HS.box0 [_] _).box0 [_] _).of_below hb | have H' := (HS.alloc _).of_below hb | have H' := ((HS.alloc _).alloc _).of_below hb); clear HS; have HS := H'; clear H'; have F := HS.facts; simp only [Own.Facts, Own.Cells, World.size_alloc, List.cons_append, List.nil_append, List.eraseIdx_cons_succ, List.eraseIdx_cons_zero, List.eraseIdx_zero, List.tail_cons, Nat.zero_add] at F
              rw [hp]
              clear hp
              go_wp2_with fail
              refine (implNextDot s.c rep _ _ (HS.old h2) hc).mono ?_; rintro e w3 ⟨rfl, hb⟩; (first | have H' := HS.of_below hb | have H' := HS.drew.of_below hb | have H' := (HS.box0 [_] _).of_below hb | have H' := ((HS.box0 [_] _).box0 [_] _).of_below hb | have H' := (HS.alloc _).of_below hb | have H' := ((HS.alloc _).alloc _).of_below hb); clear HS; have HS := H'; clear H'; have F := HS.facts; simp only [Own.Facts, Own.Cells, World.size_alloc, List.cons_append, List.nil_append, List.eraseIdx_cons_succ, List.eraseIdx_cons_zero, List.eraseIdx_zero, List.tail_cons, Nat.zero_add] at F
              rw [ho, hr, hq]
              clear ho hr hq
              have HSd := (HS.box (b := w3.heap.size) [.int .i64 r, .int .i64 q] 55)
              have F1 := HSd.facts
              simp only [Own.Facts, Own.Cells, World.size_alloc, Nat.zero_add, and_true] at F1
              have HS2 := HSd.box (b := w3.heap.size + 1) [.slice A3 p.length c3, .bool fl, .int .i64 r, .int .i64 q, .string v] 57 (by simp only [World.size_alloc])
              have F2 := HS2.facts
              simp only [Own.Facts, Own.Cells, Nat.zero_add, and_true] at F2
              clear F
              have HC0 := Lib.hid HS2
              have F := HS.facts; simp only [Own.Facts, Own.Cells, World.size_alloc, List.cons_append, List.nil_append, List.eraseIdx_cons_succ, List.eraseIdx_cons_zero, List.eraseIdx_zero, List.tail_cons, Nat.zero_add] at F
              have HC := And.intro (box1 (HS2.pick 5 rfl)) (box1 (HS2.pick 4 rfl))
              have hy := box5 HS2
              clear HS F HC0
              have HS := HS2
              clear HS2
              have F := HS.facts; simp only [Own.Facts, Own.Cells, World.size_alloc, List.cons_append, List.nil_append, List.eraseIdx_cons_succ, List.eraseIdx_cons_zero, List.eraseIdx_zero, List.tail_cons, Nat.zero_add] at F
              go_wp2_with fail
              refine (show Calls Tryz.prog 31 _ _ (fun e w' => ∃ A c A2 c2 A3 c3 A4 c4, e = .returned (.tuple #[.agg #[.slice A X.1.l.length c, .slice A2 X.1.c.length c2], .agg #[.slice A3 X.2.1.l.length c3, .slice A4 X.2.1.c.length c4], .int .i64 X.2.2]) ∧
                    Own _ [.own (.slice A X.1.l.length c) X.1.l, .own (.slice A2 X.1.c.length c2) X.1.c, .own (.slice A3 X.2.1.l.length c3) X.2.1.l, .own (.slice A4 X.2.1.c.length c4) X.2.1.c] w') from by
                have h := changeS1 s (setB fl p) (w.heap.size + 1 + 1) (w.heap.size + 1) _ _ _ (HS.old h1) (HS.old h2) HOK.out A3 c3 (w3.heap.size + 1) p fl r q v hy (HS.old h3) hpl HND2.out.1 HND2.out.2 (fun w' hb x vx hx => goneS x fl p vx _ (w.heap.size + 1 + 1) (w.heap.size + 1) w' hx (((Own.start _).of_below hb).old (HS.old h3)) (((bcell hb).1 (w.heap.size + 1 + 1) 0 (World.block_lt_of_cell? _ _ HC.2)).trans HC.2) (((bcell hb).1 (w.heap.size + 1) 0 (World.block_lt_of_cell? _ _ HC.1)).trans HC.1))
                rw [HX.out] at h; exact h).mono ?_
              rintro e w9 ⟨E1, e1, E2, e2, E3, e3, E4, e4, rfl, hs⟩
              replace HS := HS.call hs
              simp only [List.cons_append, List.nil_append] at HS
              clear hs F F1 F2 hy HC HSd
              have F := HS.facts; simp only [Own.Facts, Own.Cells, World.size_alloc, List.cons_append, List.nil_append, List.eraseIdx_cons_succ, List.eraseIdx_cons_zero, List.eraseIdx_zero, List.tail_cons, Nat.zero_add] at F
              go_wp2
              have H2 := (((((HS.pick 7 rfl).set 0 (.slice E1 X.1.l.length e1)).set 1 (.slice E2 X.1.c.length e2)).pick 7 rfl).set 0 (.slice E3 X.2.1.l.length e3)).set 1 (.slice E4 X.2.1.c.length e4)
              have H3 := own_take 4 ((H2.drop.drop))
              exact bodyPost_ret (v := .tuple #[.agg #[.slice E1 X.1.l.length e1, .slice E2 X.1.c.length e2], .agg #[.slice E3 X.2.1.l.length e3, .slice E4 X.2.1.c.length e4], .int .i64 X.2.2]) (by simp [results, Tryz.results42, go_sem, *]) rfl ⟨_, _, _, _, _, _, _, _, by rw [HQ.out], by rw [HQ.out]; exact H3⟩
        · have HQ := Lib.hid (show stR s rep p fl on v = (⟨[], []⟩, ⟨[], []⟩, 3) by unfold stR; rw [if_neg (by simp [ha]), if_neg (by simp [hp, hv2]), if_pos (by simp [hr])])
          have hr3 : rep < 0 ∨ 8 ≤ rep := by omega
          clear hr
          rcases hr3 with hr3 | hr3
          all_goals
            go_enter Tryz.func42, Tryz.ntmps42
            go_wp2_with fail
            refine (implStateOk s _ _ _ (HS.old h1) (HS.old h2) HW.out hc).mono ?_; rintro e w1 ⟨rfl, hb⟩; (first | have H' := HS.of_below hb | have H' := HS.drew.of_below hb | have H' := (HS.box0 [_] _).of_below hb | have H' := ((HS.box0 [_] _).box0 [_] _).of_below hb | have H' := (HS.alloc _).of_below hb | have H' := ((HS.alloc _).alloc _).of_below hb); clear HS; have HS := H'; clear H'; have F := HS.facts; simp only [Own.Facts, Own.Cells, World.size_alloc, List.cons_append, List.nil_append, List.eraseIdx_cons_succ, List.eraseIdx_cons_zero, List.eraseIdx_zero, List.tail_cons, Nat.zero_add] at F
            rw [ha]
            clear ha
            go_wp2_with fail
            refine (implPathOk p _ _ (HS.old h3) HPW.out).mono ?_; rintro e w2 ⟨rfl, hb⟩; (first | have H' := HS.of_below hb | have H' := HS.drew.of_below hb | have H' := (HS.box0 [_] _).of_below hb | have H' := ((HS.box0 [_] _).box0 [_] _).of_below hb | have H' := (HS.alloc _).of_below hb | have H' := ((HS.alloc _).alloc _).of_below hb); clear HS; have HS := H'; clear H'; have F := HS.facts; simp only [Own.Facts, Own.Cells, World.size_alloc, List.cons_append, List.nil_append, List.eraseIdx_cons_succ, List.eraseIdx_cons_zero, List.eraseIdx_zero, List.tail_cons, Nat.zero_add] at F
            rw [hp]
            clear hp
            go_wp2
            have H2 := (((((HS.pick 1 rfl).set 0 (.slice none 0 0)).set 1 (.slice none 0 0)).pick 1 rfl).set 0 (.slice none 0 0)).set 1 (.slice none 0 0)
            have H3 := ((((H2.drop.drop.drop.drop.drop.nil (α := Rn)).nil (α := Lf)).nil (α := Rn)).nil (α := Lf))
            exact bodyPost_ret (v := .tuple #[.agg #[.slice none 0 0, .slice none 0 0], .agg #[.slice none 0 0, .slice none 0 0], .int .i64 3]) (by simp [results, Tryz.results42, go_sem, *]) rfl ⟨none, 0, none, 0, none, 0, none, 0, by rw [HQ.out]; rfl, by rw [HQ.out]; exact H3⟩
      · have HQ := Lib.hid (show stR s rep p fl on v = (⟨[], []⟩, ⟨[], []⟩, 2) by unfold stR; rw [if_neg (by simp [ha]), if_pos (by simp [hv2])])
        go_enter Tryz.func42, Tryz.ntmps42
        go_wp2_with fail
        refine (implStateOk s _ _ _ (HS.old h1) (HS.old h2) HW.out hc).mono ?_; rintro e w1 ⟨rfl, hb⟩; (first | have H' := HS.of_below hb | have H' := HS.drew.of_below hb | have H' := (HS.box0 [_] _).of_below hb | have H' := ((HS.box0 [_] _).box0 [_] _).of_below hb | have H' := (HS.alloc _).of_below hb | have H' := ((HS.alloc _).alloc _).of_below hb); clear HS; have HS := H'; clear H'; have F := HS.facts; simp only [Own.Facts, Own.Cells, World.size_alloc, List.cons_append, List.nil_append, List.eraseIdx_cons_succ, List.eraseIdx_cons_zero, List.eraseIdx_zero, List.tail_cons, Nat.zero_add] at F
        rw [ha]
        clear ha
        go_wp2_with fail
        refine (implPathOk p _ _ (HS.old h3) HPW.out).mono ?_; rintro e w2 ⟨rfl, hb⟩; (first | have H' := HS.of_below hb | have H' := HS.drew.of_below hb | have H' := (HS.box0 [_] _).of_below hb | have H' := ((HS.box0 [_] _).box0 [_] _).of_below hb | have H' := (HS.alloc _).of_below hb | have H' := ((HS.alloc _).alloc _).of_below hb); clear HS; have HS := H'; clear H'; have F := HS.facts; simp only [Own.Facts, Own.Cells, World.size_alloc, List.cons_append, List.nil_append, List.eraseIdx_cons_succ, List.eraseIdx_cons_zero, List.eraseIdx_zero, List.tail_cons, Nat.zero_add] at F
        rw [hp]
        clear hp
        go_wp2
        have H2 := (((((HS.pick 1 rfl).set 0 (.slice none 0 0)).set 1 (.slice none 0 0)).pick 1 rfl).set 0 (.slice none 0 0)).set 1 (.slice none 0 0)
        have H3 := ((((H2.drop.drop.drop.drop.drop.nil (α := Rn)).nil (α := Lf)).nil (α := Rn)).nil (α := Lf))
        exact bodyPost_ret (v := .tuple #[.agg #[.slice none 0 0, .slice none 0 0], .agg #[.slice none 0 0, .slice none 0 0], .int .i64 2]) (by simp [results, Tryz.results42, go_sem, *]) rfl ⟨none, 0, none, 0, none, 0, none, 0, by rw [HQ.out]; rfl, by rw [HQ.out]; exact H3⟩
set_option maxHeartbeats 8000000 in
theorem implSetFlag (s : St) (rep : Int) (p : List ByteArray) (on : Bool) (vl vc vp : Value) (w : World) (h1 : Rd w vl s.l) (h2 : Rd w vc s.c) (h3 : Rd w vp p) (hw : ∀ y ∈ s.l, LfW y) (hc : s.c.length ≤ 1048576) (hpw : ∀ x ∈ p, x.size ≤ 140737488351232) (hrep : -9223372036854775808 ≤ rep ∧ rep ≤ 9223372036854775807) :
    Calls Tryz.prog 18 #[.agg #[vl, vc], .int .i64 rep, vp, .bool on] w fun e w' => ∃ A c A2 c2 A3 c3 A4 c4, e = .returned (.tuple #[.agg #[.slice A (stR s rep p true on ByteArray.empty).1.l.length c, .slice A2 (stR s rep p true on ByteArray.empty).1.c.length c2], .agg #[.slice A3 (stR s rep p true on ByteArray.empty).2.1.l.length c3, .slice A4 (stR s rep p true on ByteArray.empty).2.1.c.length c4], .int .i64 (stR s rep p true on ByteArray.empty).2.2]) ∧
      Own w [.own (.slice A (stR s rep p true on ByteArray.empty).1.l.length c) (stR s rep p true on ByteArray.empty).1.l, .own (.slice A2 (stR s rep p true on ByteArray.empty).1.c.length c2) (stR s rep p true on ByteArray.empty).1.c, .own (.slice A3 (stR s rep p true on ByteArray.empty).2.1.l.length c3) (stR s rep p true on ByteArray.empty).2.1.l, .own (.slice A4 (stR s rep p true on ByteArray.empty).2.1.c.length c4) (stR s rep p true on ByteArray.empty).2.1.c] w' := by
  obtain ⟨A1, c1, rfl, _, _⟩ := h1.val
  obtain ⟨A2, c2, rfl, _, _⟩ := h2.val
  obtain ⟨A3, c3, rfl, _, _⟩ := h3.val
  have HW := Lib.hid hw
  have HPW := Lib.hid hpw
  clear hw hpw
  obtain ⟨X, hX⟩ : ∃ X, stR s rep p true on ByteArray.empty = X := ⟨_, rfl⟩
  rw [hX]
  have HX := Lib.hid hX
  clear hX
  have HS := (((Own.start w).box [.slice A1 s.l.length c1, .slice A2 s.c.length c2] 36).box (b := w.heap.size + 1) [.slice none 0 0, .slice none 0 0] 36).box (b := w.heap.size + 1 + 1) [.slice none 0 0, .slice none 0 0] 36
  go_enter Tryz.func18, Tryz.ntmps18
  go_wp2_with fail
  refine (show Calls Tryz.prog 42 _ _ (fun e w' => ∃ A c A2 c2 A3 c3 A4 c4, e = .returned (.tuple #[.agg #[.slice A X.1.l.length c, .slice A2 X.1.c.length c2], .agg #[.slice A3 X.2.1.l.length c3, .slice A4 X.2.1.c.length c4], .int .i64 X.2.2]) ∧
      Own _ [.own (.slice A X.1.l.length c) X.1.l, .own (.slice A2 X.1.c.length c2) X.1.c, .own (.slice A3 X.2.1.l.length c3) X.2.1.l, .own (.slice A4 X.2.1.c.length c4) X.2.1.c] w') from by
    have h := implSet s rep p true on ByteArray.empty _ _ _ _ (HS.old h1) (HS.old h2) (HS.old h3) HW.out hc HPW.out hrep (by simp)
    rw [HX.out] at h; exact h).mono ?_
  rintro e w9 ⟨E1, e1, E2, e2, E3, e3, E4, e4, rfl, hs⟩
  replace HS := HS.call hs
  simp only [List.cons_append, List.nil_append] at HS
  clear hs
  have F := HS.facts; simp only [Own.Facts, Own.Cells, World.size_alloc, List.cons_append, List.nil_append, List.eraseIdx_cons_succ, List.eraseIdx_cons_zero, List.eraseIdx_zero, List.tail_cons, Nat.zero_add] at F
  go_wp2
  have H2 := (((((HS.pick 5 rfl).set 0 (.slice E1 X.1.l.length e1)).set 1 (.slice E2 X.1.c.length e2)).pick 5 rfl).set 0 (.slice E3 X.2.1.l.length e3)).set 1 (.slice E4 X.2.1.c.length e4)
  have H3 := own_take 4 ((H2.drop.drop))
  exact bodyPost_ret (v := .tuple #[.agg #[.slice E1 X.1.l.length e1, .slice E2 X.1.c.length e2], .agg #[.slice E3 X.2.1.l.length e3, .slice E4 X.2.1.c.length e4], .int .i64 X.2.2]) (by simp [results, Tryz.results18, go_sem, *]) rfl ⟨_, _, _, _, _, _, _, _, rfl, H3⟩
set_option maxHeartbeats 8000000 in
theorem implWriteReg (s : St) (rep : Int) (p : List ByteArray) (v : ByteArray) (vl vc vp : Value) (w : World) (h1 : Rd w vl s.l) (h2 : Rd w vc s.c) (h3 : Rd w vp p) (hw : ∀ y ∈ s.l, LfW y) (hc : s.c.length ≤ 1048576) (hpw : ∀ x ∈ p, x.size ≤ 140737488351232) (hrep : -9223372036854775808 ≤ rep ∧ rep ≤ 9223372036854775807) (hv : v.size ≤ 140737488351232) :
    Calls Tryz.prog 20 #[.agg #[vl, vc], .int .i64 rep, vp, .string v] w fun e w' => ∃ A c A2 c2 A3 c3 A4 c4, e = .returned (.tuple #[.agg #[.slice A (stR s rep p false true v).1.l.length c, .slice A2 (stR s rep p false true v).1.c.length c2], .agg #[.slice A3 (stR s rep p false true v).2.1.l.length c3, .slice A4 (stR s rep p false true v).2.1.c.length c4], .int .i64 (stR s rep p false true v).2.2]) ∧
      Own w [.own (.slice A (stR s rep p false true v).1.l.length c) (stR s rep p false true v).1.l, .own (.slice A2 (stR s rep p false true v).1.c.length c2) (stR s rep p false true v).1.c, .own (.slice A3 (stR s rep p false true v).2.1.l.length c3) (stR s rep p false true v).2.1.l, .own (.slice A4 (stR s rep p false true v).2.1.c.length c4) (stR s rep p false true v).2.1.c] w' := by
  obtain ⟨A1, c1, rfl, _, _⟩ := h1.val
  obtain ⟨A2, c2, rfl, _, _⟩ := h2.val
  obtain ⟨A3, c3, rfl, _, _⟩ := h3.val
  have HW := Lib.hid hw
  have HPW := Lib.hid hpw
  clear hw hpw
  obtain ⟨X, hX⟩ : ∃ X, stR s rep p false true v = X := ⟨_, rfl⟩
  rw [hX]
  have HX := Lib.hid hX
  clear hX
  have HS := (((Own.start w).box [.slice A1 s.l.length c1, .slice A2 s.c.length c2] 36).box (b := w.heap.size + 1) [.slice none 0 0, .slice none 0 0] 36).box (b := w.heap.size + 1 + 1) [.slice none 0 0, .slice none 0 0] 36
  go_enter Tryz.func20, Tryz.ntmps20
  go_wp2_with fail
  refine (show Calls Tryz.prog 42 _ _ (fun e w' => ∃ A c A2 c2 A3 c3 A4 c4, e = .returned (.tuple #[.agg #[.slice A X.1.l.length c, .slice A2 X.1.c.length c2], .agg #[.slice A3 X.2.1.l.length c3, .slice A4 X.2.1.c.length c4], .int .i64 X.2.2]) ∧
      Own _ [.own (.slice A X.1.l.length c) X.1.l, .own (.slice A2 X.1.c.length c2) X.1.c, .own (.slice A3 X.2.1.l.length c3) X.2.1.l, .own (.slice A4 X.2.1.c.length c4) X.2.1.c] w') from by
    have h := implSet s rep p false true v _ _ _ _ (HS.old h1) (HS.old h2) (HS.old h3) HW.out hc HPW.out hrep hv
    rw [HX.out] at h; exact h).mono ?_
  rintro e w9 ⟨E1, e1, E2, e2, E3, e3, E4, e4, rfl, hs⟩
  replace HS := HS.call hs
  simp only [List.cons_append, List.nil_append] at HS
  clear hs
  have F := HS.facts; simp only [Own.Facts, Own.Cells, World.size_alloc, List.cons_append, List.nil_append, List.eraseIdx_cons_succ, List.eraseIdx_cons_zero, List.eraseIdx_zero, List.tail_cons, Nat.zero_add] at F
  go_wp2
  have H2 := (((((HS.pick 5 rfl).set 0 (.slice E1 X.1.l.length e1)).set 1 (.slice E2 X.1.c.length e2)).pick 5 rfl).set 0 (.slice E3 X.2.1.l.length e3)).set 1 (.slice E4 X.2.1.c.length e4)
  have H3 := own_take 4 ((H2.drop.drop))
  exact bodyPost_ret (v := .tuple #[.agg #[.slice E1 X.1.l.length e1, .slice E2 X.1.c.length e2], .agg #[.slice E3 X.2.1.l.length e3, .slice E4 X.2.1.c.length e4], .int .i64 X.2.2]) (by simp [results, Tryz.results20, go_sem, *]) rfl ⟨_, _, _, _, _, _, _, _, rfl, H3⟩

end Go.Proofs.YtkafflbakgkpcaaGreat
