/- FnExactAtMost: for every two states the law returns true, and both read behind the call as they read before. No condition. -/
import Derived.Test.YtohgelmkagcimaaGreatRows
import Derived.Test.YtohgelmkagcimaaGreatAl
import Derived.Test.YtohgelmkagcimaaGreatLw
namespace Go.Proofs.YtohgelmkagcimaaGreat
set_option linter.unusedSimpArgs false
set_option linter.unusedVariables false
open Go.RowKit Go.Ow
attribute [local irreducible] wpQuiet
set_option maxRecDepth 100000
theorem am2 {f : FuncId} {args : Array Value} {w : World} {a b : St} {ok : Bool} (h1 : amB a b = ok) (h : Calls Tryz.prog f args w fun e w' => e = .returned (.bool (amB a b)) ∧ Below w.heap.size w w') : Calls Tryz.prog f args w fun e w' => e = .returned (.bool ok) ∧ Below w.heap.size w w' := by
  rw [h1] at h; exact h
set_option maxHeartbeats 32000000 in
theorem lawAtMost (a : St) (va ua : Value) (b : St) (vb ub : Value) (w : World) (hla : Rd w va a.l) (hca : Rd w ua a.c) (hwa : ∀ y ∈ a.l, LfW y) (hlb : Rd w vb b.l) (hcb : Rd w ub b.c) (hwb : ∀ y ∈ b.l, LfW y) : Calls Tryz.prog 4 #[.agg #[va, ua], .agg #[vb, ub]] w fun e w' => e = .returned (.bool true) ∧ Below w.heap.size w w' := by
  obtain ⟨Aa, ca, rfl, _, _⟩ := hla.val
  obtain ⟨Ba, da, rfl, _, _⟩ := hca.val
  have HWa := Lib.hid hwa
  clear hwa
  obtain ⟨Ab, cb, rfl, _, _⟩ := hlb.val
  obtain ⟨Bb, db, rfl, _, _⟩ := hcb.val
  have HWb := Lib.hid hwb
  clear hwb
  obtain ⟨ok, hEok⟩ : ∃ x, amB a b = x := ⟨_, rfl⟩
  have HT := Lib.hid hEok
  clear hEok
  have HS := (((Own.start w).box (b := w.heap.size) [.slice Aa a.l.length ca, .slice Ba a.c.length da] 27).box (b := w.heap.size + 1) [.slice Ab b.l.length cb, .slice Bb b.c.length db] 27)
  go_enter Tryz.func4, Tryz.ntmps4
  go_wp2_with fail
  refine (szState a _ _ 1048576 _ (HS.old hla) (HS.old hca) HWa.out (by omega) (by omega)).mono ?_; rintro e w1 ⟨⟨qa, rfl, hqa1, hqa2, hqa3⟩, hb⟩; (first | have H' := HS.of_below hb | have H' := HS.drew.of_below hb | have H' := (HS.box0 [_] _).of_below hb | have H' := ((HS.box0 [_] _).box0 [_] _).of_below hb | have H' := (HS.alloc _).of_below hb | have H' := ((HS.alloc _).alloc _).of_below hb); clear HS; have HS := H'; clear H'; have F := HS.facts; simp only [Own.Facts, Own.Cells, World.size_alloc, List.cons_append, List.nil_append, List.eraseIdx_cons_succ, List.eraseIdx_cons_zero, List.eraseIdx_zero, List.tail_cons, Nat.zero_add] at F
  have HQa := Lib.hid hqa3
  clear hqa3
  by_cases hqa : qa < 0
  · go_wp2
    go_ret
    exact ⟨rfl, HS.below⟩
  · skip
    go_wp2_with fail
    refine (szState b _ _ qa _ (HS.old hlb) (HS.old hcb) HWb.out (by omega) (by omega)).mono ?_; rintro e w2 ⟨⟨qb, rfl, hqb1, hqb2, hqb3⟩, hb⟩; (first | have H' := HS.of_below hb | have H' := HS.drew.of_below hb | have H' := (HS.box0 [_] _).of_below hb | have H' := ((HS.box0 [_] _).box0 [_] _).of_below hb | have H' := (HS.alloc _).of_below hb | have H' := ((HS.alloc _).alloc _).of_below hb); clear HS; have HS := H'; clear H'; have F := HS.facts; simp only [Own.Facts, Own.Cells, World.size_alloc, List.cons_append, List.nil_append, List.eraseIdx_cons_succ, List.eraseIdx_cons_zero, List.eraseIdx_zero, List.tail_cons, Nat.zero_add] at F
    have HQb := Lib.hid hqb3
    clear hqb3
    by_cases hqb : qb < 0
    · go_wp2
      go_ret
      exact ⟨rfl, HS.below⟩
    · skip
      have HNa := Lib.hid (show a.l.length ≤ 1048576 ∧ (∀ y ∈ a.l, y.p.length ≤ 1048576) ∧ a.c.length ≤ 1048576 by
        obtain ⟨h1, h2, h3⟩ := HQa.out (by omega)
        exact ⟨by omega, fun y hy => by have := h2 y hy; omega, by omega⟩)
      have hma := msz_bound HNa.out
      have HNb := Lib.hid (show b.l.length ≤ 1048576 ∧ (∀ y ∈ b.l, y.p.length ≤ 1048576) ∧ b.c.length ≤ 1048576 by
        obtain ⟨h1, h2, h3⟩ := HQb.out (by omega)
        exact ⟨by omega, fun y hy => by have := h2 y hy; omega, by omega⟩)
      have hmb := msz_bound HNb.out
      go_upto_region 8 with fail
      go_cut [6] (fun s6 wx => s6 = .bool ok ∧ Own w [.box (w.heap.size + 1) 27 [.slice Ab b.l.length cb, .slice Bb b.c.length db], .box (w.heap.size) 27 [.slice Aa a.l.length ca, .slice Ba a.c.length da]] wx)
      case first =>
        first | (go_region_held3 (fun w' => w'.cell? ⟨w.heap.size, 0, none⟩ = some (.slice Aa a.l.length ca) ∧ w'.cell? ⟨w.heap.size, 1, none⟩ = some (.slice Ba a.c.length da) ∧ w'.cell? ⟨w.heap.size + 1, 0, none⟩ = some (.slice Ab b.l.length cb) ∧ w'.cell? ⟨w.heap.size + 1, 1, none⟩ = some (.slice Bb b.c.length db)) (first | go_keep) (first | (go_at_call 22; refine (toState a _ _ _ (by first | exact HS.old hla | exact HS.drew.old hla) (by first | exact HS.old hca | exact HS.drew.old hca) HNa.out.1 HNa.out.2.1 HNa.out.2.2).mono ?_; rintro e w1 ⟨ta1, ta2, rfl, hs⟩; obtain ⟨Ta1, xa1, rfl, _, _⟩ := (hs.rd 0 rfl).val; obtain ⟨Ta2, xa2, rfl, _, _⟩ := (hs.rd 1 rfl).val; (first | have H' := HS.call hs | have H' := HS.drew.call hs | have H' := (HS.box0 [_] _).call hs | have H' := ((HS.box0 [_] _).box0 [_] _).call hs | have H' := (HS.box0 [_] _).drew.call hs | have H' := (HS.alloc _).call hs | have H' := ((HS.alloc _).alloc _).call hs | have H' := (HS.alloc _).drew.call hs); clear HS; have HS := H'; clear H'; have F := HS.facts; simp only [Own.Facts, Own.Cells, World.size_alloc, List.cons_append, List.nil_append, List.eraseIdx_cons_succ, List.eraseIdx_cons_zero, List.eraseIdx_zero, List.tail_cons, Nat.zero_add] at F; try (skip)) | (go_at_call 22; refine (toState b _ _ _ (by first | exact HS.old hlb | exact HS.drew.old hlb) (by first | exact HS.old hcb | exact HS.drew.old hcb) HNb.out.1 HNb.out.2.1 HNb.out.2.2).mono ?_; rintro e w1 ⟨tb1, tb2, rfl, hs⟩; obtain ⟨Tb1, xb1, rfl, _, _⟩ := (hs.rd 0 rfl).val; obtain ⟨Tb2, xb2, rfl, _, _⟩ := (hs.rd 1 rfl).val; (first | have H' := HS.call hs | have H' := HS.drew.call hs | have H' := (HS.box0 [_] _).call hs | have H' := ((HS.box0 [_] _).box0 [_] _).call hs | have H' := (HS.box0 [_] _).drew.call hs | have H' := (HS.alloc _).call hs | have H' := ((HS.alloc _).alloc _).call hs | have H' := (HS.alloc _).drew.call hs); clear HS; have HS := H'; clear H'; have F := HS.facts; simp only [Own.Facts, Own.Cells, World.size_alloc, List.cons_append, List.nil_append, List.eraseIdx_cons_succ, List.eraseIdx_cons_zero, List.eraseIdx_zero, List.tail_cons, Nat.zero_add] at F; try (skip)) | (go_at_call 21; refine (am2 HT.out (specAtMost a b _ _ _ _ _ (by first | exact HS.rd 0 rfl | exact HS.rd 1 rfl | exact HS.rd 2 rfl | exact HS.rd 3 rfl | exact HS.rd 4 rfl) (by first | exact HS.rd 0 rfl | exact HS.rd 1 rfl | exact HS.rd 2 rfl | exact HS.rd 3 rfl | exact HS.rd 4 rfl) (by first | exact HS.rd 0 rfl | exact HS.rd 1 rfl | exact HS.rd 2 rfl | exact HS.rd 3 rfl | exact HS.rd 4 rfl) (by first | exact HS.rd 0 rfl | exact HS.rd 1 rfl | exact HS.rd 2 rfl | exact HS.rd 3 rfl | exact HS.rd 4 rfl) HWa.out HWb.out)).mono ?_; rintro e w1 ⟨rfl, hb⟩; (first | have H' := HS.of_below hb | have H' := HS.drew.of_below hb | have H' := (HS.box0 [_] _).of_below hb | have H' := ((HS.box0 [_] _).box0 [_] _).of_below hb | have H' := (HS.box0 [_] _).drew.of_below hb | have H' := (HS.alloc _).of_below hb | have H' := ((HS.alloc _).alloc _).of_below hb | have H' := (HS.alloc _).drew.of_below hb); clear HS; have HS := H'; clear H'; have F := HS.facts; simp only [Own.Facts, Own.Cells, World.size_alloc, List.cons_append, List.nil_append, List.eraseIdx_cons_succ, List.eraseIdx_cons_zero, List.eraseIdx_zero, List.tail_cons, Nat.zero_add] at F))) | fail
        all_goals
          try simp only [List.cons_append, List.nil_append, World.size_alloc] at HS
          go_wp2_with fail
          go_meet
        all_goals
          refine ⟨rfl, ?_⟩
        · refine meetK HS ?_
          intro HM
          try simp only [World.size_alloc, size_set, List.eraseIdx_cons_succ, List.eraseIdx_cons_zero, List.cons_append, List.nil_append, List.set_cons_zero, List.set_cons_succ] at HM
          replace HM := HM.pick 5 rfl
          replace HM := HM.pick 5 rfl
          try simp only [List.eraseIdx_cons_succ, List.eraseIdx_cons_zero] at HM
          exact own_take 2 HM
      case rest =>
        clear HS F
        obtain ⟨rfl, HS⟩ := hcut
        have F := HS.facts; simp only [Own.Facts, Own.Cells, World.size_alloc, List.cons_append, List.nil_append, List.eraseIdx_cons_succ, List.eraseIdx_cons_zero, List.eraseIdx_zero, List.tail_cons, Nat.zero_add] at F
        go_wp2_with fail
        refine (toState a _ _ _ (HS.old hla) (HS.old hca) HNa.out.1 HNa.out.2.1 HNa.out.2.2).mono ?_
        rintro e w3 ⟨t1, t2, rfl, hs⟩
        obtain ⟨Xa1, ya1, rfl, _, _⟩ := (hs.rd 0 rfl).val
        obtain ⟨Xa2, ya2, rfl, _, _⟩ := (hs.rd 1 rfl).val
        replace HS := HS.call hs
        simp only [List.cons_append, List.nil_append] at HS
        replace HS := HS.box (b := w3.heap.size) [.slice Xa1 a.l.length ya1, .slice Xa2 a.c.length ya2] 36
        clear hs F
        have F := HS.facts; simp only [Own.Facts, Own.Cells, World.size_alloc, List.cons_append, List.nil_append, List.eraseIdx_cons_succ, List.eraseIdx_cons_zero, List.eraseIdx_zero, List.tail_cons, Nat.zero_add] at F
        go_wp2_with fail
        refine (toState b _ _ _ (HS.old hlb) (HS.old hcb) HNb.out.1 HNb.out.2.1 HNb.out.2.2).mono ?_
        rintro e w4 ⟨t1, t2, rfl, hs⟩
        obtain ⟨Xb1, yb1, rfl, _, _⟩ := (hs.rd 0 rfl).val
        obtain ⟨Xb2, yb2, rfl, _, _⟩ := (hs.rd 1 rfl).val
        replace HS := HS.call hs
        simp only [List.cons_append, List.nil_append] at HS
        replace HS := HS.box (b := w4.heap.size) [.slice Xb1 b.l.length yb1, .slice Xb2 b.c.length yb2] 36
        clear hs F
        have F := HS.facts; simp only [Own.Facts, Own.Cells, World.size_alloc, List.cons_append, List.nil_append, List.eraseIdx_cons_succ, List.eraseIdx_cons_zero, List.eraseIdx_zero, List.tail_cons, Nat.zero_add] at F
        go_wp2_with fail
        refine (am2 HT.out (implAtMost a b _ _ _ _ _ (HS.rd 4 rfl) (HS.rd 5 rfl) (HS.rd 1 rfl) (HS.rd 2 rfl) HWa.out HWb.out HNa.out.2.2 HNb.out.2.2)).mono ?_; rintro e w5 ⟨rfl, hb⟩; (first | have H' := HS.of_below hb | have H' := HS.drew.of_below hb | have H' := (HS.box0 [_] _).of_below hb | have H' := ((HS.box0 [_] _).box0 [_] _).of_below hb | have H' := (HS.alloc _).of_below hb | have H' := ((HS.alloc _).alloc _).of_below hb); clear HS; have HS := H'; clear H'; have F := HS.facts; simp only [Own.Facts, Own.Cells, World.size_alloc, List.cons_append, List.nil_append, List.eraseIdx_cons_succ, List.eraseIdx_cons_zero, List.eraseIdx_zero, List.tail_cons, Nat.zero_add] at F
        have hdaa : decide (a = a) = true := by simp
        have hdab : decide (b = b) = true := by simp
        go_wp2
        first | (go_region_held3 (fun w' => (w'.cell? ⟨w3.heap.size, 0, none⟩ = some (.slice Xa1 a.l.length ya1) ∧ w'.cell? ⟨w3.heap.size, 1, none⟩ = some (.slice Xa2 a.c.length ya2)) ∧ w'.cell? ⟨w.heap.size, 0, none⟩ = some (.slice Aa a.l.length ca) ∧ w'.cell? ⟨w.heap.size, 1, none⟩ = some (.slice Ba a.c.length da)) (first | go_keep) (first | (go_at_call 22; refine (toState a _ _ _ (by first | exact HS.old hla | exact HS.drew.old hla) (by first | exact HS.old hca | exact HS.drew.old hca) HNa.out.1 HNa.out.2.1 HNa.out.2.2).mono ?_; rintro e w1 ⟨ta1, ta2, rfl, hs⟩; obtain ⟨Ta1, xa1, rfl, _, _⟩ := (hs.rd 0 rfl).val; obtain ⟨Ta2, xa2, rfl, _, _⟩ := (hs.rd 1 rfl).val; (first | have H' := HS.call hs | have H' := HS.drew.call hs | have H' := (HS.box0 [_] _).call hs | have H' := ((HS.box0 [_] _).box0 [_] _).call hs | have H' := (HS.box0 [_] _).drew.call hs | have H' := (HS.alloc _).call hs | have H' := ((HS.alloc _).alloc _).call hs | have H' := (HS.alloc _).drew.call hs); clear HS; have HS := H'; clear H'; have F := HS.facts; simp only [Own.Facts, Own.Cells, World.size_alloc, List.cons_append, List.nil_append, List.eraseIdx_cons_succ, List.eraseIdx_cons_zero, List.eraseIdx_zero, List.tail_cons, Nat.zero_add] at F) | (go_at_call 24; refine (eqState a a _ _ _ _ _ (by first | exact HS.rd 0 rfl | exact HS.rd 1 rfl | exact HS.rd 2 rfl | exact HS.rd 3 rfl | exact HS.rd 4 rfl | exact HS.rd 5 rfl | exact HS.rd 6 rfl | exact HS.rd 7 rfl | exact HS.rd 8 rfl | exact HS.rd 9 rfl | exact HS.rd 10 rfl | exact HS.rd 11 rfl | exact HS.rd 12 rfl | exact HS.rd 13 rfl | exact HS.rd 14 rfl | exact HS.rd 15 rfl | exact HS.rd 16 rfl | exact HS.rd 17 rfl | exact HS.rd 18 rfl | exact HS.rd 19 rfl | exact HS.rd 20 rfl | exact HS.rd 21 rfl | exact HS.rd 22 rfl | exact HS.rd 23 rfl | exact HS.drew.rd 0 rfl | exact HS.drew.rd 1 rfl | exact HS.drew.rd 2 rfl | exact HS.drew.rd 3 rfl | exact HS.drew.rd 4 rfl | exact HS.drew.rd 5 rfl | exact HS.drew.rd 6 rfl | exact HS.drew.rd 7 rfl | exact HS.drew.rd 8 rfl | exact HS.drew.rd 9 rfl | exact HS.drew.rd 10 rfl | exact HS.drew.rd 11 rfl | exact HS.drew.rd 12 rfl | exact HS.drew.rd 13 rfl | exact HS.drew.rd 14 rfl | exact HS.drew.rd 15 rfl | exact HS.drew.rd 16 rfl | exact HS.drew.rd 17 rfl | exact HS.drew.rd 18 rfl | exact HS.drew.rd 19 rfl | exact HS.drew.rd 20 rfl | exact HS.drew.rd 21 rfl | exact HS.drew.rd 22 rfl | exact HS.drew.rd 23 rfl) (by first | exact HS.rd 0 rfl | exact HS.rd 1 rfl | exact HS.rd 2 rfl | exact HS.rd 3 rfl | exact HS.rd 4 rfl | exact HS.rd 5 rfl | exact HS.rd 6 rfl | exact HS.rd 7 rfl | exact HS.rd 8 rfl | exact HS.rd 9 rfl | exact HS.rd 10 rfl | exact HS.rd 11 rfl | exact HS.rd 12 rfl | exact HS.rd 13 rfl | exact HS.rd 14 rfl | exact HS.rd 15 rfl | exact HS.rd 16 rfl | exact HS.rd 17 rfl | exact HS.rd 18 rfl | exact HS.rd 19 rfl | exact HS.rd 20 rfl | exact HS.rd 21 rfl | exact HS.rd 22 rfl | exact HS.rd 23 rfl | exact HS.drew.rd 0 rfl | exact HS.drew.rd 1 rfl | exact HS.drew.rd 2 rfl | exact HS.drew.rd 3 rfl | exact HS.drew.rd 4 rfl | exact HS.drew.rd 5 rfl | exact HS.drew.rd 6 rfl | exact HS.drew.rd 7 rfl | exact HS.drew.rd 8 rfl | exact HS.drew.rd 9 rfl | exact HS.drew.rd 10 rfl | exact HS.drew.rd 11 rfl | exact HS.drew.rd 12 rfl | exact HS.drew.rd 13 rfl | exact HS.drew.rd 14 rfl | exact HS.drew.rd 15 rfl | exact HS.drew.rd 16 rfl | exact HS.drew.rd 17 rfl | exact HS.drew.rd 18 rfl | exact HS.drew.rd 19 rfl | exact HS.drew.rd 20 rfl | exact HS.drew.rd 21 rfl | exact HS.drew.rd 22 rfl | exact HS.drew.rd 23 rfl) (by first | exact HS.rd 0 rfl | exact HS.rd 1 rfl | exact HS.rd 2 rfl | exact HS.rd 3 rfl | exact HS.rd 4 rfl | exact HS.rd 5 rfl | exact HS.rd 6 rfl | exact HS.rd 7 rfl | exact HS.rd 8 rfl | exact HS.rd 9 rfl | exact HS.rd 10 rfl | exact HS.rd 11 rfl | exact HS.rd 12 rfl | exact HS.rd 13 rfl | exact HS.rd 14 rfl | exact HS.rd 15 rfl | exact HS.rd 16 rfl | exact HS.rd 17 rfl | exact HS.rd 18 rfl | exact HS.rd 19 rfl | exact HS.rd 20 rfl | exact HS.rd 21 rfl | exact HS.rd 22 rfl | exact HS.rd 23 rfl | exact HS.drew.rd 0 rfl | exact HS.drew.rd 1 rfl | exact HS.drew.rd 2 rfl | exact HS.drew.rd 3 rfl | exact HS.drew.rd 4 rfl | exact HS.drew.rd 5 rfl | exact HS.drew.rd 6 rfl | exact HS.drew.rd 7 rfl | exact HS.drew.rd 8 rfl | exact HS.drew.rd 9 rfl | exact HS.drew.rd 10 rfl | exact HS.drew.rd 11 rfl | exact HS.drew.rd 12 rfl | exact HS.drew.rd 13 rfl | exact HS.drew.rd 14 rfl | exact HS.drew.rd 15 rfl | exact HS.drew.rd 16 rfl | exact HS.drew.rd 17 rfl | exact HS.drew.rd 18 rfl | exact HS.drew.rd 19 rfl | exact HS.drew.rd 20 rfl | exact HS.drew.rd 21 rfl | exact HS.drew.rd 22 rfl | exact HS.drew.rd 23 rfl) (by first | exact HS.rd 0 rfl | exact HS.rd 1 rfl | exact HS.rd 2 rfl | exact HS.rd 3 rfl | exact HS.rd 4 rfl | exact HS.rd 5 rfl | exact HS.rd 6 rfl | exact HS.rd 7 rfl | exact HS.rd 8 rfl | exact HS.rd 9 rfl | exact HS.rd 10 rfl | exact HS.rd 11 rfl | exact HS.rd 12 rfl | exact HS.rd 13 rfl | exact HS.rd 14 rfl | exact HS.rd 15 rfl | exact HS.rd 16 rfl | exact HS.rd 17 rfl | exact HS.rd 18 rfl | exact HS.rd 19 rfl | exact HS.rd 20 rfl | exact HS.rd 21 rfl | exact HS.rd 22 rfl | exact HS.rd 23 rfl | exact HS.drew.rd 0 rfl | exact HS.drew.rd 1 rfl | exact HS.drew.rd 2 rfl | exact HS.drew.rd 3 rfl | exact HS.drew.rd 4 rfl | exact HS.drew.rd 5 rfl | exact HS.drew.rd 6 rfl | exact HS.drew.rd 7 rfl | exact HS.drew.rd 8 rfl | exact HS.drew.rd 9 rfl | exact HS.drew.rd 10 rfl | exact HS.drew.rd 11 rfl | exact HS.drew.rd 12 rfl | exact HS.drew.rd 13 rfl | exact HS.drew.rd 14 rfl | exact HS.drew.rd 15 rfl | exact HS.drew.rd 16 rfl | exact HS.drew.rd 17 rfl | exact HS.drew.rd 18 rfl | exact HS.drew.rd 19 rfl | exact HS.drew.rd 20 rfl | exact HS.drew.rd 21 rfl | exact HS.drew.rd 22 rfl | exact HS.drew.rd 23 rfl)).mono ?_; rintro e w1 ⟨rfl, hb⟩; (first | have H' := HS.of_below hb | have H' := HS.drew.of_below hb | have H' := (HS.box0 [_] _).of_below hb | have H' := ((HS.box0 [_] _).box0 [_] _).of_below hb | have H' := (HS.box0 [_] _).drew.of_below hb | have H' := (HS.alloc _).of_below hb | have H' := ((HS.alloc _).alloc _).of_below hb | have H' := (HS.alloc _).drew.of_below hb); clear HS; have HS := H'; clear H'; have F := HS.facts; simp only [Own.Facts, Own.Cells, World.size_alloc, List.cons_append, List.nil_append, List.eraseIdx_cons_succ, List.eraseIdx_cons_zero, List.eraseIdx_zero, List.tail_cons, Nat.zero_add] at F))) | fail
        try simp only [List.cons_append, List.nil_append] at HS
        go_wp2
        first | (go_region_held3 (fun w' => (w'.cell? ⟨w4.heap.size, 0, none⟩ = some (.slice Xb1 b.l.length yb1) ∧ w'.cell? ⟨w4.heap.size, 1, none⟩ = some (.slice Xb2 b.c.length yb2)) ∧ w'.cell? ⟨w.heap.size + 1, 0, none⟩ = some (.slice Ab b.l.length cb) ∧ w'.cell? ⟨w.heap.size + 1, 1, none⟩ = some (.slice Bb b.c.length db)) (first | go_keep) (first | (go_at_call 22; refine (toState b _ _ _ (by first | exact HS.old hlb | exact HS.drew.old hlb) (by first | exact HS.old hcb | exact HS.drew.old hcb) HNb.out.1 HNb.out.2.1 HNb.out.2.2).mono ?_; rintro e w1 ⟨tb1, tb2, rfl, hs⟩; obtain ⟨Tb1, xb1, rfl, _, _⟩ := (hs.rd 0 rfl).val; obtain ⟨Tb2, xb2, rfl, _, _⟩ := (hs.rd 1 rfl).val; (first | have H' := HS.call hs | have H' := HS.drew.call hs | have H' := (HS.box0 [_] _).call hs | have H' := ((HS.box0 [_] _).box0 [_] _).call hs | have H' := (HS.box0 [_] _).drew.call hs | have H' := (HS.alloc _).call hs | have H' := ((HS.alloc _).alloc _).call hs | have H' := (HS.alloc _).drew.call hs); clear HS; have HS := H'; clear H'; have F := HS.facts; simp only [Own.Facts, Own.Cells, World.size_alloc, List.cons_append, List.nil_append, List.eraseIdx_cons_succ, List.eraseIdx_cons_zero, List.eraseIdx_zero, List.tail_cons, Nat.zero_add] at F) | (go_at_call 24; refine (eqState b b _ _ _ _ _ (by first | exact HS.rd 0 rfl | exact HS.rd 1 rfl | exact HS.rd 2 rfl | exact HS.rd 3 rfl | exact HS.rd 4 rfl | exact HS.rd 5 rfl | exact HS.rd 6 rfl | exact HS.rd 7 rfl | exact HS.rd 8 rfl | exact HS.rd 9 rfl | exact HS.rd 10 rfl | exact HS.rd 11 rfl | exact HS.rd 12 rfl | exact HS.rd 13 rfl | exact HS.rd 14 rfl | exact HS.rd 15 rfl | exact HS.rd 16 rfl | exact HS.rd 17 rfl | exact HS.rd 18 rfl | exact HS.rd 19 rfl | exact HS.rd 20 rfl | exact HS.rd 21 rfl | exact HS.rd 22 rfl | exact HS.rd 23 rfl | exact HS.drew.rd 0 rfl | exact HS.drew.rd 1 rfl | exact HS.drew.rd 2 rfl | exact HS.drew.rd 3 rfl | exact HS.drew.rd 4 rfl | exact HS.drew.rd 5 rfl | exact HS.drew.rd 6 rfl | exact HS.drew.rd 7 rfl | exact HS.drew.rd 8 rfl | exact HS.drew.rd 9 rfl | exact HS.drew.rd 10 rfl | exact HS.drew.rd 11 rfl | exact HS.drew.rd 12 rfl | exact HS.drew.rd 13 rfl | exact HS.drew.rd 14 rfl | exact HS.drew.rd 15 rfl | exact HS.drew.rd 16 rfl | exact HS.drew.rd 17 rfl | exact HS.drew.rd 18 rfl | exact HS.drew.rd 19 rfl | exact HS.drew.rd 20 rfl | exact HS.drew.rd 21 rfl | exact HS.drew.rd 22 rfl | exact HS.drew.rd 23 rfl) (by first | exact HS.rd 0 rfl | exact HS.rd 1 rfl | exact HS.rd 2 rfl | exact HS.rd 3 rfl | exact HS.rd 4 rfl | exact HS.rd 5 rfl | exact HS.rd 6 rfl | exact HS.rd 7 rfl | exact HS.rd 8 rfl | exact HS.rd 9 rfl | exact HS.rd 10 rfl | exact HS.rd 11 rfl | exact HS.rd 12 rfl | exact HS.rd 13 rfl | exact HS.rd 14 rfl | exact HS.rd 15 rfl | exact HS.rd 16 rfl | exact HS.rd 17 rfl | exact HS.rd 18 rfl | exact HS.rd 19 rfl | exact HS.rd 20 rfl | exact HS.rd 21 rfl | exact HS.rd 22 rfl | exact HS.rd 23 rfl | exact HS.drew.rd 0 rfl | exact HS.drew.rd 1 rfl | exact HS.drew.rd 2 rfl | exact HS.drew.rd 3 rfl | exact HS.drew.rd 4 rfl | exact HS.drew.rd 5 rfl | exact HS.drew.rd 6 rfl | exact HS.drew.rd 7 rfl | exact HS.drew.rd 8 rfl | exact HS.drew.rd 9 rfl | exact HS.drew.rd 10 rfl | exact HS.drew.rd 11 rfl | exact HS.drew.rd 12 rfl | exact HS.drew.rd 13 rfl | exact HS.drew.rd 14 rfl | exact HS.drew.rd 15 rfl | exact HS.drew.rd 16 rfl | exact HS.drew.rd 17 rfl | exact HS.drew.rd 18 rfl | exact HS.drew.rd 19 rfl | exact HS.drew.rd 20 rfl | exact HS.drew.rd 21 rfl | exact HS.drew.rd 22 rfl | exact HS.drew.rd 23 rfl) (by first | exact HS.rd 0 rfl | exact HS.rd 1 rfl | exact HS.rd 2 rfl | exact HS.rd 3 rfl | exact HS.rd 4 rfl | exact HS.rd 5 rfl | exact HS.rd 6 rfl | exact HS.rd 7 rfl | exact HS.rd 8 rfl | exact HS.rd 9 rfl | exact HS.rd 10 rfl | exact HS.rd 11 rfl | exact HS.rd 12 rfl | exact HS.rd 13 rfl | exact HS.rd 14 rfl | exact HS.rd 15 rfl | exact HS.rd 16 rfl | exact HS.rd 17 rfl | exact HS.rd 18 rfl | exact HS.rd 19 rfl | exact HS.rd 20 rfl | exact HS.rd 21 rfl | exact HS.rd 22 rfl | exact HS.rd 23 rfl | exact HS.drew.rd 0 rfl | exact HS.drew.rd 1 rfl | exact HS.drew.rd 2 rfl | exact HS.drew.rd 3 rfl | exact HS.drew.rd 4 rfl | exact HS.drew.rd 5 rfl | exact HS.drew.rd 6 rfl | exact HS.drew.rd 7 rfl | exact HS.drew.rd 8 rfl | exact HS.drew.rd 9 rfl | exact HS.drew.rd 10 rfl | exact HS.drew.rd 11 rfl | exact HS.drew.rd 12 rfl | exact HS.drew.rd 13 rfl | exact HS.drew.rd 14 rfl | exact HS.drew.rd 15 rfl | exact HS.drew.rd 16 rfl | exact HS.drew.rd 17 rfl | exact HS.drew.rd 18 rfl | exact HS.drew.rd 19 rfl | exact HS.drew.rd 20 rfl | exact HS.drew.rd 21 rfl | exact HS.drew.rd 22 rfl | exact HS.drew.rd 23 rfl) (by first | exact HS.rd 0 rfl | exact HS.rd 1 rfl | exact HS.rd 2 rfl | exact HS.rd 3 rfl | exact HS.rd 4 rfl | exact HS.rd 5 rfl | exact HS.rd 6 rfl | exact HS.rd 7 rfl | exact HS.rd 8 rfl | exact HS.rd 9 rfl | exact HS.rd 10 rfl | exact HS.rd 11 rfl | exact HS.rd 12 rfl | exact HS.rd 13 rfl | exact HS.rd 14 rfl | exact HS.rd 15 rfl | exact HS.rd 16 rfl | exact HS.rd 17 rfl | exact HS.rd 18 rfl | exact HS.rd 19 rfl | exact HS.rd 20 rfl | exact HS.rd 21 rfl | exact HS.rd 22 rfl | exact HS.rd 23 rfl | exact HS.drew.rd 0 rfl | exact HS.drew.rd 1 rfl | exact HS.drew.rd 2 rfl | exact HS.drew.rd 3 rfl | exact HS.drew.rd 4 rfl | exact HS.drew.rd 5 rfl | exact HS.drew.rd 6 rfl | exact HS.drew.rd 7 rfl | exact HS.drew.rd 8 rfl | exact HS.drew.rd 9 rfl | exact HS.drew.rd 10 rfl | exact HS.drew.rd 11 rfl | exact HS.drew.rd 12 rfl | exact HS.drew.rd 13 rfl | exact HS.drew.rd 14 rfl | exact HS.drew.rd 15 rfl | exact HS.drew.rd 16 rfl | exact HS.drew.rd 17 rfl | exact HS.drew.rd 18 rfl | exact HS.drew.rd 19 rfl | exact HS.drew.rd 20 rfl | exact HS.drew.rd 21 rfl | exact HS.drew.rd 22 rfl | exact HS.drew.rd 23 rfl)).mono ?_; rintro e w1 ⟨rfl, hb⟩; (first | have H' := HS.of_below hb | have H' := HS.drew.of_below hb | have H' := (HS.box0 [_] _).of_below hb | have H' := ((HS.box0 [_] _).box0 [_] _).of_below hb | have H' := (HS.box0 [_] _).drew.of_below hb | have H' := (HS.alloc _).of_below hb | have H' := ((HS.alloc _).alloc _).of_below hb | have H' := (HS.alloc _).drew.of_below hb); clear HS; have HS := H'; clear H'; have F := HS.facts; simp only [Own.Facts, Own.Cells, World.size_alloc, List.cons_append, List.nil_append, List.eraseIdx_cons_succ, List.eraseIdx_cons_zero, List.eraseIdx_zero, List.tail_cons, Nat.zero_add] at F))) | fail
        try simp only [List.cons_append, List.nil_append] at HS
        go_wp2
        go_ret
        exact ⟨rfl, HS.below⟩
namespace fnExactAtMost
set_option linter.unusedSimpArgs false
set_option linter.unusedVariables false
open Go.ChangeShapes Go.WideShapes Go.ChangeAt Go.RowKit Go.Ow
set_option linter.unusedVariables false
theorem own : ownKnob Tryz.prog.godebug = none := by kernel_rfl
theorem laidOut : laidOutB Tryz.prog = true := laidOutF
set_option maxRecDepth 100000 in
theorem lifted (os : Os) (started : os.Started) (H : Type) (enc : TypeId × Value → H) :
    ReturnsInHanded {} Tryz.checked os 4 .any (Rows.fnExactAtMostSpec.pre6 enc Tryz.prog Tryz.f4 Rows.fnExactAtMostRow.domain false) (Rows.fnExactAtMostSpec.post enc Tryz.prog Tryz.f4 false true false false) := by
  refine returnsInHanded_of_change_sized (C := Tryz.checked) own started (by kernel_rfl) Tryz.func4
    (ChangeSpec.witness6 (enc := enc) (C := Tryz.checked) false ⟨#[], #[.agg #[.slice none 0 0, .slice none 0 0], .agg #[.slice none 0 0, .slice none 0 0]], []⟩ 8 (by kernel_rfl) (by kernel_rfl) (by kernel_rfl) (by kernel_rfl)) ?_
  intro W base args ds gs before hval0 hW hcnd hsz0 _
  have hsz : (DataW.weightsEach Tryz.prog (Tryz.f4.params.toList ++ Rows.fnExactAtMostSpec.plain.varTypes Tryz.prog) (ds ++ gs)).all (· ≤ reachBytes) = true := hsz0
  have hval : ∀ (j : Nat) t v, Tryz.f4.params[j]? = some t → args[j]? = some v → Value.okWide Tryz.prog W .any base t v := hval0
  have hW' := hW
  obtain ⟨p, q, hA0, hV, rfl, hfz, hnd⟩ := hW
  have hA : DataW.TrodAll enc Tryz.prog W 0 (fun _ => true) true Tryz.f4.params.toList args.toList ds p := hA0
  rw [Tryz.params4] at hA hval hsz
  obtain ⟨v0, vs0, d0, ds0, p0, q0, hargs, rfl, rfl, h0, r0⟩ := trodAll_cons hA
  obtain ⟨v1, vs1, d1, ds1, p1, q1, rfl, rfl, rfl, h1, r1⟩ := trodAll_cons r0
  obtain ⟨rfl, rfl, rfl⟩ := trodAll_nil r1
  obtain rfl : args = #[v0, v1] := by cases args; simp_all
  obtain ⟨rfl, rfl⟩ := trodVars_none hV
  have hwt : ∀ n ∈ DataW.weightsEach Tryz.prog [27, 27] [d0, d1], n ≤ 140737488351232 := by
    have hsz2 : (DataW.weightsEach Tryz.prog [27, 27] [d0, d1]).all (· ≤ reachBytes) = true := hsz
    exact fun n hn => of_decide_eq_true (List.all_eq_true.1 hsz2 n hn)
  have k0 := h0
  have lt0 : ∀ x ∈ p0, x.block < W.heap.size := by obtain ⟨m, hm⟩ := k0; exact DataW.trod_lt m _ _ _ hm
  have wk0 := hval 0 27 v0 rfl rfl
  obtain ⟨fu0, hf0⟩ := h0
  have ww0 : ∀ n ∈ DataW.weights Tryz.prog 27 d0, n ≤ 140737488351232 := fun n hn => hwt n (weights_each (i := 0) rfl rfl n hn)
  obtain ⟨a, cs_a, rfl, rd_a, ok_a⟩ := open_t dcState Tryz.underlying27 hf0 ww0 wk0
  obtain ⟨u0, u1, rfl, hr, hr1⟩ := St.open_ rd_a
  have k1 := h1
  have lt1 : ∀ x ∈ p1, x.block < W.heap.size := by obtain ⟨m, hm⟩ := k1; exact DataW.trod_lt m _ _ _ hm
  have wk1 := hval 1 27 v1 rfl rfl
  obtain ⟨fu1, hf1⟩ := h1
  have ww1 : ∀ n ∈ DataW.weights Tryz.prog 27 d1, n ≤ 140737488351232 := fun n hn => hwt n (weights_each (i := 1) rfl rfl n hn)
  obtain ⟨b, cs_b, rfl, rd_b, ok_b⟩ := open_t dcState Tryz.underlying27 hf1 ww1 wk1
  obtain ⟨u2, u3, rfl, hr2, hr3⟩ := St.open_ rd_b
  clear hA0 hval0 hsz0 hsz
  refine (lawAtMost a u0 u1 b u2 u3 W hr hr1 (lfW_ok ok_a) hr2 hr3 (lfW_ok ok_b)).mono fun e W' ⟨he, bel⟩ => ?_
  subst he
  exact ⟨_, rfl, _, _, _, [], _, [], hW', trodAll_mk1 (shut_bool Tryz.underlying4 _), (trodAll_cons_mk (Below.trod laidOut (by kernel_rfl) (of_decide_eq_true (by kernel_rfl)) k0 bel lt0) (trodAll_cons_mk (Below.trod laidOut (by kernel_rfl) (of_decide_eq_true (by kernel_rfl)) k1 bel lt1) trodAll_mk0)), rfl, bel.frame _, fun h => by cases h⟩
theorem joined : joinedFacts Tryz.prog 4 Tryz.f4 Rows.fnExactAtMostSpec Rows.fnExactAtMostRow = true := by
  unfold joinedFacts
  simp only [Bool.and_eq_true, mayEnter, liftsFinal, make, laidOutF, mapsRowedF, stopsF, knobsF, plainKeysF, heardF]
  repeat' (refine And.intro ?_ ?_)
  all_goals first | exact trivial | with_reducible rfl | kernel_rfl
theorem over : Rows.fnExactAtMostRow.holds Tryz.pinned (OpenSpec.ofChange Rows.fnExactAtMostSpec) :=
  OpenClaim.holds_of_wide 4 Tryz.f4 rfl rfl rfl rfl rfl rfl rfl ⟨rfl, rfl, rfl, rfl, rfl⟩ rfl rfl rfl rfl rfl (by kernel_rfl) Tryz.func4 joined (of_decide_eq_true (by kernel_rfl))
    (by unfold Func.isWrapper; first | (rw [if_pos (by decide +kernel)]; kernel_rfl) | (rw [if_neg (by decide +kernel)]; exact ⟨rfl, rfl⟩))
    (fun os started H enc _ => lifted os started H enc)
end fnExactAtMost
theorem fnExactAtMost_holds : Rows.FnExactAtMostSaid := fnExactAtMost.over
#print axioms fnExactAtMost_holds
end Go.Proofs.YtohgelmkagcimaaGreat
