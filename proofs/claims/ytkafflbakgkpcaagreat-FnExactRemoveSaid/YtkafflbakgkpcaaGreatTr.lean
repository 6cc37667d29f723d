/- FnExactRemove: for every state and path the law returns true, and both read behind the call as they read before. No condition. -/
import Derived.Test.YtkafflbakgkpcaaGreatRows
import Derived.Test.YtkafflbakgkpcaaGreatKi
import Derived.Test.YtkafflbakgkpcaaGreatLw
namespace Go.Proofs.YtkafflbakgkpcaaGreat
set_option linter.unusedSimpArgs false
set_option linter.unusedVariables false
open Go.RowKit Go.Ow
attribute [local irreducible] wpQuiet
set_option maxRecDepth 100000
theorem rm2 {f : FuncId} {args : Array Value} {w : World} {s n d : St} {p : List ByteArray} {c : Int} (h1 : (rmR s p).1 = n ∧ (rmR s p).2.1 = d ∧ (rmR s p).2.2 = c) (h : Calls Tryz.prog f args w fun e w' => ∃ A c A2 c2 A3 c3 A4 c4, e = .returned (.tuple #[.agg #[.slice A (rmR s p).1.l.length c, .slice A2 (rmR s p).1.c.length c2], .agg #[.slice A3 (rmR s p).2.1.l.length c3, .slice A4 (rmR s p).2.1.c.length c4], .int .i64 (rmR s p).2.2]) ∧
      Own w [.own (.slice A (rmR s p).1.l.length c) (rmR s p).1.l, .own (.slice A2 (rmR s p).1.c.length c2) (rmR s p).1.c, .own (.slice A3 (rmR s p).2.1.l.length c3) (rmR s p).2.1.l, .own (.slice A4 (rmR s p).2.1.c.length c4) (rmR s p).2.1.c] w') :
    Calls Tryz.prog f args w fun e w' => ∃ A c1 A2 c2 A3 c3 A4 c4, e = .returned (.tuple #[.agg #[.slice A n.l.length c1, .slice A2 n.c.length c2], .agg #[.slice A3 d.l.length c3, .slice A4 d.c.length c4], .int .i64 c]) ∧
      Own w [.own (.slice A n.l.length c1) n.l, .own (.slice A2 n.c.length c2) n.c, .own (.slice A3 d.l.length c3) d.l, .own (.slice A4 d.c.length c4) d.c] w' := by
  rw [h1.1, h1.2.1, h1.2.2] at h; exact h
theorem rmR_bound (s : St) (p : List ByteArray) : msz (rmR s p).1 ≤ 15000 ∧ msz (rmR s p).2.1 ≤ 15000 := by
  unfold rmR
  split
  · simp [msz, lsz]
  · rename_i hs
    split
    · simp [msz, lsz]
    · unfold chR
      split
      · rename_i h
        have hs : stOk s = true := by simpa using hs
        unfold chOk fits2 at h
        simp only [Bool.and_eq_true, decide_eq_true_eq] at h
        obtain ⟨⟨h1, h2⟩, h3, h4⟩ := h
        have h8 : ∀ y ∈ (chN s (fun x => unB p x.p) []).l, y.p.length ≤ 8 := fun y hy => by
          unfold chN at hy
          have hm := (List.mem_filter.1 (show y ∈ s.l.filter _ from hy)).1
          have := stOk_leaf hs y hm
          unfold okLeaf pathOk at this
          simp only [Bool.and_eq_true, decide_eq_true_eq] at this
          omega
        have b1 := lsz_boundR 8 _ h8
        have b2 := Nat.mul_le_mul_right (8 + 4) h1
        refine ⟨by unfold msz; simp only; omega, ?_⟩
        have e : (chD s (fun x => unB p x.p) []).l = [] := rfl
        unfold msz
        simp only [e, lsz]
        omega
      · simp [msz, lsz]
set_option maxHeartbeats 32000000 in
theorem lawRemove (s : St) (vs us : Value) (p : List ByteArray) (vp : Value) (w : World) (hls : Rd w vs s.l) (hcs : Rd w us s.c) (hws : ∀ y ∈ s.l, LfW y) (hpp : Rd w vp p) (hwp : ∀ s ∈ p, s.size ≤ 140737488351232) : Calls Tryz.prog 3 #[.agg #[vs, us], vp] w fun e w' => e = .returned (.bool true) ∧ Below w.heap.size w w' := by
  obtain ⟨As, cs, rfl, _, _⟩ := hls.val
  obtain ⟨Bs, ds, rfl, _, _⟩ := hcs.val
  have HWs := Lib.hid hws
  clear hws
  obtain ⟨Ap, cp, rfl, _, _⟩ := hpp.val
  have HWp := Lib.hid hwp
  clear hwp
  obtain ⟨n, hEn⟩ : ∃ x, (rmR s p).1 = x := ⟨_, rfl⟩
  obtain ⟨d, hEd⟩ : ∃ x, (rmR s p).2.1 = x := ⟨_, rfl⟩
  obtain ⟨k, hEk⟩ : ∃ x, (rmR s p).2.2 = x := ⟨_, rfl⟩
  have HT := Lib.hid (And.intro hEn (And.intro hEd hEk))
  have hmn := (rmR_bound s p).1
  have hmd := (rmR_bound s p).2
  rw [hEn] at hmn
  rw [hEd] at hmd
  clear hEn hEd hEk
  have HS := ((Own.start w).box (b := w.heap.size) [.slice As s.l.length cs, .slice Bs s.c.length ds] 27)
  go_enter Tryz.func3, Tryz.ntmps3
  go_wp2_with fail
  refine (szState s _ _ 1048576 _ (HS.old hls) (HS.old hcs) HWs.out (by omega) (by omega)).mono ?_; rintro e w1 ⟨⟨qs, rfl, hqs1, hqs2, hqs3⟩, hb⟩; (first | have H' := HS.of_below hb | have H' := HS.drew.of_below hb | have H' := (HS.box0 [_] _).of_below hb | have H' := ((HS.box0 [_] _).box0 [_] _).of_below hb | have H' := (HS.alloc _).of_below hb | have H' := ((HS.alloc _).alloc _).of_below hb); clear HS; have HS := H'; clear H'; have F := HS.facts; simp only [Own.Facts, Own.Cells, World.size_alloc, List.cons_append, List.nil_append, List.eraseIdx_cons_succ, List.eraseIdx_cons_zero, List.eraseIdx_zero, List.tail_cons, Nat.zero_add] at F
  have HQs := Lib.hid hqs3
  clear hqs3
  by_cases hqs : qs < 0
  · go_wp2
    go_ret
    exact ⟨rfl, HS.below⟩
  · skip
    go_wp2_with fail
    refine (szStringS p _ qs _ (HS.old hpp) HWp.out (by omega) (by omega)).mono ?_; rintro e w2 ⟨⟨qp, rfl, hqp1, hqp2, hqp3⟩, hb⟩; (first | have H' := HS.of_below hb | have H' := HS.drew.of_below hb | have H' := (HS.box0 [_] _).of_below hb | have H' := ((HS.box0 [_] _).box0 [_] _).of_below hb | have H' := (HS.alloc _).of_below hb | have H' := ((HS.alloc _).alloc _).of_below hb); clear HS; have HS := H'; clear H'; have F := HS.facts; simp only [Own.Facts, Own.Cells, World.size_alloc, List.cons_append, List.nil_append, List.eraseIdx_cons_succ, List.eraseIdx_cons_zero, List.eraseIdx_zero, List.tail_cons, Nat.zero_add] at F
    have HQp := Lib.hid hqp3
    clear hqp3
    by_cases hqp : qp < 0
    · go_wp2
      go_ret
      exact ⟨rfl, HS.below⟩
    · skip
      have HNs := Lib.hid (show s.l.length ≤ 1048576 ∧ (∀ y ∈ s.l, y.p.length ≤ 1048576) ∧ s.c.length ≤ 1048576 by
        obtain ⟨h1, h2, h3⟩ := HQs.out (by omega)
        exact ⟨by omega, fun y hy => by have := h2 y hy; omega, by omega⟩)
      have hms := msz_bound HNs.out
      have hnp : p.length ≤ 1048576 := by have := HQp.out (by omega); omega
      go_wp2_with fail
      refine (toState s _ _ _ (HS.old hls) (HS.old hcs) HNs.out.1 HNs.out.2.1 HNs.out.2.2).mono ?_; rintro e w3 ⟨t1, t2, rfl, hs⟩; obtain ⟨WTs1, Wxs1, rfl, _, _⟩ := (hs.rd 0 rfl).val; obtain ⟨WTs2, Wxs2, rfl, _, _⟩ := (hs.rd 1 rfl).val; (first | have H' := HS.call2 hs | have H' := HS.drew.call2 hs | have H' := (HS.box0 [_] _).call2 hs | have H' := ((HS.box0 [_] _).box0 [_] _).call2 hs | have H' := (HS.alloc _).call2 hs | have H' := ((HS.alloc _).alloc _).call2 hs); clear HS; have HS := H'; clear H'; have F := HS.facts; simp only [Own.Facts, Own.Cells, World.size_alloc, List.cons_append, List.nil_append, List.eraseIdx_cons_succ, List.eraseIdx_cons_zero, List.eraseIdx_zero, List.tail_cons, Nat.zero_add] at F
      go_wp2_with fail
      refine (toStringS p _ _ (HS.old hpp) hnp).mono ?_; rintro e w4 ⟨t1, rfl, hs⟩; obtain ⟨WTp1, Wxp1, rfl, _, _⟩ := (hs.rd 0 rfl).val; (first | have H' := HS.call1 hs | have H' := HS.drew.call1 hs | have H' := (HS.box0 [_] _).call1 hs | have H' := ((HS.box0 [_] _).box0 [_] _).call1 hs | have H' := (HS.alloc _).call1 hs | have H' := ((HS.alloc _).alloc _).call1 hs); clear HS; have HS := H'; clear H'; have F := HS.facts; simp only [Own.Facts, Own.Cells, World.size_alloc, List.cons_append, List.nil_append, List.eraseIdx_cons_succ, List.eraseIdx_cons_zero, List.eraseIdx_zero, List.tail_cons, Nat.zero_add] at F
      go_wp2_with fail
      refine (rm2 HT.out (specRemove s p _ _ _ _ (HS.rd 1 rfl) (HS.rd 2 rfl) (HS.rd 0 rfl) HWs.out HWp.out)).mono ?_
      rintro e w5 ⟨WA01, WA02, WB01, WB02, WA11, WA12, WB11, WB12, rfl, hs⟩
      replace HS := HS.call hs
      simp only [List.cons_append, List.nil_append] at HS
      replace HS := HS.box (b := w5.heap.size) [.slice WA01 n.l.length WA02, .slice WB01 n.c.length WB02] 36
      replace HS := HS.box (b := w5.heap.size + 1) [.slice WA11 d.l.length WA12, .slice WB11 d.c.length WB12] 36
      clear hs F
      have F := HS.facts; simp only [Own.Facts, Own.Cells, World.size_alloc, List.cons_append, List.nil_append, List.eraseIdx_cons_succ, List.eraseIdx_cons_zero, List.eraseIdx_zero, List.tail_cons, Nat.zero_add] at F
      go_wp2_with fail
      refine (toState s _ _ _ (HS.old hls) (HS.old hcs) HNs.out.1 HNs.out.2.1 HNs.out.2.2).mono ?_
      rintro e w6 ⟨t1, t2, rfl, hs⟩
      obtain ⟨Xs1, ys1, rfl, _, _⟩ := (hs.rd 0 rfl).val
      obtain ⟨Xs2, ys2, rfl, _, _⟩ := (hs.rd 1 rfl).val
      replace HS := HS.call hs
      simp only [List.cons_append, List.nil_append] at HS
      replace HS := HS.box (b := w6.heap.size) [.slice Xs1 s.l.length ys1, .slice Xs2 s.c.length ys2] 36
      clear hs F
      have F := HS.facts; simp only [Own.Facts, Own.Cells, World.size_alloc, List.cons_append, List.nil_append, List.eraseIdx_cons_succ, List.eraseIdx_cons_zero, List.eraseIdx_zero, List.tail_cons, Nat.zero_add] at F
      go_wp2_with fail
      refine (toStringS p _ _ (HS.old hpp) hnp).mono ?_
      rintro e w7 ⟨t1, rfl, hs⟩
      obtain ⟨Xp1, yp1, rfl, _, _⟩ := (hs.rd 0 rfl).val
      replace HS := HS.call hs
      simp only [List.cons_append, List.nil_append] at HS
      clear hs F
      have F := HS.facts; simp only [Own.Facts, Own.Cells, World.size_alloc, List.cons_append, List.nil_append, List.eraseIdx_cons_succ, List.eraseIdx_cons_zero, List.eraseIdx_zero, List.tail_cons, Nat.zero_add] at F
      go_wp2_with fail
      refine (rm2 HT.out (implRemove s p _ _ _ _ (HS.rd 2 rfl) (HS.rd 3 rfl) (HS.rd 0 rfl) HWs.out HNs.out.2.2 HWp.out)).mono ?_
      rintro e w8 ⟨G01, g01, G02, g02, G11, g11, G12, g12, rfl, hs⟩
      replace HS := HS.call hs
      simp only [List.cons_append, List.nil_append] at HS
      replace HS := HS.box (b := w8.heap.size) [.slice G01 n.l.length g01, .slice G02 n.c.length g02] 36
      replace HS := HS.box (b := w8.heap.size + 1) [.slice G11 d.l.length g11, .slice G12 d.c.length g12] 36
      clear hs F
      have F := HS.facts; simp only [Own.Facts, Own.Cells, World.size_alloc, List.cons_append, List.nil_append, List.eraseIdx_cons_succ, List.eraseIdx_cons_zero, List.eraseIdx_zero, List.tail_cons, Nat.zero_add] at F
      have hdn : decide (n = n) = true := by simp
      have hdd : decide (d = d) = true := by simp
      have hdas : decide (s = s) = true := by simp
      have hdap : decide (p = p) = true := by simp
      go_wp2_with fail
      refine (eqState n n _ _ _ _ _ (HS.rd 2 rfl) (HS.rd 3 rfl) (HS.rd 12 rfl) (HS.rd 13 rfl)).mono ?_; rintro e w9 ⟨rfl, hb⟩; (first | have H' := HS.of_below hb | have H' := HS.drew.of_below hb | have H' := (HS.box0 [_] _).of_below hb | have H' := ((HS.box0 [_] _).box0 [_] _).of_below hb | have H' := (HS.alloc _).of_below hb | have H' := ((HS.alloc _).alloc _).of_below hb); clear HS; have HS := H'; clear H'; have F := HS.facts; simp only [Own.Facts, Own.Cells, World.size_alloc, List.cons_append, List.nil_append, List.eraseIdx_cons_succ, List.eraseIdx_cons_zero, List.eraseIdx_zero, List.tail_cons, Nat.zero_add] at F
      try rw [hdn]
      go_wp2_with fail
      refine (eqState d d _ _ _ _ _ (HS.rd 4 rfl) (HS.rd 5 rfl) (HS.rd 14 rfl) (HS.rd 15 rfl)).mono ?_; rintro e w10 ⟨rfl, hb⟩; (first | have H' := HS.of_below hb | have H' := HS.drew.of_below hb | have H' := (HS.box0 [_] _).of_below hb | have H' := ((HS.box0 [_] _).box0 [_] _).of_below hb | have H' := (HS.alloc _).of_below hb | have H' := ((HS.alloc _).alloc _).of_below hb); clear HS; have HS := H'; clear H'; have F := HS.facts; simp only [Own.Facts, Own.Cells, World.size_alloc, List.cons_append, List.nil_append, List.eraseIdx_cons_succ, List.eraseIdx_cons_zero, List.eraseIdx_zero, List.tail_cons, Nat.zero_add] at F
      try rw [hdd]
      go_wp2
      first | (go_region_held3 (fun w' => (w'.cell? ⟨w6.heap.size, 0, none⟩ = some (.slice Xs1 s.l.length ys1) ∧ w'.cell? ⟨w6.heap.size, 1, none⟩ = some (.slice Xs2 s.c.length ys2)) ∧ w'.cell? ⟨w.heap.size, 0, none⟩ = some (.slice As s.l.length cs) ∧ w'.cell? ⟨w.heap.size, 1, none⟩ = some (.slice Bs s.c.length ds)) (first | go_keep) (first | (go_at_call 9; refine (toState s _ _ _ (by first | exact HS.old hls | exact HS.drew.old hls) (by first | exact HS.old hcs | exact HS.drew.old hcs) HNs.out.1 HNs.out.2.1 HNs.out.2.2).mono ?_; rintro e w1 ⟨ts1, ts2, rfl, hs⟩; obtain ⟨Ts1, xs1, rfl, _, _⟩ := (hs.rd 0 rfl).val; obtain ⟨Ts2, xs2, rfl, _, _⟩ := (hs.rd 1 rfl).val; (first | have H' := HS.call hs | have H' := HS.drew.call hs | have H' := (HS.box0 [_] _).call hs | have H' := ((HS.box0 [_] _).box0 [_] _).call hs | have H' := (HS.box0 [_] _).drew.call hs | have H' := (HS.alloc _).call hs | have H' := ((HS.alloc _).alloc _).call hs | have H' := (HS.alloc _).drew.call hs); clear HS; have HS := H'; clear H'; have F := HS.facts; simp only [Own.Facts, Own.Cells, World.size_alloc, List.cons_append, List.nil_append, List.eraseIdx_cons_succ, List.eraseIdx_cons_zero, List.eraseIdx_zero, List.tail_cons, Nat.zero_add] at F) | (go_at_call 12; refine (eqState s s _ _ _ _ _ (by first | exact HS.rd 0 rfl | exact HS.rd 1 rfl | exact HS.rd 2 rfl | exact HS.rd 3 rfl | exact HS.rd 4 rfl | exact HS.rd 5 rfl | exact HS.rd 6 rfl | exact HS.rd 7 rfl | exact HS.rd 8 rfl | exact HS.rd 9 rfl | exact HS.rd 10 rfl | exact HS.rd 11 rfl | exact HS.rd 12 rfl | exact HS.rd 13 rfl | exact HS.rd 14 rfl | exact HS.rd 15 rfl | exact HS.rd 16 rfl | exact HS.rd 17 rfl | exact HS.rd 18 rfl | exact HS.rd 19 rfl | exact HS.rd 20 rfl | exact HS.rd 21 rfl | exact HS.rd 22 rfl | exact HS.rd 23 rfl | exact HS.drew.rd 0 rfl | exact HS.drew.rd 1 rfl | exact HS.drew.rd 2 rfl | exact HS.drew.rd 3 rfl | exact HS.drew.rd 4 rfl | exact HS.drew.rd 5 rfl | exact HS.drew.rd 6 rfl | exact HS.drew.rd 7 rfl | exact HS.drew.rd 8 rfl | exact HS.drew.rd 9 rfl | exact HS.drew.rd 10 rfl | exact HS.drew.rd 11 rfl | exact HS.drew.rd 12 rfl | exact HS.drew.rd 13 rfl | exact HS.drew.rd 14 rfl | exact HS.drew.rd 15 rfl | exact HS.drew.rd 16 rfl | exact HS.drew.rd 17 rfl | exact HS.drew.rd 18 rfl | exact HS.drew.rd 19 rfl | exact HS.drew.rd 20 rfl | exact HS.drew.rd 21 rfl | exact HS.drew.rd 22 rfl | exact HS.drew.rd 23 rfl) (by first | exact HS.rd 0 rfl | exact HS.rd 1 rfl | exact HS.rd 2 rfl | exact HS.rd 3 rfl | exact HS.rd 4 rfl | exact HS.rd 5 rfl | exact HS.rd 6 rfl | exact HS.rd 7 rfl | exact HS.rd 8 rfl | exact HS.rd 9 rfl | exact HS.rd 10 rfl | exact HS.rd 11 rfl | exact HS.rd 12 rfl | exact HS.rd 13 rfl | exact HS.rd 14 rfl | exact HS.rd 15 rfl | exact HS.rd 16 rfl | exact HS.rd 17 rfl | exact HS.rd 18 rfl | exact HS.rd 19 rfl | exact HS.rd 20 rfl | exact HS.rd 21 rfl | exact HS.rd 22 rfl | exact HS.rd 23 rfl | exact HS.drew.rd 0 rfl | exact HS.drew.rd 1 rfl | exact HS.drew.rd 2 rfl | exact HS.drew.rd 3 rfl | exact HS.drew.rd 4 rfl | exact HS.drew.rd 5 rfl | exact HS.drew.rd 6 rfl | exact HS.drew.rd 7 rfl | exact HS.drew.rd 8 rfl | exact HS.drew.rd 9 rfl | exact HS.drew.rd 10 rfl | exact HS.drew.rd 11 rfl | exact HS.drew.rd 12 rfl | exact HS.drew.rd 13 rfl | exact HS.drew.rd 14 rfl | exact HS.drew.rd 15 rfl | exact HS.drew.rd 16 rfl | exact HS.drew.rd 17 rfl | exact HS.drew.rd 18 rfl | exact HS.drew.rd 19 rfl | exact HS.drew.rd 20 rfl | exact HS.drew.rd 21 rfl | exact HS.drew.rd 22 rfl | exact HS.drew.rd 23 rfl) (by first | exact HS.rd 0 rfl | exact HS.rd 1 rfl | exact HS.rd 2 rfl | exact HS.rd 3 rfl | exact HS.rd 4 rfl | exact HS.rd 5 rfl | exact HS.rd 6 rfl | exact HS.rd 7 rfl | exact HS.rd 8 rfl | exact HS.rd 9 rfl | exact HS.rd 10 rfl | exact HS.rd 11 rfl | exact HS.rd 12 rfl | exact HS.rd 13 rfl | exact HS.rd 14 rfl | exact HS.rd 15 rfl | exact HS.rd 16 rfl | exact HS.rd 17 rfl | exact HS.rd 18 rfl | exact HS.rd 19 rfl | exact HS.rd 20 rfl | exact HS.rd 21 rfl | exact HS.rd 22 rfl | exact HS.rd 23 rfl | exact HS.drew.rd 0 rfl | exact HS.drew.rd 1 rfl | exact HS.drew.rd 2 rfl | exact HS.drew.rd 3 rfl | exact HS.drew.rd 4 rfl | exact HS.drew.rd 5 rfl | exact HS.drew.rd 6 rfl | exact HS.drew.rd 7 rfl | exact HS.drew.rd 8 rfl | exact HS.drew.rd 9 rfl | exact HS.drew.rd 10 rfl | exact HS.drew.rd 11 rfl | exact HS.drew.rd 12 rfl | exact HS.drew.rd 13 rfl | exact HS.drew.rd 14 rfl | exact HS.drew.rd 15 rfl | exact HS.drew.rd 16 rfl | exact HS.drew.rd 17 rfl | exact HS.drew.rd 18 rfl | exact HS.drew.rd 19 rfl | exact HS.drew.rd 20 rfl | exact HS.drew.rd 21 rfl | exact HS.drew.rd 22 rfl | exact HS.drew.rd 23 rfl) (by first | exact HS.rd 0 rfl | exact HS.rd 1 rfl | exact HS.rd 2 rfl | exact HS.rd 3 rfl | exact HS.rd 4 rfl | exact HS.rd 5 rfl | exact HS.rd 6 rfl | exact HS.rd 7 rfl | exact HS.rd 8 rfl | exact HS.rd 9 rfl | exact HS.rd 10 rfl | exact HS.rd 11 rfl | exact HS.rd 12 rfl | exact HS.rd 13 rfl | exact HS.rd 14 rfl | exact HS.rd 15 rfl | exact HS.rd 16 rfl | exact HS.rd 17 rfl | exact HS.rd 18 rfl | exact HS.rd 19 rfl | exact HS.rd 20 rfl | exact HS.rd 21 rfl | exact HS.rd 22 rfl | exact HS.rd 23 rfl | exact HS.drew.rd 0 rfl | exact HS.drew.rd 1 rfl | exact HS.drew.rd 2 rfl | exact HS.drew.rd 3 rfl | exact HS.drew.rd 4 rfl | exact HS.drew.rd 5 rfl | exact HS.drew.rd 6 rfl | exact HS.drew.rd 7 rfl | exact HS.drew.rd 8 rfl | exact HS.drew.rd 9 rfl | exact HS.drew.rd 10 rfl | exact HS.drew.rd 11 rfl | exact HS.drew.rd 12 rfl | exact HS.drew.rd 13 rfl | exact HS.drew.rd 14 rfl | exact HS.drew.rd 15 rfl | exact HS.drew.rd 16 rfl | exact HS.drew.rd 17 rfl | exact HS.drew.rd 18 rfl | exact HS.drew.rd 19 rfl | exact HS.drew.rd 20 rfl | exact HS.drew.rd 21 rfl | exact HS.drew.rd 22 rfl | exact HS.drew.rd 23 rfl)).mono ?_; rintro e w1 ⟨rfl, hb⟩; (first | have H' := HS.of_below hb | have H' := HS.drew.of_below hb | have H' := (HS.box0 [_] _).of_below hb | have H' := ((HS.box0 [_] _).box0 [_] _).of_below hb | have H' := (HS.box0 [_] _).drew.of_below hb | have H' := (HS.alloc _).of_below hb | have H' := ((HS.alloc _).alloc _).of_below hb | have H' := (HS.alloc _).drew.of_below hb); clear HS; have HS := H'; clear H'; have F := HS.facts; simp only [Own.Facts, Own.Cells, World.size_alloc, List.cons_append, List.nil_append, List.eraseIdx_cons_succ, List.eraseIdx_cons_zero, List.eraseIdx_zero, List.tail_cons, Nat.zero_add] at F))) | fail
      try simp only [List.cons_append, List.nil_append] at HS
      go_wp2_with fail
      refine (toStringS p _ _ (HS.old hpp) hnp).mono ?_
      rintro e w11 ⟨t1, rfl, hs⟩
      obtain ⟨Tp1, xp1, rfl, _, _⟩ := (hs.rd 0 rfl).val
      replace HS := HS.call hs
      simp only [List.cons_append, List.nil_append] at HS
      clear hs F
      have F := HS.facts; simp only [Own.Facts, Own.Cells, World.size_alloc, List.cons_append, List.nil_append, List.eraseIdx_cons_succ, List.eraseIdx_cons_zero, List.eraseIdx_zero, List.tail_cons, Nat.zero_add] at F
      go_wp2_with fail
      refine (eqStringS p p _ _ _ (HS.rd 9 rfl) (HS.rd 0 rfl)).mono ?_; rintro e w12 ⟨rfl, hb⟩; (first | have H' := HS.of_below hb | have H' := HS.drew.of_below hb | have H' := (HS.box0 [_] _).of_below hb | have H' := ((HS.box0 [_] _).box0 [_] _).of_below hb | have H' := (HS.alloc _).of_below hb | have H' := ((HS.alloc _).alloc _).of_below hb); clear HS; have HS := H'; clear H'; have F := HS.facts; simp only [Own.Facts, Own.Cells, World.size_alloc, List.cons_append, List.nil_append, List.eraseIdx_cons_succ, List.eraseIdx_cons_zero, List.eraseIdx_zero, List.tail_cons, Nat.zero_add] at F
      try simp only [List.cons_append, List.nil_append] at HS
      go_wp2_with fail
      refine (markState s _ _ (1) _ ((HS.pick 12 rfl).pick 12 rfl) (by have : lsz s.l ≤ msz s := (by unfold msz; omega); omega)).mono ?_
      rintro e w13 ⟨rfl, H1⟩
      clear HS F
      have HS := H1
      clear H1
      simp only [List.eraseIdx_cons_succ, List.eraseIdx_cons_zero] at HS
      have F := HS.facts; simp only [Own.Facts, Own.Cells, World.size_alloc, List.cons_append, List.nil_append, List.eraseIdx_cons_succ, List.eraseIdx_cons_zero, List.eraseIdx_zero, List.tail_cons, Nat.zero_add] at F
      have hnn1 : (0 : Int) ≤ ((1 + msz s : Nat) : Int) := by omega
      go_wp2_with fail
      refine (markStringS p _ (1 + msz s) _ (HS.pick 11 rfl) (by omega)).mono ?_
      rintro e w14 ⟨rfl, H1⟩
      clear HS F
      have HS := H1
      clear H1
      simp only [List.eraseIdx_cons_succ, List.eraseIdx_cons_zero] at HS
      have F := HS.facts; simp only [Own.Facts, Own.Cells, World.size_alloc, List.cons_append, List.nil_append, List.eraseIdx_cons_succ, List.eraseIdx_cons_zero, List.eraseIdx_zero, List.tail_cons, Nat.zero_add] at F
      have hnn2 : (0 : Int) ≤ ((1 + msz s + p.length : Nat) : Int) := by omega
      go_wp2_with fail
      refine (eqState n n _ _ _ _ _ (HS.rd 8 rfl) (HS.rd 9 rfl) (HS.rd 15 rfl) (HS.rd 16 rfl)).mono ?_; rintro e w15 ⟨rfl, hb⟩; (first | have H' := HS.of_below hb | have H' := HS.drew.of_below hb | have H' := (HS.box0 [_] _).of_below hb | have H' := ((HS.box0 [_] _).box0 [_] _).of_below hb | have H' := (HS.alloc _).of_below hb | have H' := ((HS.alloc _).alloc _).of_below hb); clear HS; have HS := H'; clear H'; have F := HS.facts; simp only [Own.Facts, Own.Cells, World.size_alloc, List.cons_append, List.nil_append, List.eraseIdx_cons_succ, List.eraseIdx_cons_zero, List.eraseIdx_zero, List.tail_cons, Nat.zero_add] at F
      try rw [hdn]
      go_wp2_with fail
      refine (eqState d d _ _ _ _ _ (HS.rd 10 rfl) (HS.rd 11 rfl) (HS.rd 17 rfl) (HS.rd 18 rfl)).mono ?_; rintro e w16 ⟨rfl, hb⟩; (first | have H' := HS.of_below hb | have H' := HS.drew.of_below hb | have H' := (HS.box0 [_] _).of_below hb | have H' := ((HS.box0 [_] _).box0 [_] _).of_below hb | have H' := (HS.alloc _).of_below hb | have H' := ((HS.alloc _).alloc _).of_below hb); clear HS; have HS := H'; clear H'; have F := HS.facts; simp only [Own.Facts, Own.Cells, World.size_alloc, List.cons_append, List.nil_append, List.eraseIdx_cons_succ, List.eraseIdx_cons_zero, List.eraseIdx_zero, List.tail_cons, Nat.zero_add] at F
      try rw [hdd]
      go_wp2_with fail
      refine (markState n _ _ (1) _ ((HS.pick 9 rfl).pick 9 rfl) (by have : lsz n.l ≤ msz n := (by unfold msz; omega); omega)).mono ?_
      rintro e w17 ⟨rfl, H1⟩
      clear HS F
      have HS := H1
      clear H1
      simp only [List.eraseIdx_cons_succ, List.eraseIdx_cons_zero] at HS
      have F := HS.facts; simp only [Own.Facts, Own.Cells, World.size_alloc, List.cons_append, List.nil_append, List.eraseIdx_cons_succ, List.eraseIdx_cons_zero, List.eraseIdx_zero, List.tail_cons, Nat.zero_add] at F
      have hnm0 : (0 : Int) ≤ ((1 + msz n : Nat) : Int) := by omega
      go_wp2_with fail
      refine (markState d _ _ (1 + msz n) _ ((HS.pick 11 rfl).pick 11 rfl) (by have : lsz d.l ≤ msz d := (by unfold msz; omega); omega)).mono ?_
      rintro e w18 ⟨rfl, H1⟩
      clear HS F
      have HS := H1
      clear H1
      simp only [List.eraseIdx_cons_succ, List.eraseIdx_cons_zero] at HS
      have F := HS.facts; simp only [Own.Facts, Own.Cells, World.size_alloc, List.cons_append, List.nil_append, List.eraseIdx_cons_succ, List.eraseIdx_cons_zero, List.eraseIdx_zero, List.tail_cons, Nat.zero_add] at F
      have hnm1 : (0 : Int) ≤ ((1 + msz n + msz d : Nat) : Int) := by omega
      go_wp2_with fail
      refine (heldState n _ _ (1) _ ((HS.pick 3 rfl).pick 3 rfl) (by omega)).mono ?_; rintro e w19 ⟨rfl, hb⟩; (first | have H' := HS.of_below hb | have H' := HS.drew.of_below hb | have H' := (HS.box0 [_] _).of_below hb | have H' := ((HS.box0 [_] _).box0 [_] _).of_below hb | have H' := (HS.alloc _).of_below hb | have H' := ((HS.alloc _).alloc _).of_below hb); clear HS; have HS := H'; clear H'; have F := HS.facts; simp only [Own.Facts, Own.Cells, World.size_alloc, List.cons_append, List.nil_append, List.eraseIdx_cons_succ, List.eraseIdx_cons_zero, List.eraseIdx_zero, List.tail_cons, Nat.zero_add] at F
      go_wp2_with fail
      refine (heldState d _ _ (1 + msz n) _ ((HS.pick 1 rfl).pick 1 rfl) (by omega)).mono ?_; rintro e w20 ⟨rfl, hb⟩; (first | have H' := HS.of_below hb | have H' := HS.drew.of_below hb | have H' := (HS.box0 [_] _).of_below hb | have H' := ((HS.box0 [_] _).box0 [_] _).of_below hb | have H' := (HS.alloc _).of_below hb | have H' := ((HS.alloc _).alloc _).of_below hb); clear HS; have HS := H'; clear H'; have F := HS.facts; simp only [Own.Facts, Own.Cells, World.size_alloc, List.cons_append, List.nil_append, List.eraseIdx_cons_succ, List.eraseIdx_cons_zero, List.eraseIdx_zero, List.tail_cons, Nat.zero_add] at F
      have HM := HS
      replace HM := HM.pick 22 rfl
      replace HM := HM.pick 19 rfl
      replace HM := HM.pick 19 rfl
      replace HM := HM.pick 19 rfl
      replace HM := HM.pick 19 rfl
      replace HM := HM.pick 18 rfl
      replace HM := HM.pick 19 rfl
      try simp only [List.eraseIdx_cons_succ, List.eraseIdx_cons_zero] at HM
      clear HS F
      have HS := own_take 7 HM
      clear HM
      simp only [List.take_succ_cons, List.take_zero] at HS
      have F := HS.facts; simp only [Own.Facts, Own.Cells, World.size_alloc, List.cons_append, List.nil_append, List.eraseIdx_cons_succ, List.eraseIdx_cons_zero, List.eraseIdx_zero, List.tail_cons, Nat.zero_add] at F
      go_wp2_with fail
      refine (toState s _ _ _ (HS.old hls) (HS.old hcs) HNs.out.1 HNs.out.2.1 HNs.out.2.2).mono ?_; rintro e w21 ⟨t1, t2, rfl, hs⟩; obtain ⟨HTs1, Hxs1, rfl, _, _⟩ := (hs.rd 0 rfl).val; obtain ⟨HTs2, Hxs2, rfl, _, _⟩ := (hs.rd 1 rfl).val; (first | have H' := HS.call2 hs | have H' := HS.drew.call2 hs | have H' := (HS.box0 [_] _).call2 hs | have H' := ((HS.box0 [_] _).box0 [_] _).call2 hs | have H' := (HS.alloc _).call2 hs | have H' := ((HS.alloc _).alloc _).call2 hs); clear HS; have HS := H'; clear H'; have F := HS.facts; simp only [Own.Facts, Own.Cells, World.size_alloc, List.cons_append, List.nil_append, List.eraseIdx_cons_succ, List.eraseIdx_cons_zero, List.eraseIdx_zero, List.tail_cons, Nat.zero_add] at F
      go_wp2_with fail
      refine (toStringS p _ _ (HS.old hpp) hnp).mono ?_; rintro e w22 ⟨t1, rfl, hs⟩; obtain ⟨HTp1, Hxp1, rfl, _, _⟩ := (hs.rd 0 rfl).val; (first | have H' := HS.call1 hs | have H' := HS.drew.call1 hs | have H' := (HS.box0 [_] _).call1 hs | have H' := ((HS.box0 [_] _).box0 [_] _).call1 hs | have H' := (HS.alloc _).call1 hs | have H' := ((HS.alloc _).alloc _).call1 hs); clear HS; have HS := H'; clear H'; have F := HS.facts; simp only [Own.Facts, Own.Cells, World.size_alloc, List.cons_append, List.nil_append, List.eraseIdx_cons_succ, List.eraseIdx_cons_zero, List.eraseIdx_zero, List.tail_cons, Nat.zero_add] at F
      go_wp2_with fail
      refine (rm2 HT.out (implRemove s p _ _ _ _ (HS.rd 1 rfl) (HS.rd 2 rfl) (HS.rd 0 rfl) HWs.out HNs.out.2.2 HWp.out)).mono ?_
      rintro e w23 ⟨HA01, HA02, HB01, HB02, HA11, HA12, HB11, HB12, rfl, hs⟩
      replace HS := HS.call hs
      simp only [List.cons_append, List.nil_append] at HS
      replace HS := HS.box (b := w23.heap.size) [.slice HA01 n.l.length HA02, .slice HB01 n.c.length HB02] 36
      replace HS := HS.box (b := w23.heap.size + 1) [.slice HA11 d.l.length HA12, .slice HB11 d.c.length HB12] 36
      clear hs F
      have F := HS.facts; simp only [Own.Facts, Own.Cells, World.size_alloc, List.cons_append, List.nil_append, List.eraseIdx_cons_succ, List.eraseIdx_cons_zero, List.eraseIdx_zero, List.tail_cons, Nat.zero_add] at F
      go_wp2_with fail
      refine (eqState n n _ _ _ _ _ (HS.rd 2 rfl) (HS.rd 3 rfl) (HS.rd 11 rfl) (HS.rd 12 rfl)).mono ?_; rintro e w24 ⟨rfl, hb⟩; (first | have H' := HS.of_below hb | have H' := HS.drew.of_below hb | have H' := (HS.box0 [_] _).of_below hb | have H' := ((HS.box0 [_] _).box0 [_] _).of_below hb | have H' := (HS.alloc _).of_below hb | have H' := ((HS.alloc _).alloc _).of_below hb); clear HS; have HS := H'; clear H'; have F := HS.facts; simp only [Own.Facts, Own.Cells, World.size_alloc, List.cons_append, List.nil_append, List.eraseIdx_cons_succ, List.eraseIdx_cons_zero, List.eraseIdx_zero, List.tail_cons, Nat.zero_add] at F
      try rw [hdn]
      go_wp2_with fail
      refine (eqState d d _ _ _ _ _ (HS.rd 4 rfl) (HS.rd 5 rfl) (HS.rd 13 rfl) (HS.rd 14 rfl)).mono ?_; rintro e w25 ⟨rfl, hb⟩; (first | have H' := HS.of_below hb | have H' := HS.drew.of_below hb | have H' := (HS.box0 [_] _).of_below hb | have H' := ((HS.box0 [_] _).box0 [_] _).of_below hb | have H' := (HS.alloc _).of_below hb | have H' := ((HS.alloc _).alloc _).of_below hb); clear HS; have HS := H'; clear H'; have F := HS.facts; simp only [Own.Facts, Own.Cells, World.size_alloc, List.cons_append, List.nil_append, List.eraseIdx_cons_succ, List.eraseIdx_cons_zero, List.eraseIdx_zero, List.tail_cons, Nat.zero_add] at F
      try rw [hdd]
      go_wp2
      go_ret
      exact ⟨rfl, HS.below⟩
namespace fnExactRemove
set_option linter.unusedSimpArgs false
set_option linter.unusedVariables false
open Go.ChangeShapes Go.WideShapes Go.ChangeAt Go.RowKit Go.Ow
set_option linter.unusedVariables false
theorem own : ownKnob Tryz.prog.godebug = none := by kernel_rfl
theorem laidOut : laidOutB Tryz.prog = true := laidOutF
set_option maxRecDepth 100000 in
theorem lifted (os : Os) (started : os.Started) (H : Type) (enc : TypeId × Value → H) :
    ReturnsInHanded {} Tryz.checked os 3 .any (Rows.fnExactRemoveSpec.pre6 enc Tryz.prog Tryz.f3 Rows.fnExactRemoveRow.domain false) (Rows.fnExactRemoveSpec.post enc Tryz.prog Tryz.f3 false true false false) := by
  refine returnsInHanded_of_change_sized (C := Tryz.checked) own started (by kernel_rfl) Tryz.func3
    (ChangeSpec.witness6 (enc := enc) (C := Tryz.checked) false ⟨#[], #[.agg #[.slice none 0 0, .slice none 0 0], .slice none 0 0], []⟩ 8 (by kernel_rfl) (by kernel_rfl) (by kernel_rfl) (by kernel_rfl)) ?_
  intro W base args ds gs before hval0 hW hcnd hsz0 _
  have hsz : (DataW.weightsEach Tryz.prog (Tryz.f3.params.toList ++ Rows.fnExactRemoveSpec.plain.varTypes Tryz.prog) (ds ++ gs)).all (· ≤ reachBytes) = true := hsz0
  have hval : ∀ (j : Nat) t v, Tryz.f3.params[j]? = some t → args[j]? = some v → Value.okWide Tryz.prog W .any base t v := hval0
  have hW' := hW
  obtain ⟨p, q, hA0, hV, rfl, hfz, hnd⟩ := hW
  have hA : DataW.TrodAll enc Tryz.prog W 0 (fun _ => true) true Tryz.f3.params.toList args.toList ds p := hA0
  rw [Tryz.params3] at hA hval hsz
  obtain ⟨v0, vs0, d0, ds0, p0, q0, hargs, rfl, rfl, h0, r0⟩ := trodAll_cons hA
  obtain ⟨v1, vs1, d1, ds1, p1, q1, rfl, rfl, rfl, h1, r1⟩ := trodAll_cons r0
  obtain ⟨rfl, rfl, rfl⟩ := trodAll_nil r1
  obtain rfl : args = #[v0, v1] := by cases args; simp_all
  obtain ⟨rfl, rfl⟩ := trodVars_none hV
  have hwt : ∀ n ∈ DataW.weightsEach Tryz.prog [27, 28] [d0, d1], n ≤ 140737488351232 := by
    have hsz2 : (DataW.weightsEach Tryz.prog [27, 28] [d0, d1]).all (· ≤ reachBytes) = true := hsz
    exact fun n hn => of_decide_eq_true (List.all_eq_true.1 hsz2 n hn)
  have k0 := h0
  have lt0 : ∀ x ∈ p0, x.block < W.heap.size := by obtain ⟨m, hm⟩ := k0; exact DataW.trod_lt m _ _ _ hm
  have wk0 := hval 0 27 v0 rfl rfl
  obtain ⟨fu0, hf0⟩ := h0
  have ww0 : ∀ n ∈ DataW.weights Tryz.prog 27 d0, n ≤ 140737488351232 := fun n hn => hwt n (weights_each (i := 0) rfl rfl n hn)
  obtain ⟨s, cs_s, rfl, rd_s, ok_s⟩ := open_t dcState Tryz.underlying27 hf0 ww0 wk0
  obtain ⟨vl, vc, rfl, hrl, hrc⟩ := St.open_ rd_s
  have k1 := h1
  have lt1 : ∀ x ∈ p1, x.block < W.heap.size := by obtain ⟨m, hm⟩ := k1; exact DataW.trod_lt m _ _ _ hm
  have wk1 := hval 1 28 v1 rfl rfl
  obtain ⟨fu1, hf1⟩ := h1
  have ww1 : ∀ n ∈ DataW.weights Tryz.prog 28 d1, n ≤ 140737488351232 := fun n hn => hwt n (weights_each (i := 1) rfl rfl n hn)
  obtain ⟨p, rd_p, ok_p⟩ := open_l dcPath Tryz.underlying28 hf1 ww1 wk1
  clear hA0 hval0 hsz0 hsz
  refine (lawRemove s vl vc p v1 W hrl hrc (lfW_ok ok_s) rd_p ok_p.2).mono fun e W' ⟨he, bel⟩ => ?_
  subst he
  exact ⟨_, rfl, _, _, _, [], _, [], hW', trodAll_mk1 (shut_bool Tryz.underlying4 _), (trodAll_cons_mk (Below.trod laidOut (by kernel_rfl) (of_decide_eq_true (by kernel_rfl)) k0 bel lt0) (trodAll_cons_mk (Below.trod laidOut (by kernel_rfl) (of_decide_eq_true (by kernel_rfl)) k1 bel lt1) trodAll_mk0)), rfl, bel.frame _, fun h => by cases h⟩
theorem joined : joinedFacts Tryz.prog 3 Tryz.f3 Rows.fnExactRemoveSpec Rows.fnExactRemoveRow = true := by
  unfold joinedFacts
  simp only [Bool.and_eq_true, mayEnter, liftsFinal, make, laidOutF, mapsRowedF, stopsF, knobsF, plainKeysF, heardF]
  repeat' (refine And.intro ?_ ?_)
  all_goals first | exact trivial | with_reducible rfl | kernel_rfl
theorem over : Rows.fnExactRemoveRow.holds Tryz.pinned (OpenSpec.ofChange Rows.fnExactRemoveSpec) :=
  OpenClaim.holds_of_wide 3 Tryz.f3 rfl rfl rfl rfl rfl rfl rfl ⟨rfl, rfl, rfl, rfl, rfl⟩ rfl rfl rfl rfl rfl (by kernel_rfl) Tryz.func3 joined (of_decide_eq_true (by kernel_rfl))
    (by unfold Func.isWrapper; first | (rw [if_pos (by decide +kernel)]; kernel_rfl) | (rw [if_neg (by decide +kernel)]; exact ⟨rfl, rfl⟩))
    (fun os started H enc _ => lifted os started H enc)
end fnExactRemove
theorem fnExactRemove_holds : Rows.FnExactRemoveSaid := fnExactRemove.over
#print axioms fnExactRemove_holds
end Go.Proofs.YtkafflbakgkpcaaGreat
