/- GetContext: the reference's side. -/
import Derived.Test.YtonkdmjhlaikhaaDoorG9
import Derived.Test.YtonkdmjhlaikhaaDoorP3
import Derived.Test.YtonkdmjhlaikhaaDoorCv
import Derived.Test.YtonkdmjhlaikhaaDoorLf
namespace Go.Proofs.YtonkdmjhlaikhaaDoor
set_option linter.unusedSimpArgs false
set_option linter.unusedVariables false
open Go.RowKit Go.Ow
attribute [local irreducible] wpQuiet
set_option maxRecDepth 100000
set_option maxHeartbeats 4000000 in
theorem specGetContext (bs : List UInt8) (pos : Int) (v : Value) (w : World) (hv : Rd w v bs) :
    Calls Tryd.prog 14 #[v, .int .i64 pos] w fun e w' => ∃ v', e = .returned (cxV v' (getCtx bs pos)) ∧ Own w [.own v' (getCtx bs pos).1] w' := by
  obtain ⟨A, c, rfl, hc, hl⟩ := hv.val
  have HS := ((Own.start w).nil (α := Rn)).box (b := w.heap.size) [.slice none 0 0] 34
  have F := HS.facts
  simp only [Own.Facts, Own.Cells, Nat.zero_add] at F
  by_cases h01 : pos < 0 ∨ (bs.length : Int) < pos
  · have HX := Lib.hid (show getCtx bs pos = ([], pos, 1) by unfold getCtx; rw [if_pos h01])
    rcases (show pos < 0 ∨ (0 ≤ pos ∧ (bs.length : Int) < pos) by omega) with h | ⟨h, h'⟩
    all_goals
      clear h01
      go_enter Tryd.func14, Tryd.ntmps14
      go_wp2
      rw [HX.out]
      exact bodyPost_ret (v := .tuple #[.agg #[.slice none 0 0], .int .i64 pos, .int .i64 1]) (by simp [results, Tryd.results14, go_sem, *]) rfl ⟨_, rfl, HS.drop⟩
  · obtain ⟨p, rfl⟩ : ∃ p : Nat, pos = p := ⟨pos.toNat, by omega⟩
    have hp : p ≤ bs.length := by omega
    obtain ⟨o, ho⟩ : ∃ o, ctxS bs p = o := ⟨_, rfl⟩
    have HX := Lib.hid (show getCtx bs (p : Int) = cxG p (ctxW bs p o) by unfold getCtx; rw [if_neg (by omega), Int.toNat_natCast, ctx_both bs p hp, ho])
    have HO := Lib.hid ho
    clear h01
    go_enter Tryd.func14, Tryd.ntmps14
    go_wp2_with fail
    refine (l2Read bs p _ _ (HS.old hv) hp).mono ?_
    rw [ho]
    clear ho F
    cases o with
    | none =>
      rintro e w1 ⟨v', n, ys, rfl, hs⟩
      obtain ⟨A1, c1, rfl, _, _⟩ := (hs.rd 0 rfl).val
      have H1 := HS.call hs
      have H2 := (H1.pick 1 rfl).box (b := w1.heap.size) [.slice A1 ys.length c1] 34
      have F := H2.facts
      simp only [Own.Facts, Own.Cells, List.eraseIdx_cons_succ, List.eraseIdx_cons_zero, Nat.zero_add] at F
      have H3 := (H2.pick 1 rfl).set 0 (.slice none 0 0)
      have F3 := H3.facts
      simp only [Own.Facts, Own.Cells, List.set_cons_zero, List.eraseIdx_cons_succ, List.eraseIdx_cons_zero, Nat.zero_add] at F3
      go_wp2
      rw [HX.out]
      exact bodyPost_ret (v := .tuple #[.agg #[.slice none 0 0], .int .i64 p, .int .i64 1]) (by simp [results, Tryd.results14, go_sem, *]) rfl ⟨_, rfl, H3.drop.drop.drop⟩
    | some xq =>
      obtain ⟨xs, q⟩ := xq
      rintro e wa ⟨v', rfl, hxl, hs⟩
      obtain ⟨q1, q2⟩ := ctxS_at hp HO.out
      obtain ⟨A1, c1, rfl, _, _⟩ := (hs.rd 0 rfl).val
      have H1 := HS.call hs
      have H2 := (H1.pick 1 rfl).box (b := wa.heap.size) [.slice A1 xs.length c1] 34
      have F := H2.facts
      simp only [Own.Facts, Own.Cells, List.set_cons_zero, List.cons_append, List.nil_append, List.eraseIdx_cons_succ, List.eraseIdx_cons_zero, Nat.zero_add] at F
      clear hs H1
      cases hk : ctxOk xs
      · have HX := Lib.hid (show getCtx bs (p : Int) = ([], (p : Int), 1) by rw [HX.out, ctxW, if_neg (by rw [hk]; simp)]; rfl)
        have HK := Lib.hid hk
        clear hk
        go_wp2_with fail
        refine (specPutContext xs _ _ (H2.rd 2 rfl) (by omega)).mono ?_
        rintro e wb ⟨v2, rfl, hs2⟩
        rw [HK.out]
        have H3 := H2.call hs2
        clear H2 hs2 F
        go_wp2
        (refine wp_region_ext (by kernel_rfl) (by kernel_rfl) ?_; (repeat (quiet_step (first | fail))); refine wpQuiet_nil ?_; rintro _ ⟨⟨w1, hw1⟩, rfl⟩)
        have H4 := H3.of_below hw1
        have F4 := H4.facts
        simp only [Own.Facts, Own.Cells, List.set_cons_zero, List.cons_append, List.nil_append, List.eraseIdx_cons_succ, List.eraseIdx_cons_zero, Nat.zero_add] at F4
        have H5 := (H4.pick 2 rfl).set 0 (.slice none 0 0)
        have F5 := H5.facts
        simp only [Own.Facts, Own.Cells, List.set_cons_zero, List.cons_append, List.nil_append, List.eraseIdx_cons_succ, List.eraseIdx_cons_zero, Nat.zero_add] at F5
        clear H3
        go_wp2
        rw [HX.out]
        exact bodyPost_ret (v := .tuple #[.agg #[.slice none 0 0], .int .i64 p, .int .i64 1]) (by simp [results, Tryd.results14, go_sem, *]) rfl ⟨_, rfl, H5.drop.drop.drop.drop⟩
      · have HPC := Lib.hid (show putCtx xs = ctxBytes xs by unfold putCtx; rw [if_pos hk])
        have HK := Lib.hid hk
        clear hk
        go_wp2_with fail
        refine (specPutContext xs _ _ (H2.rd 2 rfl) (by omega)).mono ?_
        rintro e wb ⟨v2, rfl, hs2⟩
        rw [HK.out]
        rw [HPC.out] at hs2
        have H3 := H2.call hs2
        clear H2 hs2 F
        obtain ⟨V, hV⟩ : ∃ V, sliced A p q c 1 = V := ⟨_, rfl⟩
        obtain ⟨S1, hS1⟩ : ∃ S : ByteArray, (⟨(ctxBytes xs).toArray⟩ : ByteArray) = S := ⟨_, rfl⟩
        obtain ⟨S2, hS2⟩ : ∃ S : ByteArray, (⟨((bs.drop p).take (q - p)).toArray⟩ : ByteArray) = S := ⟨_, rfl⟩
        have hs1 : ∀ w, (Instr.sliceAt 22 (.slice A bs.length c) (some (.int .i64 (p : Int))) (some (.int .i64 (q : Int))) none).run Tryd.prog w = .ok V w := fun w => by
          have := run_subV (P := Tryd.prog) (w := w) (z := 1) Tryd.underlying22 (by kernel_rfl) A bs.length c (p : Int) (q : Int) (by omega) (by omega) (by omega)
          rw [this, Int.toNat_natCast, Int.toNat_natCast, hV]
        have hc1 : ∀ r : Ext wb, (convert 22 9 v2).run Tryd.prog r.to = .ok (.string S1) r.to := fun r => by
          have := run_cv (P := Tryd.prog) (src := 22) (dst := 9) Tryd.underlying22 Tryd.underlying5 Tryd.underlying9 ((H3.of_below r.h).rd 0 rfl)
          rwa [hS1] at this
        have hc2 : ∀ r : Ext wb, (convert 22 9 V).run Tryd.prog r.to = .ok (.string S2) r.to := fun r => by
          have := rd_subV ((H3.of_below r.h).old hv) p q q1 q2
          rw [show sliced A p q c (Cd.z UInt8) = V from hV] at this
          have := run_cv (P := Tryd.prog) (src := 22) (dst := 9) Tryd.underlying22 Tryd.underlying5 Tryd.underlying9 this
          rwa [hS2] at this
        by_cases heq : ctxBytes xs = (bs.drop p).take (q - p)
        · have HX := Lib.hid (show getCtx bs (p : Int) = (xs, (q : Int), 0) by rw [HX.out, ctxW, if_pos ⟨HK.out, heq⟩]; rfl)
          obtain rfl : S1 = S2 := by rw [← hS1, ← hS2, heq]
          clear hV hS1 hS2 heq
          go_wp2
          (refine wp_region_ext (by kernel_rfl) (by kernel_rfl) ?_; (repeat (quiet_step (first | fail))); refine wpQuiet_nil ?_; rintro _ ⟨⟨w1, hw1⟩, rfl⟩)
          have H4 := H3.of_below hw1
          have F4 := H4.facts
          simp only [Own.Facts, Own.Cells, List.set_cons_zero, List.cons_append, List.nil_append, List.eraseIdx_cons_succ, List.eraseIdx_cons_zero, Nat.zero_add] at F4
          have H5 := (H4.pick 2 rfl).set 0 (.slice A1 xs.length c1)
          have F5 := H5.facts
          simp only [Own.Facts, Own.Cells, List.set_cons_zero, List.cons_append, List.nil_append, List.eraseIdx_cons_succ, List.eraseIdx_cons_zero, Nat.zero_add] at F5
          clear H3 hs1 hc1 hc2
          go_wp2
          rw [HX.out]
          exact bodyPost_ret (v := .tuple #[.agg #[.slice A1 xs.length c1], .int .i64 (q : Int), .int .i64 0]) (by simp [results, Tryd.results14, go_sem, *]) rfl ⟨_, rfl, (H5.drop.drop.drop.pick 1 rfl).drop⟩
        · have HX := Lib.hid (show getCtx bs (p : Int) = ([], (p : Int), 1) by rw [HX.out, ctxW, if_neg (fun h => heq h.2)]; rfl)
          have hne : (S1.toList == S2.toList) = false := by
            rw [str_eq]; simp only [decide_eq_false_iff_not]; rw [← hS1, ← hS2]; intro h; apply heq; injection h with h; simpa using h
          have hne2 : (S1.toList != S2.toList) = true := by simp only [bne, hne]; rfl
          clear hV hS1 hS2 heq
          go_wp2
          (refine wp_region_ext (by kernel_rfl) (by kernel_rfl) ?_; (repeat (quiet_step (first | fail))); refine wpQuiet_nil ?_; rintro _ ⟨⟨w1, hw1⟩, rfl⟩)
          have H4 := H3.of_below hw1
          have F4 := H4.facts
          simp only [Own.Facts, Own.Cells, List.set_cons_zero, List.cons_append, List.nil_append, List.eraseIdx_cons_succ, List.eraseIdx_cons_zero, Nat.zero_add] at F4
          have H5 := (H4.pick 2 rfl).set 0 (.slice none 0 0)
          have F5 := H5.facts
          simp only [Own.Facts, Own.Cells, List.set_cons_zero, List.cons_append, List.nil_append, List.eraseIdx_cons_succ, List.eraseIdx_cons_zero, Nat.zero_add] at F5
          clear H3 hs1 hc1 hc2
          go_wp2
          rw [HX.out]
          exact bodyPost_ret (v := .tuple #[.agg #[.slice none 0 0], .int .i64 p, .int .i64 1]) (by simp [results, Tryd.results14, go_sem, *]) rfl ⟨_, rfl, H5.drop.drop.drop.drop⟩
end Go.Proofs.YtonkdmjhlaikhaaDoor
