/- PutState: the program's side and the reference's. -/
import Derived.Test.YtbcgbkeldcaalaaY5b
import Derived.Test.YtbcgbkeldcaalaaJ4
import Derived.Test.YtbcgbkeldcaalaaJ5
import Derived.Test.YtbcgbkeldcaalaaL2
namespace Go.Proofs.Ytbcgbkeldcaalaa
set_option linter.unusedSimpArgs false
set_option linter.unusedVariables false
open Go.RowKit Go.Ow
attribute [local irreducible] wpQuiet
set_option maxRecDepth 100000
theorem repsL {xs : List Rn} (h : ctxOk xs = true) : ∀ n k : Nat, k + n ≤ 8 → (repsFrom xs n k).length ≤ n * 20020
  | 0, k, _ => by simp [repsFrom]
  | n + 1, k, hk => by
    have h1 := repBytes_len h k (by omega)
    have h3 := ctx_len h
    have h2 := repsL h n (k + 1) (by omega)
    rw [repsFrom, List.length_append]; omega
theorem ctxBytes_len {xs : List Rn} (h : ctxOk xs = true) : (ctxBytes xs).length ≤ 200000 := by
  have h1 := repsL h 8 0 (by omega)
  have h2 : ∀ n k, countFrom xs n k ≤ n := by
    intro n
    induction n with
    | zero => intro k; simp [countFrom]
    | succ n ih => intro k; have := ih (k + 1); rw [countFrom]; split <;> omega
  have h3 := uv_len10 (countFrom xs 8 0) (by have := h2 8 0; omega)
  unfold ctxBytes
  rw [List.length_append]; omega
theorem lfG_ok {s : St} (h : stOk s = true) : ∀ l ∈ s.l, LfG 0 l := by
  intro l hl
  have h1 := stOk_leaf h l hl
  have h2 := okLeaf_dot (stOk_ctx' h) h1
  unfold okLeaf at h1
  simp only [Bool.and_eq_true, decide_eq_true_eq] at h1
  obtain ⟨hp, hv, _, _⟩ := h1
  unfold Go.Ow.pathOk at hp
  simp only [Bool.and_eq_true, decide_eq_true_eq, List.all_eq_true] at hp
  obtain ⟨p1, p2, p3⟩ := hp
  refine ⟨by omega, p2, fun x hx => ?_, hv, ⟨h2.1.1, by have := h2.1.2; omega⟩, by have := h2.2.1; omega, h2.2.2⟩
  have := p3 x hx
  unfold nameOk at this
  simp only [Bool.and_eq_true, decide_eq_true_eq] at this
  exact this.2
def stB (s : St) : List UInt8 := ctxBytes s.c ++ treeB 8 0 s.l
def psR (s : St) : List UInt8 × Nat := if stOk s = true then (if (stB s).length ≤ 4000 then (stB s, 0) else ([], 2)) else ([], 1)
theorem psR_no {s : St} (h : stOk s = false) : psR s = ([], 1) := by unfold psR; rw [if_neg (by simp [h])]
theorem psR_big {s : St} (h : stOk s = true) (h2 : ¬ (stB s).length ≤ 4000) : psR s = ([], 2) := by unfold psR; rw [if_pos h, if_neg h2]
theorem psR_ok {s : St} (h : stOk s = true) (h2 : (stB s).length ≤ 4000) : psR s = (stB s, 0) := by unfold psR; rw [if_pos h, if_pos h2]
theorem stB_len {s : St} (h : stOk s = true) : (stB s).length ≤ 1000000 := by
  have h1 := ctxBytes_len (stOk_ctx' h)
  have h2 := treeB_len 8 0 s.l (lfG_ok h) (stOk_len' h)
  have h3 := stOk_len' h
  have h4 : s.l.length * (70 * 8 + 230) ≤ 1000 * (70 * 8 + 230) := Nat.mul_le_mul_right _ h3
  unfold stB
  rw [List.length_append]; omega
set_option maxHeartbeats 2000000 in
theorem implPutState (s : St) (vl vc : Value) (w : World) (h1 : Rd w vl s.l) (h2 : Rd w vc s.c) (hw : ∀ y ∈ s.l, LfW y) (hc : s.c.length ≤ 1048576) :
    Calls Try.prog 16 #[.agg #[vl, vc]] w fun e w' => ∃ v', e = .returned (.tuple #[v', .int .i64 ((psR s).2 : Nat)]) ∧ Own w [.own v' (psR s).1] w' := by
  obtain ⟨A, c, rfl, _, hl⟩ := h1.val
  obtain ⟨A2, d2, rfl, _, hl2⟩ := h2.val
  have HW := Lib.hid hw
  clear hw
  have HS := (Own.start w).box [.slice A s.l.length c, .slice A2 s.c.length d2] 37
  cases hx : stOk s
  · have HP := Lib.hid (psR_no hx)
    go_enter Try.func16, Try.ntmps16
    go_wp2_with fail
    refine (implStateOk s _ _ _ (HS.old h1) (HS.old h2) HW.out hc).mono ?_; rintro e w1 ⟨rfl, hb⟩; (first | have H' := HS.of_below hb | have H' := HS.drew.of_below hb | have H' := (HS.box0 [_] _).of_below hb | have H' := ((HS.box0 [_] _).box0 [_] _).of_below hb | have H' := (HS.alloc _).of_below hb | have H' := ((HS.alloc _).alloc _).of_below hb); clear HS; have HS := H'; clear H'; have F := HS.facts; simp only [Own.Facts, Own.Cells, World.size_alloc, List.cons_append, List.nil_append, List.eraseIdx_cons_succ, List.eraseIdx_cons_zero, List.eraseIdx_zero, List.tail_cons, Nat.zero_add] at F
    go_wp2
    exact bodyPost_ret (v := .tuple #[.slice none 0 0, .int .i64 1]) (by simp [results, Try.results16, go_sem, *]) rfl ⟨_, by rw [HP.out]; rfl, by rw [HP.out]; exact (HS.nil (α := UInt8)).only⟩
  · have HX := Lib.hid hx
    obtain ⟨zs, hzs, hat, hrz⟩ := rd_pf h1
    have hln : s.l.length = zs.length := by rw [← hzs]; simp
    have hzn : zs.length ≤ 1000 := by rw [← hln]; exact stOk_len' hx
    have hgz : ∀ z ∈ zs, LfG 0 z.l := fun z hz => lfG_ok hx z.l (by rw [← hzs]; exact List.mem_map.2 ⟨z, hz, rfl⟩)
    have hcx := stOk_ctx' hx
    have hcl := ctxBytes_len hcx
    have hpc : putCtx s.c = ctxBytes s.c := by simp [putCtx, hcx]
    have HZS := Lib.hid hzs
    have HRZ := Lib.hid (And.intro hrz hat)
    have HPC := Lib.hid hpc
    have HGZ := Lib.hid hgz
    have HLN := Lib.hid hln
    clear hzs hat hrz hpc hgz hln
    go_enter Try.func16, Try.ntmps16
    go_wp2_with fail
    refine (implStateOk s _ _ _ (HS.old h1) (HS.old h2) HW.out hc).mono ?_; rintro e w1 ⟨rfl, hb⟩; (first | have H' := HS.of_below hb | have H' := HS.drew.of_below hb | have H' := (HS.box0 [_] _).of_below hb | have H' := ((HS.box0 [_] _).box0 [_] _).of_below hb | have H' := (HS.alloc _).of_below hb | have H' := ((HS.alloc _).alloc _).of_below hb); clear HS; have HS := H'; clear H'; have F := HS.facts; simp only [Own.Facts, Own.Cells, World.size_alloc, List.cons_append, List.nil_append, List.eraseIdx_cons_succ, List.eraseIdx_cons_zero, List.eraseIdx_zero, List.tail_cons, Nat.zero_add] at F
    go_wp2_with fail
    refine (implPutContext s.c _ _ (HS.old h2) hc).mono ?_; rintro e w2 ⟨v2, rfl, hs⟩; rw [HPC.out] at hs; obtain ⟨A3, c3, rfl, _, _⟩ := (hs.rd 0 rfl).val; (first | have H' := HS.call1 hs | have H' := HS.drew.call1 hs | have H' := (HS.box0 [_] _).call1 hs | have H' := ((HS.box0 [_] _).box0 [_] _).call1 hs | have H' := (HS.alloc _).call1 hs | have H' := ((HS.alloc _).alloc _).call1 hs); clear HS; have HS := H'; clear H'; have F := HS.facts; simp only [Own.Facts, Own.Cells, World.size_alloc, List.cons_append, List.nil_append, List.eraseIdx_cons_succ, List.eraseIdx_cons_zero, List.eraseIdx_zero, List.tail_cons, Nat.zero_add] at F
    go_wp2_with fail
    rw [HLN.out]
    refine (writeMap 7 0 (by omega) w [.box w.heap.size 37 [.slice A s.l.length c, .slice A2 s.c.length d2]] (ctxBytes s.c) _ zs A c _ HS (fun X w' h => ⟨by have := h.old HRZ.out.1; rw [HLN.out] at this; exact this, fun z hz => (HRZ.out.2 z hz).bel h.below⟩) HGZ.out hzn (by omega)).mono ?_
    rintro e w3 ⟨A4, c4, q, rfl, hq, HS3⟩
    have hqb : q = stB s := by rw [hq.out, HZS.out]; rfl
    have hql : q.length ≤ 1000000 := by rw [hqb]; exact stB_len HX.out
    have HQB := Lib.hid hqb
    clear hqb hq HS
    by_cases h4 : q.length ≤ 4000
    · have HP := Lib.hid (psR_ok HX.out (by rw [← HQB.out]; exact h4))
      go_wp2
      exact bodyPost_ret (v := .tuple #[.slice A4 q.length c4, .int .i64 0]) (by simp [results, Try.results16, go_sem, *]) rfl ⟨_, by rw [HP.out]; rfl, by rw [HP.out, ← HQB.out]; exact HS3.only⟩
    · have HP := Lib.hid (psR_big HX.out (by rw [← HQB.out]; exact h4))
      go_wp2
      exact bodyPost_ret (v := .tuple #[.slice none 0 0, .int .i64 2]) (by simp [results, Try.results16, go_sem, *]) rfl ⟨_, by rw [HP.out]; rfl, by rw [HP.out]; exact (HS3.nil (α := UInt8)).only⟩
theorem l4Bytes (s : St) (vl vc : Value) (w : World) (h1 : Rd w vl s.l) (h2 : Rd w vc s.c) (hx : stOk s = true) :
    Calls Try.prog 44 #[.agg #[vl, vc]] w fun e w' => ∃ A c, e = .returned (.slice A (stB s).length c) ∧ Own w [.own (.slice A (stB s).length c) (stB s)] w' := by
  obtain ⟨A, c, rfl, _, hl⟩ := h1.val
  obtain ⟨A2, d2, rfl, _, hl2⟩ := h2.val
  have HS := (Own.start w).box [.slice A s.l.length c, .slice A2 s.c.length d2] 37
  have hcx := stOk_ctx' hx
  have hn := stOk_len' hx
  have hcn : s.c.length ≤ 1000 := by unfold ctxOk at hcx; simp only [Bool.and_eq_true, decide_eq_true_eq] at hcx; exact hcx.2
  have hcl := ctxBytes_len hcx
  have htl := stB_len hx
  have htt : (treeB 8 0 s.l).length ≤ 1000000 := by unfold stB at htl; rw [List.length_append] at htl; omega
  have htt2 : (treeB (7 + 1) 0 s.l).length ≤ 1000000 := htt
  have HG := Lib.hid (lfG_ok hx)
  have HPC := Lib.hid (show putCtx s.c = ctxBytes s.c by simp [putCtx, hcx])
  have HB := Lib.hid (show stB s = ctxBytes s.c ++ treeB 8 0 s.l from rfl)
  clear hx
  go_enter Try.func44, Try.ntmps44
  go_wp2_with fail
  refine (specPutContext s.c _ _ (HS.old h2) (by omega)).mono ?_; rintro e w2 ⟨v2, rfl, hs⟩; rw [HPC.out] at hs; obtain ⟨A3, c3, rfl, _, _⟩ := (hs.rd 0 rfl).val; (first | have H' := HS.call1 hs | have H' := HS.drew.call1 hs | have H' := (HS.box0 [_] _).call1 hs | have H' := ((HS.box0 [_] _).box0 [_] _).call1 hs | have H' := (HS.alloc _).call1 hs | have H' := ((HS.alloc _).alloc _).call1 hs); clear HS; have HS := H'; clear H'; have F := HS.facts; simp only [Own.Facts, Own.Cells, World.size_alloc, List.cons_append, List.nil_append, List.eraseIdx_cons_succ, List.eraseIdx_cons_zero, List.eraseIdx_zero, List.tail_cons, Nat.zero_add] at F
  go_wp2_with fail
  refine (l4Tree 7 0 (by omega) s.l A c _ (HS.old h1) HG.out hn).mono ?_
  rintro e w3 ⟨A4, c4, rfl, hs⟩
  have HS3 := (HS.call hs).pick 1 rfl
  clear HS hs
  go_wp2_with (refine wp_app2 (α := UInt8) rfl _ _ 44 rfl (by kernel_rfl) _ _ HS3 rfl _ _ rfl (HS3.rd 1 rfl) (by show (_ + _) * 1 ≤ _; omega) (by omega) ?_; clear HS3; intro v4 q w4 hq hql H4)
  obtain ⟨A5, c5, rfl, _, _⟩ := (H4.rd 0 rfl).val
  have HQ := Lib.hid (show q = stB s by rw [hq.out, HB.out])
  go_ret
  exact ⟨A5, c5, by rw [← HQ.out]; rfl, by rw [← HQ.out]; exact H4.only⟩
theorem specPutState (s : St) (vl vc : Value) (w : World) (h1 : Rd w vl s.l) (h2 : Rd w vc s.c) (hw : ∀ y ∈ s.l, LfW y) :
    Calls Try.prog 14 #[.agg #[vl, vc]] w fun e w' => ∃ v', e = .returned (.tuple #[v', .int .i64 ((psR s).2 : Nat)]) ∧ Own w [.own v' (psR s).1] w' := by
  obtain ⟨A, c, rfl, _, hl⟩ := h1.val
  obtain ⟨A2, d2, rfl, _, hl2⟩ := h2.val
  have HW := Lib.hid hw
  clear hw
  have HS := (Own.start w).box [.slice A s.l.length c, .slice A2 s.c.length d2] 37
  cases hx : stOk s
  · have HP := Lib.hid (psR_no hx)
    go_enter Try.func14, Try.ntmps14
    go_wp2_with fail
    refine (specStateOk s _ _ _ (HS.old h1) (HS.old h2) HW.out).mono ?_; rintro e w1 ⟨rfl, hb⟩; (first | have H' := HS.of_below hb | have H' := HS.drew.of_below hb | have H' := (HS.box0 [_] _).of_below hb | have H' := ((HS.box0 [_] _).box0 [_] _).of_below hb | have H' := (HS.alloc _).of_below hb | have H' := ((HS.alloc _).alloc _).of_below hb); clear HS; have HS := H'; clear H'; have F := HS.facts; simp only [Own.Facts, Own.Cells, World.size_alloc, List.cons_append, List.nil_append, List.eraseIdx_cons_succ, List.eraseIdx_cons_zero, List.eraseIdx_zero, List.tail_cons, Nat.zero_add] at F
    go_wp2
    exact bodyPost_ret (v := .tuple #[.slice (some ⟨w1.heap.size, 0, none⟩) 0 0, .int .i64 1]) (by simp [results, Try.results14, go_sem, *]) rfl ⟨_, by rw [HP.out]; rfl, by rw [HP.out]; exact (HS.lit ([] : List UInt8) #[] 5 rfl rfl (by simp)).only⟩
  · have HX := Lib.hid hx
    have htl := stB_len hx
    go_enter Try.func14, Try.ntmps14
    go_wp2_with fail
    refine (specStateOk s _ _ _ (HS.old h1) (HS.old h2) HW.out).mono ?_; rintro e w1 ⟨rfl, hb⟩; (first | have H' := HS.of_below hb | have H' := HS.drew.of_below hb | have H' := (HS.box0 [_] _).of_below hb | have H' := ((HS.box0 [_] _).box0 [_] _).of_below hb | have H' := (HS.alloc _).of_below hb | have H' := ((HS.alloc _).alloc _).of_below hb); clear HS; have HS := H'; clear H'; have F := HS.facts; simp only [Own.Facts, Own.Cells, World.size_alloc, List.cons_append, List.nil_append, List.eraseIdx_cons_succ, List.eraseIdx_cons_zero, List.eraseIdx_zero, List.tail_cons, Nat.zero_add] at F
    go_wp2_with fail
    refine (l4Bytes s _ _ _ (HS.old h1) (HS.old h2) HX.out).mono ?_; rintro e w2 ⟨A3, c3, rfl, hs⟩; (first | have H' := HS.call1 hs | have H' := HS.drew.call1 hs | have H' := (HS.box0 [_] _).call1 hs | have H' := ((HS.box0 [_] _).box0 [_] _).call1 hs | have H' := (HS.alloc _).call1 hs | have H' := ((HS.alloc _).alloc _).call1 hs); clear HS; have HS := H'; clear H'; have F := HS.facts; simp only [Own.Facts, Own.Cells, World.size_alloc, List.cons_append, List.nil_append, List.eraseIdx_cons_succ, List.eraseIdx_cons_zero, List.eraseIdx_zero, List.tail_cons, Nat.zero_add] at F
    by_cases h4 : (stB s).length ≤ 4000
    · have HP := Lib.hid (psR_ok HX.out h4)
      go_wp2
      exact bodyPost_ret (v := .tuple #[.slice A3 (stB s).length c3, .int .i64 0]) (by simp [results, Try.results14, go_sem, *]) rfl ⟨_, by rw [HP.out]; rfl, by rw [HP.out]; exact HS.only⟩
    · have HP := Lib.hid (psR_big HX.out h4)
      go_wp2
      exact bodyPost_ret (v := .tuple #[.slice (some ⟨w2.heap.size, 0, none⟩) 0 0, .int .i64 2]) (by simp [results, Try.results14, go_sem, *]) rfl ⟨_, by rw [HP.out]; rfl, by rw [HP.out]; exact (HS.lit ([] : List UInt8) #[] 5 rfl rfl (by simp)).only⟩
end Go.Proofs.Ytbcgbkeldcaalaa
