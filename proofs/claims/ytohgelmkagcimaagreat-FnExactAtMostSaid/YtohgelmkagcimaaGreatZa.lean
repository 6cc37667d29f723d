/- PutState: the program's side and the reference's. Replicas handed in: copies, sizes, equality; fit states. Replicas: handed in, compared, marked; valid ones. Whole: the program's side and the reference's; marks of replicas. -/
import Derived.Test.YtohgelmkagcimaaGreatYb
import Derived.Test.YtohgelmkagcimaaGreatJ4
import Derived.Test.YtohgelmkagcimaaGreatJ5
import Derived.Test.YtohgelmkagcimaaGreatL2
import Derived.Test.YtohgelmkagcimaaGreatHa
import Derived.Test.YtohgelmkagcimaaGreatJ6
import Derived.Test.YtohgelmkagcimaaGreatXa
import Derived.Test.YtohgelmkagcimaaGreatBa
namespace Go.Proofs.YtohgelmkagcimaaGreat
set_option linter.unusedSimpArgs false
set_option linter.unusedVariables false
open Go.RowKit Go.Ow
attribute [local irreducible] wpQuiet
set_option maxRecDepth 100000
theorem repsL {xs : List Rn} (h : ctxOk xs = true) : ∀ n k : Nat, k + n ≤ 8 → (repsFrom xs n k).length ≤ n * 20020
  | 0, k, _ => by simp [repsFrom]
  | n + 1, k, hk => by
    have h1 := repBytes_len h k (by omega)
    have h3 := ctx_len h
    have h2 := repsL h n (k + 1) (by omega)
    rw [repsFrom, List.length_append]; omega
theorem ctxBytes_len {xs : List Rn} (h : ctxOk xs = true) : (ctxBytes xs).length ≤ 200000 := by
  have h1 := repsL h 8 0 (by omega)
  have h2 : ∀ n k, countFrom xs n k ≤ n := by
    intro n
    induction n with
    | zero => intro k; simp [countFrom]
    | succ n ih => intro k; have := ih (k + 1); rw [countFrom]; split <;> omega
  have h3 := uv_len10 (countFrom xs 8 0) (by have := h2 8 0; omega)
  unfold ctxBytes
  rw [List.length_append]; omega
theorem lfG_ok {s : St} (h : stOk s = true) : ∀ l ∈ s.l, LfG 0 l := by
  intro l hl
  have h1 := stOk_leaf h l hl
  have h2 := okLeaf_dot (stOk_ctx' h) h1
  unfold okLeaf at h1
  simp only [Bool.and_eq_true, decide_eq_true_eq] at h1
  obtain ⟨hp, hv, _, _⟩ := h1
  unfold Go.Ow.pathOk at hp
  simp only [Bool.and_eq_true, decide_eq_true_eq, List.all_eq_true] at hp
  obtain ⟨p1, p2, p3⟩ := hp
  refine ⟨by omega, p2, fun x hx => ?_, hv, ⟨h2.1.1, by have := h2.1.2; omega⟩, by have := h2.2.1; omega, h2.2.2⟩
  have := p3 x hx
  unfold nameOk at this
  simp only [Bool.and_eq_true, decide_eq_true_eq] at this
  exact this.2
def stB (s : St) : List UInt8 := ctxBytes s.c ++ treeB 8 0 s.l
def psR (s : St) : List UInt8 × Nat := if stOk s = true then (if (stB s).length ≤ 4000 then (stB s, 0) else ([], 2)) else ([], 1)
theorem psR_no {s : St} (h : stOk s = false) : psR s = ([], 1) := by unfold psR; rw [if_neg (by simp [h])]
theorem psR_big {s : St} (h : stOk s = true) (h2 : ¬ (stB s).length ≤ 4000) : psR s = ([], 2) := by unfold psR; rw [if_pos h, if_neg h2]
theorem psR_ok {s : St} (h : stOk s = true) (h2 : (stB s).length ≤ 4000) : psR s = (stB s, 0) := by unfold psR; rw [if_pos h, if_pos h2]
theorem stB_len {s : St} (h : stOk s = true) : (stB s).length ≤ 1000000 := by
  have h1 := ctxBytes_len (stOk_ctx' h)
  have h2 := treeB_len 8 0 s.l (lfG_ok h) (stOk_len' h)
  have h3 := stOk_len' h
  have h4 : s.l.length * (70 * 8 + 230) ≤ 1000 * (70 * 8 + 230) := Nat.mul_le_mul_right _ h3
  unfold stB
  rw [List.length_append]; omega
set_option maxHeartbeats 2000000 in
theorem implPutState (s : St) (vl vc : Value) (w : World) (h1 : Rd w vl s.l) (h2 : Rd w vc s.c) (hw : ∀ y ∈ s.l, LfW y) (hc : s.c.length ≤ 1048576) :
    Calls Tryz.prog 52 #[.agg #[vl, vc]] w fun e w' => ∃ v', e = .returned (.tuple #[v', .int .i64 ((psR s).2 : Nat)]) ∧ Own w [.own v' (psR s).1] w' := by
  obtain ⟨A, c, rfl, _, hl⟩ := h1.val
  obtain ⟨A2, d2, rfl, _, hl2⟩ := h2.val
  have HW := Lib.hid hw
  clear hw
  have HS := (Own.start w).box [.slice A s.l.length c, .slice A2 s.c.length d2] 36
  cases hx : stOk s
  · have HP := Lib.hid (psR_no hx)
    go_enter Tryz.func52, Tryz.ntmps52
    go_wp2_with fail
    refine (implStateOk s _ _ _ (HS.old h1) (HS.old h2) HW.out hc).mono ?_; rintro e w1 ⟨rfl, hb⟩; (first | have H' := HS.of_below hb | have H' := HS.drew.of_below hb | have H' := (HS.box0 [_] _).of_below hb | have H' := ((HS.box0 [_] _).box0 [_] _).of_below hb | have H' := (HS.alloc _).of_below hb | have H' := ((HS.alloc _).alloc _).of_below hb); clear HS; have HS := H'; clear H'; have F := HS.facts; simp only [Own.Facts, Own.Cells, World.size_alloc, List.cons_append, List.nil_append, List.eraseIdx_cons_succ, List.eraseIdx_cons_zero, List.eraseIdx_zero, List.tail_cons, Nat.zero_add] at F
    go_wp2
    exact bodyPost_ret (v := .tuple #[.slice none 0 0, .int .i64 1]) (by simp [results, Tryz.results52, go_sem, *]) rfl ⟨_, by rw [HP.out]; rfl, by rw [HP.out]; exact (HS.nil (α := UInt8)).only⟩
  · have HX := Lib.hid hx
    obtain ⟨zs, hzs, hat, hrz⟩ := rd_pf h1
    have hln : s.l.length = zs.length := by rw [← hzs]; simp
    have hzn : zs.length ≤ 1000 := by rw [← hln]; exact stOk_len' hx
    have hgz : ∀ z ∈ zs, LfG 0 z.l := fun z hz => lfG_ok hx z.l (by rw [← hzs]; exact List.mem_map.2 ⟨z, hz, rfl⟩)
    have hcx := stOk_ctx' hx
    have hcl := ctxBytes_len hcx
    have hpc : putCtx s.c = ctxBytes s.c := by simp [putCtx, hcx]
    have HZS := Lib.hid hzs
    have HRZ := Lib.hid (And.intro hrz hat)
    have HPC := Lib.hid hpc
    have HGZ := Lib.hid hgz
    have HLN := Lib.hid hln
    clear hzs hat hrz hpc hgz hln
    go_enter Tryz.func52, Tryz.ntmps52
    go_wp2_with fail
    refine (implStateOk s _ _ _ (HS.old h1) (HS.old h2) HW.out hc).mono ?_; rintro e w1 ⟨rfl, hb⟩; (first | have H' := HS.of_below hb | have H' := HS.drew.of_below hb | have H' := (HS.box0 [_] _).of_below hb | have H' := ((HS.box0 [_] _).box0 [_] _).of_below hb | have H' := (HS.alloc _).of_below hb | have H' := ((HS.alloc _).alloc _).of_below hb); clear HS; have HS := H'; clear H'; have F := HS.facts; simp only [Own.Facts, Own.Cells, World.size_alloc, List.cons_append, List.nil_append, List.eraseIdx_cons_succ, List.eraseIdx_cons_zero, List.eraseIdx_zero, List.tail_cons, Nat.zero_add] at F
    go_wp2_with fail
    refine (implPutContext s.c _ _ (HS.old h2) hc).mono ?_; rintro e w2 ⟨v2, rfl, hs⟩; rw [HPC.out] at hs; obtain ⟨A3, c3, rfl, _, _⟩ := (hs.rd 0 rfl).val; (first | have H' := HS.call1 hs | have H' := HS.drew.call1 hs | have H' := (HS.box0 [_] _).call1 hs | have H' := ((HS.box0 [_] _).box0 [_] _).call1 hs | have H' := (HS.alloc _).call1 hs | have H' := ((HS.alloc _).alloc _).call1 hs); clear HS; have HS := H'; clear H'; have F := HS.facts; simp only [Own.Facts, Own.Cells, World.size_alloc, List.cons_append, List.nil_append, List.eraseIdx_cons_succ, List.eraseIdx_cons_zero, List.eraseIdx_zero, List.tail_cons, Nat.zero_add] at F
    go_wp2_with fail
    rw [HLN.out]
    refine (writeMap 7 0 (by omega) w [.box w.heap.size 36 [.slice A s.l.length c, .slice A2 s.c.length d2]] (ctxBytes s.c) _ zs A c _ HS (fun X w' h => ⟨by have := h.old HRZ.out.1; rw [HLN.out] at this; exact this, fun z hz => (HRZ.out.2 z hz).bel h.below⟩) HGZ.out hzn (by omega)).mono ?_
    rintro e w3 ⟨A4, c4, q, rfl, hq, HS3⟩
    have hqb : q = stB s := by rw [hq.out, HZS.out]; rfl
    have hql : q.length ≤ 1000000 := by rw [hqb]; exact stB_len HX.out
    have HQB := Lib.hid hqb
    clear hqb hq HS
    by_cases h4 : q.length ≤ 4000
    · have HP := Lib.hid (psR_ok HX.out (by rw [← HQB.out]; exact h4))
      go_wp2
      exact bodyPost_ret (v := .tuple #[.slice A4 q.length c4, .int .i64 0]) (by simp [results, Tryz.results52, go_sem, *]) rfl ⟨_, by rw [HP.out]; rfl, by rw [HP.out, ← HQB.out]; exact HS3.only⟩
    · have HP := Lib.hid (psR_big HX.out (by rw [← HQB.out]; exact h4))
      go_wp2
      exact bodyPost_ret (v := .tuple #[.slice none 0 0, .int .i64 2]) (by simp [results, Tryz.results52, go_sem, *]) rfl ⟨_, by rw [HP.out]; rfl, by rw [HP.out]; exact (HS3.nil (α := UInt8)).only⟩
theorem l4Bytes (s : St) (vl vc : Value) (w : World) (h1 : Rd w vl s.l) (h2 : Rd w vc s.c) (hx : stOk s = true) :
    Calls Tryz.prog 94 #[.agg #[vl, vc]] w fun e w' => ∃ A c, e = .returned (.slice A (stB s).length c) ∧ Own w [.own (.slice A (stB s).length c) (stB s)] w' := by
  obtain ⟨A, c, rfl, _, hl⟩ := h1.val
  obtain ⟨A2, d2, rfl, _, hl2⟩ := h2.val
  have HS := (Own.start w).box [.slice A s.l.length c, .slice A2 s.c.length d2] 36
  have hcx := stOk_ctx' hx
  have hn := stOk_len' hx
  have hcn : s.c.length ≤ 1000 := by unfold ctxOk at hcx; simp only [Bool.and_eq_true, decide_eq_true_eq] at hcx; exact hcx.2
  have hcl := ctxBytes_len hcx
  have htl := stB_len hx
  have htt : (treeB 8 0 s.l).length ≤ 1000000 := by unfold stB at htl; rw [List.length_append] at htl; omega
  have htt2 : (treeB (7 + 1) 0 s.l).length ≤ 1000000 := htt
  have HG := Lib.hid (lfG_ok hx)
  have HPC := Lib.hid (show putCtx s.c = ctxBytes s.c by simp [putCtx, hcx])
  have HB := Lib.hid (show stB s = ctxBytes s.c ++ treeB 8 0 s.l from rfl)
  clear hx
  go_enter Tryz.func94, Tryz.ntmps94
  go_wp2_with fail
  refine (specPutContext s.c _ _ (HS.old h2) (by omega)).mono ?_; rintro e w2 ⟨v2, rfl, hs⟩; rw [HPC.out] at hs; obtain ⟨A3, c3, rfl, _, _⟩ := (hs.rd 0 rfl).val; (first | have H' := HS.call1 hs | have H' := HS.drew.call1 hs | have H' := (HS.box0 [_] _).call1 hs | have H' := ((HS.box0 [_] _).box0 [_] _).call1 hs | have H' := (HS.alloc _).call1 hs | have H' := ((HS.alloc _).alloc _).call1 hs); clear HS; have HS := H'; clear H'; have F := HS.facts; simp only [Own.Facts, Own.Cells, World.size_alloc, List.cons_append, List.nil_append, List.eraseIdx_cons_succ, List.eraseIdx_cons_zero, List.eraseIdx_zero, List.tail_cons, Nat.zero_add] at F
  go_wp2_with fail
  refine (l4Tree 7 0 (by omega) s.l A c _ (HS.old h1) HG.out hn).mono ?_
  rintro e w3 ⟨A4, c4, rfl, hs⟩
  have HS3 := (HS.call hs).pick 1 rfl
  clear HS hs
  go_wp2_with (refine wp_app2 (α := UInt8) rfl _ _ 39 rfl (by kernel_rfl) _ _ HS3 rfl _ _ rfl (HS3.rd 1 rfl) (by show (_ + _) * 1 ≤ _; omega) (by omega) ?_; clear HS3; intro v4 q w4 hq hql H4)
  obtain ⟨A5, c5, rfl, _, _⟩ := (H4.rd 0 rfl).val
  have HQ := Lib.hid (show q = stB s by rw [hq.out, HB.out])
  go_ret
  exact ⟨A5, c5, by rw [← HQ.out]; rfl, by rw [← HQ.out]; exact H4.only⟩
theorem specPutState (s : St) (vl vc : Value) (w : World) (h1 : Rd w vl s.l) (h2 : Rd w vc s.c) (hw : ∀ y ∈ s.l, LfW y) :
    Calls Tryz.prog 49 #[.agg #[vl, vc]] w fun e w' => ∃ v', e = .returned (.tuple #[v', .int .i64 ((psR s).2 : Nat)]) ∧ Own w [.own v' (psR s).1] w' := by
  obtain ⟨A, c, rfl, _, hl⟩ := h1.val
  obtain ⟨A2, d2, rfl, _, hl2⟩ := h2.val
  have HW := Lib.hid hw
  clear hw
  have HS := (Own.start w).box [.slice A s.l.length c, .slice A2 s.c.length d2] 36
  cases hx : stOk s
  · have HP := Lib.hid (psR_no hx)
    go_enter Tryz.func49, Tryz.ntmps49
    go_wp2_with fail
    refine (specStateOk s _ _ _ (HS.old h1) (HS.old h2) HW.out).mono ?_; rintro e w1 ⟨rfl, hb⟩; (first | have H' := HS.of_below hb | have H' := HS.drew.of_below hb | have H' := (HS.box0 [_] _).of_below hb | have H' := ((HS.box0 [_] _).box0 [_] _).of_below hb | have H' := (HS.alloc _).of_below hb | have H' := ((HS.alloc _).alloc _).of_below hb); clear HS; have HS := H'; clear H'; have F := HS.facts; simp only [Own.Facts, Own.Cells, World.size_alloc, List.cons_append, List.nil_append, List.eraseIdx_cons_succ, List.eraseIdx_cons_zero, List.eraseIdx_zero, List.tail_cons, Nat.zero_add] at F
    go_wp2
    exact bodyPost_ret (v := .tuple #[.slice (some ⟨w1.heap.size, 0, none⟩) 0 0, .int .i64 1]) (by simp [results, Tryz.results49, go_sem, *]) rfl ⟨_, by rw [HP.out]; rfl, by rw [HP.out]; exact (HS.lit ([] : List UInt8) #[] 5 rfl rfl (by simp)).only⟩
  · have HX := Lib.hid hx
    have htl := stB_len hx
    go_enter Tryz.func49, Tryz.ntmps49
    go_wp2_with fail
    refine (specStateOk s _ _ _ (HS.old h1) (HS.old h2) HW.out).mono ?_; rintro e w1 ⟨rfl, hb⟩; (first | have H' := HS.of_below hb | have H' := HS.drew.of_below hb | have H' := (HS.box0 [_] _).of_below hb | have H' := ((HS.box0 [_] _).box0 [_] _).of_below hb | have H' := (HS.alloc _).of_below hb | have H' := ((HS.alloc _).alloc _).of_below hb); clear HS; have HS := H'; clear H'; have F := HS.facts; simp only [Own.Facts, Own.Cells, World.size_alloc, List.cons_append, List.nil_append, List.eraseIdx_cons_succ, List.eraseIdx_cons_zero, List.eraseIdx_zero, List.tail_cons, Nat.zero_add] at F
    go_wp2_with fail
    refine (l4Bytes s _ _ _ (HS.old h1) (HS.old h2) HX.out).mono ?_; rintro e w2 ⟨A3, c3, rfl, hs⟩; (first | have H' := HS.call1 hs | have H' := HS.drew.call1 hs | have H' := (HS.box0 [_] _).call1 hs | have H' := ((HS.box0 [_] _).box0 [_] _).call1 hs | have H' := (HS.alloc _).call1 hs | have H' := ((HS.alloc _).alloc _).call1 hs); clear HS; have HS := H'; clear H'; have F := HS.facts; simp only [Own.Facts, Own.Cells, World.size_alloc, List.cons_append, List.nil_append, List.eraseIdx_cons_succ, List.eraseIdx_cons_zero, List.eraseIdx_zero, List.tail_cons, Nat.zero_add] at F
    by_cases h4 : (stB s).length ≤ 4000
    · have HP := Lib.hid (psR_ok HX.out h4)
      go_wp2
      exact bodyPost_ret (v := .tuple #[.slice A3 (stB s).length c3, .int .i64 0]) (by simp [results, Tryz.results49, go_sem, *]) rfl ⟨_, by rw [HP.out]; rfl, by rw [HP.out]; exact HS.only⟩
    · have HP := Lib.hid (psR_big HX.out h4)
      go_wp2
      exact bodyPost_ret (v := .tuple #[.slice (some ⟨w2.heap.size, 0, none⟩) 0 0, .int .i64 2]) (by simp [results, Tryz.results49, go_sem, *]) rfl ⟨_, by rw [HP.out]; rfl, by rw [HP.out]; exact (HS.lit ([] : List UInt8) #[] 5 rfl rfl (by simp)).only⟩
end Go.Proofs.YtohgelmkagcimaaGreat
namespace Go.Proofs.YtohgelmkagcimaaGreat
set_option linter.unusedSimpArgs false
set_option linter.unusedVariables false
open Go.RowKit Go.Ow
attribute [local irreducible] wpQuiet
set_option maxRecDepth 100000
def fitB (s : St) : Bool := decide ((psR s).2 = 0)
def rpOk (r : Rp) : Bool := decide (0 ≤ r.id) && (decide (r.id < 8) && (fitB r.s && fitB r.d))
theorem psR_code (s : St) : (psR s).2 ≤ 2 := by
  unfold psR
  split
  · split <;> simp
  · simp
theorem implFit (s : St) (vl vc : Value) (w : World) (h1 : Rd w vl s.l) (h2 : Rd w vc s.c) (hw : ∀ y ∈ s.l, LfW y) (hc : s.c.length ≤ 1048576) :
    Calls Tryz.prog 91 #[.agg #[vl, vc]] w fun e w' => e = .returned (.bool (fitB s)) ∧ Below w.heap.size w w' := by
  obtain ⟨A, c, rfl, _, hl⟩ := h1.val
  obtain ⟨A2, d2, rfl, _, hl2⟩ := h2.val
  have HW := Lib.hid hw
  clear hw
  have HS := (Own.start w).box [.slice A s.l.length c, .slice A2 s.c.length d2] 36
  obtain ⟨T, hT⟩ : ∃ T, (psR s).1 = T := ⟨_, rfl⟩
  have hk0 := psR_code s
  obtain ⟨k, hk⟩ : ∃ k, (psR s).2 = k := ⟨_, rfl⟩
  have HT := Lib.hid (And.intro hT hk)
  have HF := Lib.hid (show fitB s = decide (k = 0) by unfold fitB; rw [hk])
  clear hT hk hk0
  go_enter Tryz.func91, Tryz.ntmps91
  go_wp2_with fail
  refine (show Calls Tryz.prog 52 _ _ (fun e w' => ∃ v', e = .returned (.tuple #[v', .int .i64 (k : Nat)]) ∧ Own _ [.own v' T] w') from by have h := implPutState s _ _ _ (HS.old h1) (HS.old h2) HW.out hc; rw [HT.out.1, HT.out.2] at h; exact h).mono ?_
  rintro e w1 ⟨v', rfl, hs⟩
  have H1 := HS.call1 hs
  go_wp2
  go_ret
  exact ⟨by rw [HF.out]; have hkb : ((k : Int) == 0) = decide (k = 0) := (by rw [Bool.eq_iff_iff]; simp); rw [← hkb]; rfl, H1.below⟩
theorem specFit (s : St) (vl vc : Value) (w : World) (h1 : Rd w vl s.l) (h2 : Rd w vc s.c) (hw : ∀ y ∈ s.l, LfW y) :
    Calls Tryz.prog 89 #[.agg #[vl, vc]] w fun e w' => e = .returned (.bool (fitB s)) ∧ Below w.heap.size w w' := by
  obtain ⟨A, c, rfl, _, hl⟩ := h1.val
  obtain ⟨A2, d2, rfl, _, hl2⟩ := h2.val
  have HW := Lib.hid hw
  clear hw
  have HS := (Own.start w).box [.slice A s.l.length c, .slice A2 s.c.length d2] 36
  obtain ⟨T, hT⟩ : ∃ T, (psR s).1 = T := ⟨_, rfl⟩
  have hk0 := psR_code s
  obtain ⟨k, hk⟩ : ∃ k, (psR s).2 = k := ⟨_, rfl⟩
  have HT := Lib.hid (And.intro hT hk)
  have HF := Lib.hid (show fitB s = decide (k = 0) by unfold fitB; rw [hk])
  clear hT hk hk0
  go_enter Tryz.func89, Tryz.ntmps89
  go_wp2_with fail
  refine (show Calls Tryz.prog 49 _ _ (fun e w' => ∃ v', e = .returned (.tuple #[v', .int .i64 (k : Nat)]) ∧ Own _ [.own v' T] w') from by have h := specPutState s _ _ _ (HS.old h1) (HS.old h2) HW.out; rw [HT.out.1, HT.out.2] at h; exact h).mono ?_
  rintro e w1 ⟨v', rfl, hs⟩
  have H1 := HS.call1 hs
  go_wp2
  go_ret
  exact ⟨by rw [HF.out]; have hkb : ((k : Int) == 0) = decide (k = 0) := (by rw [Bool.eq_iff_iff]; simp); rw [← hkb]; rfl, H1.below⟩
end Go.Proofs.YtohgelmkagcimaaGreat
namespace Go.Proofs.YtohgelmkagcimaaGreat
set_option linter.unusedSimpArgs false
set_option linter.unusedVariables false
open Go.RowKit Go.Ow
attribute [local irreducible] wpQuiet
set_option maxRecDepth 100000
/-- What is asked of a replica's parts. -/
def RpW (r : Rp) : Prop := (∀ y ∈ r.s.l, LfW y) ∧ (∀ y ∈ r.d.l, LfW y)
def RpN (r : Rp) (n : Nat) : Prop := (r.s.l.length ≤ n ∧ (∀ y ∈ r.s.l, y.p.length ≤ n) ∧ r.s.c.length ≤ n) ∧ (r.d.l.length ≤ n ∧ (∀ y ∈ r.d.l, y.p.length ≤ n) ∧ r.d.c.length ≤ n)
/-- A replica read in w. -/
structure RdR (w : World) (r : Rp) (a b c d : Value) : Prop where
  sl : Rd w a r.s.l
  sc : Rd w b r.s.c
  dl : Rd w c r.d.l
  dc : Rd w d r.d.c
theorem RdR.old {W w : World} {R : List Ds} {r : Rp} {a b c d : Value} (h : RdR W r a b c d) (HS : Own W R w) : RdR w r a b c d := ⟨HS.old h.sl, HS.old h.sc, HS.old h.dl, HS.old h.dc⟩
theorem szReplica (r : Rp) (a b c d : Value) (left : Int) (w : World) (h : RdR w r a b c d) (hw : RpW r) (h0 : left ≤ 1048576) (hl0 : -1 ≤ left) :
    Calls Tryz.prog 10 #[.agg #[.int .i64 r.id, a, b, c, d], .int .i64 left] w fun e w' => (∃ q : Int, e = .returned (.int .i64 q) ∧ -1 ≤ q ∧ q ≤ left ∧ (0 ≤ q → RpN r 1048576)) ∧ Below w.heap.size w w' := by
  have H := Lib.hid h
  obtain ⟨A1, c1, rfl, _, _⟩ := h.sl.val
  obtain ⟨A2, c2, rfl, _, _⟩ := h.sc.val
  obtain ⟨A3, c3, rfl, _, _⟩ := h.dl.val
  obtain ⟨A4, c4, rfl, _, _⟩ := h.dc.val
  have HW := Lib.hid hw
  clear hw h
  have HS := (Own.start w).box [.int .i64 r.id, .slice A1 r.s.l.length c1, .slice A2 r.s.c.length c2, .slice A3 r.d.l.length c3, .slice A4 r.d.c.length c4] 29
  go_enter Tryz.func10, Tryz.ntmps10
  go_wp2_with fail
  refine (szState r.s _ _ left _ (HS.old H.out.sl) (HS.old H.out.sc) HW.out.1 h0 hl0).mono ?_; rintro e w1 ⟨⟨q, rfl, hq1, hq2, hq3⟩, hb⟩; (first | have H' := HS.of_below hb | have H' := HS.drew.of_below hb | have H' := (HS.box0 [_] _).of_below hb | have H' := ((HS.box0 [_] _).box0 [_] _).of_below hb | have H' := (HS.alloc _).of_below hb | have H' := ((HS.alloc _).alloc _).of_below hb); clear HS; have HS := H'; clear H'; have F := HS.facts; simp only [Own.Facts, Own.Cells, World.size_alloc, List.cons_append, List.nil_append, List.eraseIdx_cons_succ, List.eraseIdx_cons_zero, List.eraseIdx_zero, List.tail_cons, Nat.zero_add] at F
  have HQ3 := Lib.hid hq3
  clear hq3
  by_cases hq : q < 0
  · go_wp2
    go_ret
    exact ⟨⟨-1, rfl, by omega, by omega, fun h => by omega⟩, HS.below⟩
  · go_wp2_with fail
    refine (szState r.d _ _ q _ (HS.old H.out.dl) (HS.old H.out.dc) HW.out.2 (by omega) (by omega)).mono ?_; rintro e w2 ⟨⟨p, rfl, hp1, hp2, hp3⟩, hb⟩; (first | have H' := HS.of_below hb | have H' := HS.drew.of_below hb | have H' := (HS.box0 [_] _).of_below hb | have H' := ((HS.box0 [_] _).box0 [_] _).of_below hb | have H' := (HS.alloc _).of_below hb | have H' := ((HS.alloc _).alloc _).of_below hb); clear HS; have HS := H'; clear H'; have F := HS.facts; simp only [Own.Facts, Own.Cells, World.size_alloc, List.cons_append, List.nil_append, List.eraseIdx_cons_succ, List.eraseIdx_cons_zero, List.eraseIdx_zero, List.tail_cons, Nat.zero_add] at F
    have HP3 := Lib.hid hp3
    clear hp3
    by_cases hp : p < 0
    · go_wp2
      go_ret
      exact ⟨⟨-1, rfl, by omega, by omega, fun h => by omega⟩, HS.below⟩
    · obtain ⟨g1, g2, g3⟩ := HQ3.out (by omega)
      obtain ⟨g4, g5, g6⟩ := HP3.out (by omega)
      have HN := Lib.hid (show RpN r 1048576 from ⟨⟨by omega, fun y hy => by have := g2 y hy; omega, by omega⟩, ⟨by omega, fun y hy => by have := g5 y hy; omega, by omega⟩⟩)
      clear g1 g2 g3 g4 g5 g6
      go_wp2
      go_ret
      exact ⟨⟨p, rfl, by omega, by omega, fun _ => HN.out⟩, HS.below⟩
theorem toReplica (r : Rp) (a b c d : Value) (w : World) (h : RdR w r a b c d) (hn : RpN r 1048576) :
    Calls Tryz.prog 12 #[.agg #[.int .i64 r.id, a, b, c, d]] w fun e w' => ∃ a b c d, e = .returned (.agg #[.int .i64 r.id, a, b, c, d]) ∧ Own w [.own a r.s.l, .own b r.s.c, .own c r.d.l, .own d r.d.c] w' := by
  have H := Lib.hid h
  obtain ⟨A1, c1, rfl, _, _⟩ := h.sl.val
  obtain ⟨A2, c2, rfl, _, _⟩ := h.sc.val
  obtain ⟨A3, c3, rfl, _, _⟩ := h.dl.val
  obtain ⟨A4, c4, rfl, _, _⟩ := h.dc.val
  have HN := Lib.hid hn
  clear hn h
  have HS := (((Own.start w).box [.int .i64 r.id, .slice A1 r.s.l.length c1, .slice A2 r.s.c.length c2, .slice A3 r.d.l.length c3, .slice A4 r.d.c.length c4] 29).box (b := w.heap.size + 1) [.int .i64 0, .slice none 0 0, .slice none 0 0, .slice none 0 0, .slice none 0 0] 38).box (b := w.heap.size + 1 + 1) [.int .i64 r.id, .slice none 0 0, .slice none 0 0, .slice none 0 0, .slice none 0 0] 38
  go_enter Tryz.func12, Tryz.ntmps12
  go_wp2_with fail
  refine (toState r.s _ _ _ (HS.old H.out.sl) (HS.old H.out.sc) HN.out.1.1 HN.out.1.2.1 HN.out.1.2.2).mono ?_; rintro e w1 ⟨ul, uc, rfl, hs⟩; obtain ⟨A5, c5, rfl, _, _⟩ := (hs.rd 0 rfl).val; obtain ⟨A6, c6, rfl, _, _⟩ := (hs.rd 1 rfl).val; (first | have H' := HS.call2 hs | have H' := HS.drew.call2 hs | have H' := (HS.box0 [_] _).call2 hs | have H' := ((HS.box0 [_] _).box0 [_] _).call2 hs | have H' := (HS.alloc _).call2 hs | have H' := ((HS.alloc _).alloc _).call2 hs); clear HS; have HS := H'; clear H'; have F := HS.facts; simp only [Own.Facts, Own.Cells, World.size_alloc, List.cons_append, List.nil_append, List.eraseIdx_cons_succ, List.eraseIdx_cons_zero, List.eraseIdx_zero, List.tail_cons, Nat.zero_add] at F
  replace HS := ((HS.pick 2 rfl).set 1 (.slice A5 r.s.l.length c5)).set 2 (.slice A6 r.s.c.length c6)
  simp only [List.set_cons_zero, List.set_cons_succ, List.eraseIdx_cons_succ, List.eraseIdx_cons_zero] at HS
  have F := HS.facts; simp only [Own.Facts, Own.Cells, World.size_alloc, List.cons_append, List.nil_append, List.eraseIdx_cons_succ, List.eraseIdx_cons_zero, List.eraseIdx_zero, List.tail_cons, Nat.zero_add] at F
  go_wp2_with fail
  refine (toState r.d _ _ _ (HS.old H.out.dl) (HS.old H.out.dc) HN.out.2.1 HN.out.2.2.1 HN.out.2.2.2).mono ?_; rintro e w2 ⟨ul, uc, rfl, hs⟩; obtain ⟨A7, c7, rfl, _, _⟩ := (hs.rd 0 rfl).val; obtain ⟨A8, c8, rfl, _, _⟩ := (hs.rd 1 rfl).val; (first | have H' := HS.call2 hs | have H' := HS.drew.call2 hs | have H' := (HS.box0 [_] _).call2 hs | have H' := ((HS.box0 [_] _).box0 [_] _).call2 hs | have H' := (HS.alloc _).call2 hs | have H' := ((HS.alloc _).alloc _).call2 hs); clear HS; have HS := H'; clear H'; have F := HS.facts; simp only [Own.Facts, Own.Cells, World.size_alloc, List.cons_append, List.nil_append, List.eraseIdx_cons_succ, List.eraseIdx_cons_zero, List.eraseIdx_zero, List.tail_cons, Nat.zero_add] at F
  go_wp2
  have H2 := ((HS.pick 2 rfl).set 3 (.slice A7 r.d.l.length c7)).set 4 (.slice A8 r.d.c.length c8)
  have F2 := H2.facts
  have H3 := (((((H2.drop.pick 4 rfl).set 0 (.int .i64 r.id)).set 1 (.slice A5 r.s.l.length c5)).set 2 (.slice A6 r.s.c.length c6)).set 3 (.slice A7 r.d.l.length c7)).set 4 (.slice A8 r.d.c.length c8)
  have H4 := (((H3.drop.pick 4 rfl).drop.pick 3 rfl).pick 3 rfl)
  exact bodyPost_ret (v := .agg #[.int .i64 r.id, .slice A5 r.s.l.length c5, .slice A6 r.s.c.length c6, .slice A7 r.d.l.length c7, .slice A8 r.d.c.length c8]) (by simp [results, Tryz.results12, go_sem, *]) rfl ⟨_, _, _, _, rfl, H4⟩
theorem eqReplica (r q : Rp) (a b c d a' b' c' d' : Value) (w : World) (h : RdR w r a b c d) (h' : RdR w q a' b' c' d') :
    Calls Tryz.prog 14 #[.agg #[.int .i64 r.id, a, b, c, d], .agg #[.int .i64 q.id, a', b', c', d']] w fun e w' => e = .returned (.bool (decide (r = q))) ∧ Below w.heap.size w w' := by
  have H := Lib.hid h
  have H' := Lib.hid h'
  obtain ⟨A1, c1, rfl, _, _⟩ := h.sl.val
  obtain ⟨A2, c2, rfl, _, _⟩ := h.sc.val
  obtain ⟨A3, c3, rfl, _, _⟩ := h.dl.val
  obtain ⟨A4, c4, rfl, _, _⟩ := h.dc.val
  obtain ⟨A5, c5, rfl, _, _⟩ := h'.sl.val
  obtain ⟨A6, c6, rfl, _, _⟩ := h'.sc.val
  obtain ⟨A7, c7, rfl, _, _⟩ := h'.dl.val
  obtain ⟨A8, c8, rfl, _, _⟩ := h'.dc.val
  clear h h'
  have HS := ((Own.start w).box [.int .i64 r.id, .slice A1 r.s.l.length c1, .slice A2 r.s.c.length c2, .slice A3 r.d.l.length c3, .slice A4 r.d.c.length c4] 38).box (b := w.heap.size + 1) [.int .i64 q.id, .slice A5 q.s.l.length c5, .slice A6 q.s.c.length c6, .slice A7 q.d.l.length c7, .slice A8 q.d.c.length c8] 38
  have HD := Lib.hid (show decide (r = q) = (decide (r.id = q.id) && (decide (r.s = q.s) && decide (r.d = q.d))) by
    obtain ⟨i, s, d⟩ := r
    obtain ⟨i', s', d'⟩ := q
    rw [Bool.eq_iff_iff]; simp)
  by_cases e0 : r.id = q.id
  · have e0b : (r.id != q.id) = false := by simp [e0]
    have HD2 := Lib.hid (show decide (r = q) = (decide (r.s = q.s) && decide (r.d = q.d)) by rw [HD.out, decide_eq_true e0]; rfl)
    clear e0
    by_cases e1 : r.s = q.s
    · have e1b : decide (r.s = q.s) = true := by simp [e1]
      have HD3 := Lib.hid (show decide (r = q) = decide (r.d = q.d) by rw [HD2.out, e1b]; rfl)
      clear e1
      cases e2 : decide (r.d = q.d)
      all_goals
        go_enter Tryz.func14, Tryz.ntmps14
        go_wp2_with fail
        refine (eqState r.s q.s _ _ _ _ _ (HS.old H.out.sl) (HS.old H.out.sc) (HS.old H'.out.sl) (HS.old H'.out.sc)).mono ?_; rintro e w1 ⟨rfl, hb⟩; (first | have H' := HS.of_below hb | have H' := HS.drew.of_below hb | have H' := (HS.box0 [_] _).of_below hb | have H' := ((HS.box0 [_] _).box0 [_] _).of_below hb | have H' := (HS.alloc _).of_below hb | have H' := ((HS.alloc _).alloc _).of_below hb); clear HS; have HS := H'; clear H'; have F := HS.facts; simp only [Own.Facts, Own.Cells, World.size_alloc, List.cons_append, List.nil_append, List.eraseIdx_cons_succ, List.eraseIdx_cons_zero, List.eraseIdx_zero, List.tail_cons, Nat.zero_add] at F
        rw [e1b]
        go_wp2_with fail
        refine (eqState r.d q.d _ _ _ _ _ (HS.old H.out.dl) (HS.old H.out.dc) (HS.old H'.out.dl) (HS.old H'.out.dc)).mono ?_; rintro e w2 ⟨rfl, hb⟩; (first | have H' := HS.of_below hb | have H' := HS.drew.of_below hb | have H' := (HS.box0 [_] _).of_below hb | have H' := ((HS.box0 [_] _).box0 [_] _).of_below hb | have H' := (HS.alloc _).of_below hb | have H' := ((HS.alloc _).alloc _).of_below hb); clear HS; have HS := H'; clear H'; have F := HS.facts; simp only [Own.Facts, Own.Cells, World.size_alloc, List.cons_append, List.nil_append, List.eraseIdx_cons_succ, List.eraseIdx_cons_zero, List.eraseIdx_zero, List.tail_cons, Nat.zero_add] at F
        rw [e2]
        go_wp2
        go_ret
        exact ⟨by rw [HD3.out, e2]; rfl, HS.below⟩
    · have e1b : decide (r.s = q.s) = false := by simp [e1]
      have HD3 := Lib.hid (show decide (r = q) = false by rw [HD2.out, e1b]; rfl)
      clear e1
      go_enter Tryz.func14, Tryz.ntmps14
      go_wp2_with fail
      refine (eqState r.s q.s _ _ _ _ _ (HS.old H.out.sl) (HS.old H.out.sc) (HS.old H'.out.sl) (HS.old H'.out.sc)).mono ?_; rintro e w1 ⟨rfl, hb⟩; (first | have H' := HS.of_below hb | have H' := HS.drew.of_below hb | have H' := (HS.box0 [_] _).of_below hb | have H' := ((HS.box0 [_] _).box0 [_] _).of_below hb | have H' := (HS.alloc _).of_below hb | have H' := ((HS.alloc _).alloc _).of_below hb); clear HS; have HS := H'; clear H'; have F := HS.facts; simp only [Own.Facts, Own.Cells, World.size_alloc, List.cons_append, List.nil_append, List.eraseIdx_cons_succ, List.eraseIdx_cons_zero, List.eraseIdx_zero, List.tail_cons, Nat.zero_add] at F
      rw [e1b]
      go_wp2
      go_ret
      exact ⟨by rw [HD3.out]; rfl, HS.below⟩
  · have e0b : (r.id != q.id) = true := by simp [e0]
    have HD3 := Lib.hid (show decide (r = q) = false by rw [HD.out, decide_eq_false e0]; rfl)
    clear e0
    go_enter Tryz.func14, Tryz.ntmps14
    go_wp2
    go_ret
    exact ⟨by rw [HD3.out]; rfl, HS.below⟩
theorem implReplicaOk (r : Rp) (a b c d : Value) (w : World) (h : RdR w r a b c d) (hw : RpW r) (hn : RpN r 1048576) :
    Calls Tryz.prog 51 #[.agg #[.int .i64 r.id, a, b, c, d]] w fun e w' => e = .returned (.bool (rpOk r)) ∧ Below w.heap.size w w' := by
  have H := Lib.hid h
  obtain ⟨A1, c1, rfl, _, _⟩ := h.sl.val
  obtain ⟨A2, c2, rfl, _, _⟩ := h.sc.val
  obtain ⟨A3, c3, rfl, _, _⟩ := h.dl.val
  obtain ⟨A4, c4, rfl, _, _⟩ := h.dc.val
  have HW := Lib.hid hw
  have HN := Lib.hid hn
  clear hw h hn
  have HS := (Own.start w).box [.int .i64 r.id, .slice A1 r.s.l.length c1, .slice A2 r.s.c.length c2, .slice A3 r.d.l.length c3, .slice A4 r.d.c.length c4] 38
  by_cases i0 : 0 ≤ r.id
  · have i0b : decide (0 ≤ r.id) = true := by simpa using i0
    by_cases i1 : r.id < 8
    · have i1b : decide (r.id < 8) = true := by simpa using i1
      cases f1 : fitB r.s
      · have HD := Lib.hid (show rpOk r = false by unfold rpOk; rw [f1]; simp)
        go_enter Tryz.func51, Tryz.ntmps51
        go_wp2_with fail
        refine (implFit r.s _ _ _ (HS.old H.out.sl) (HS.old H.out.sc) HW.out.1 HN.out.1.2.2).mono ?_; rintro e w1 ⟨rfl, hb⟩; (first | have H' := HS.of_below hb | have H' := HS.drew.of_below hb | have H' := (HS.box0 [_] _).of_below hb | have H' := ((HS.box0 [_] _).box0 [_] _).of_below hb | have H' := (HS.alloc _).of_below hb | have H' := ((HS.alloc _).alloc _).of_below hb); clear HS; have HS := H'; clear H'; have F := HS.facts; simp only [Own.Facts, Own.Cells, World.size_alloc, List.cons_append, List.nil_append, List.eraseIdx_cons_succ, List.eraseIdx_cons_zero, List.eraseIdx_zero, List.tail_cons, Nat.zero_add] at F
        rw [f1]
        go_wp2
        go_ret
        exact ⟨by rw [HD.out]; rfl, HS.below⟩
      · cases f2 : fitB r.d
        all_goals
          have HD := Lib.hid (show rpOk r = fitB r.d by unfold rpOk; rw [f1, i0b, i1b]; simp)
          go_enter Tryz.func51, Tryz.ntmps51
          go_wp2_with fail
          refine (implFit r.s _ _ _ (HS.old H.out.sl) (HS.old H.out.sc) HW.out.1 HN.out.1.2.2).mono ?_; rintro e w1 ⟨rfl, hb⟩; (first | have H' := HS.of_below hb | have H' := HS.drew.of_below hb | have H' := (HS.box0 [_] _).of_below hb | have H' := ((HS.box0 [_] _).box0 [_] _).of_below hb | have H' := (HS.alloc _).of_below hb | have H' := ((HS.alloc _).alloc _).of_below hb); clear HS; have HS := H'; clear H'; have F := HS.facts; simp only [Own.Facts, Own.Cells, World.size_alloc, List.cons_append, List.nil_append, List.eraseIdx_cons_succ, List.eraseIdx_cons_zero, List.eraseIdx_zero, List.tail_cons, Nat.zero_add] at F
          rw [f1]
          go_wp2_with fail
          refine (implFit r.d _ _ _ (HS.old H.out.dl) (HS.old H.out.dc) HW.out.2 HN.out.2.2.2).mono ?_; rintro e w2 ⟨rfl, hb⟩; (first | have H' := HS.of_below hb | have H' := HS.drew.of_below hb | have H' := (HS.box0 [_] _).of_below hb | have H' := ((HS.box0 [_] _).box0 [_] _).of_below hb | have H' := (HS.alloc _).of_below hb | have H' := ((HS.alloc _).alloc _).of_below hb); clear HS; have HS := H'; clear H'; have F := HS.facts; simp only [Own.Facts, Own.Cells, World.size_alloc, List.cons_append, List.nil_append, List.eraseIdx_cons_succ, List.eraseIdx_cons_zero, List.eraseIdx_zero, List.tail_cons, Nat.zero_add] at F
          rw [f2]
          go_wp2
          go_ret
          exact ⟨by rw [HD.out, f2]; rfl, HS.below⟩
    · have i1b : decide (r.id < 8) = false := by simpa using i1
      have HD := Lib.hid (show rpOk r = false by unfold rpOk; rw [i1b]; simp)
      go_enter Tryz.func51, Tryz.ntmps51
      go_wp2
      go_ret
      exact ⟨by rw [HD.out]; rfl, HS.below⟩
  · have i0b : decide (0 ≤ r.id) = false := by simpa using i0
    have HD := Lib.hid (show rpOk r = false by unfold rpOk; rw [i0b]; rfl)
    go_enter Tryz.func51, Tryz.ntmps51
    go_wp2
    go_ret
    exact ⟨by rw [HD.out]; rfl, HS.below⟩
theorem specReplicaOk (r : Rp) (a b c d : Value) (w : World) (h : RdR w r a b c d) (hw : RpW r) (hn : RpN r 1048576) :
    Calls Tryz.prog 45 #[.agg #[.int .i64 r.id, a, b, c, d]] w fun e w' => e = .returned (.bool (rpOk r)) ∧ Below w.heap.size w w' := by
  have H := Lib.hid h
  obtain ⟨A1, c1, rfl, _, _⟩ := h.sl.val
  obtain ⟨A2, c2, rfl, _, _⟩ := h.sc.val
  obtain ⟨A3, c3, rfl, _, _⟩ := h.dl.val
  obtain ⟨A4, c4, rfl, _, _⟩ := h.dc.val
  have HW := Lib.hid hw
  have HN := Lib.hid hn
  clear hw h hn
  have HS := (Own.start w).box [.int .i64 r.id, .slice A1 r.s.l.length c1, .slice A2 r.s.c.length c2, .slice A3 r.d.l.length c3, .slice A4 r.d.c.length c4] 38
  by_cases i0 : 0 ≤ r.id
  · have i0b : decide (0 ≤ r.id) = true := by simpa using i0
    by_cases i1 : r.id < 8
    · have i1b : decide (r.id < 8) = true := by simpa using i1
      cases f1 : fitB r.s
      · have HD := Lib.hid (show rpOk r = false by unfold rpOk; rw [f1]; simp)
        go_enter Tryz.func45, Tryz.ntmps45
        go_wp2_with fail
        refine (specFit r.s _ _ _ (HS.old H.out.sl) (HS.old H.out.sc) HW.out.1).mono ?_; rintro e w1 ⟨rfl, hb⟩; (first | have H' := HS.of_below hb | have H' := HS.drew.of_below hb | have H' := (HS.box0 [_] _).of_below hb | have H' := ((HS.box0 [_] _).box0 [_] _).of_below hb | have H' := (HS.alloc _).of_below hb | have H' := ((HS.alloc _).alloc _).of_below hb); clear HS; have HS := H'; clear H'; have F := HS.facts; simp only [Own.Facts, Own.Cells, World.size_alloc, List.cons_append, List.nil_append, List.eraseIdx_cons_succ, List.eraseIdx_cons_zero, List.eraseIdx_zero, List.tail_cons, Nat.zero_add] at F
        rw [f1]
        go_wp2
        go_ret
        exact ⟨by rw [HD.out]; rfl, HS.below⟩
      · cases f2 : fitB r.d
        all_goals
          have HD := Lib.hid (show rpOk r = fitB r.d by unfold rpOk; rw [f1, i0b, i1b]; simp)
          go_enter Tryz.func45, Tryz.ntmps45
          go_wp2_with fail
          refine (specFit r.s _ _ _ (HS.old H.out.sl) (HS.old H.out.sc) HW.out.1).mono ?_; rintro e w1 ⟨rfl, hb⟩; (first | have H' := HS.of_below hb | have H' := HS.drew.of_below hb | have H' := (HS.box0 [_] _).of_below hb | have H' := ((HS.box0 [_] _).box0 [_] _).of_below hb | have H' := (HS.alloc _).of_below hb | have H' := ((HS.alloc _).alloc _).of_below hb); clear HS; have HS := H'; clear H'; have F := HS.facts; simp only [Own.Facts, Own.Cells, World.size_alloc, List.cons_append, List.nil_append, List.eraseIdx_cons_succ, List.eraseIdx_cons_zero, List.eraseIdx_zero, List.tail_cons, Nat.zero_add] at F
          rw [f1]
          go_wp2_with fail
          refine (specFit r.d _ _ _ (HS.old H.out.dl) (HS.old H.out.dc) HW.out.2).mono ?_; rintro e w2 ⟨rfl, hb⟩; (first | have H' := HS.of_below hb | have H' := HS.drew.of_below hb | have H' := (HS.box0 [_] _).of_below hb | have H' := ((HS.box0 [_] _).box0 [_] _).of_below hb | have H' := (HS.alloc _).of_below hb | have H' := ((HS.alloc _).alloc _).of_below hb); clear HS; have HS := H'; clear H'; have F := HS.facts; simp only [Own.Facts, Own.Cells, World.size_alloc, List.cons_append, List.nil_append, List.eraseIdx_cons_succ, List.eraseIdx_cons_zero, List.eraseIdx_zero, List.tail_cons, Nat.zero_add] at F
          rw [f2]
          go_wp2
          go_ret
          exact ⟨by rw [HD.out, f2]; rfl, HS.below⟩
    · have i1b : decide (r.id < 8) = false := by simpa using i1
      have HD := Lib.hid (show rpOk r = false by unfold rpOk; rw [i1b]; simp)
      go_enter Tryz.func45, Tryz.ntmps45
      go_wp2
      go_ret
      exact ⟨by rw [HD.out]; rfl, HS.below⟩
  · have i0b : decide (0 ≤ r.id) = false := by simpa using i0
    have HD := Lib.hid (show rpOk r = false by unfold rpOk; rw [i0b]; rfl)
    go_enter Tryz.func45, Tryz.ntmps45
    go_wp2
    go_ret
    exact ⟨by rw [HD.out]; rfl, HS.below⟩
end Go.Proofs.YtohgelmkagcimaaGreat
namespace Go.Proofs.YtohgelmkagcimaaGreat
set_option linter.unusedSimpArgs false
set_option linter.unusedVariables false
open Go.RowKit Go.Ow
attribute [local irreducible] wpQuiet
set_option maxRecDepth 100000
def whR (r : Rp) : Int × List UInt8 := if rpOk r = true then (2, (psR r.s).1) else (0, [])
theorem markReplica {W : World} {R : List Ds} (r : Rp) (a b c d : Value) (k : Nat) (w : World) (HS : Own W (.own a r.s.l :: .own b r.s.c :: .own c r.d.l :: .own d r.d.c :: R) w) (hk : k + msz r.s + msz r.d ≤ 4611686018427387904) :
    Calls Tryz.prog 16 #[.agg #[.int .i64 r.id, a, b, c, d], .int .i64 k] w fun e w' => e = .returned (.int .i64 ((k + msz r.s + msz r.d : Nat) : Int)) ∧ Own W (.own a (mst r.s k).l :: .own b (mst r.s k).c :: .own c (mst r.d (k + msz r.s)).l :: .own d (mst r.d (k + msz r.s)).c :: R) w' := by
  obtain ⟨A1, c1, rfl, _, _⟩ := (HS.rd 0 rfl).val
  obtain ⟨A2, c2, rfl, _, _⟩ := (HS.rd 1 rfl).val
  obtain ⟨A3, c3, rfl, _, _⟩ := (HS.rd 2 rfl).val
  obtain ⟨A4, c4, rfl, _, _⟩ := (HS.rd 3 rfl).val
  have m1 : lsz r.s.l ≤ msz r.s := by unfold msz; omega
  have m2 : lsz r.d.l ≤ msz r.d := by unfold msz; omega
  replace HS := HS.box (b := w.heap.size) [.int .i64 r.id, .slice A1 r.s.l.length c1, .slice A2 r.s.c.length c2, .slice A3 r.d.l.length c3, .slice A4 r.d.c.length c4] 38
  go_enter Tryz.func16, Tryz.ntmps16
  go_wp2_with fail
  refine (markState r.s _ _ k _ ((HS.pick 2 rfl).pick 2 rfl) (by omega)).mono ?_
  rintro e w1 ⟨rfl, H1⟩
  have F := (H1.pick 2 rfl).only.facts
  simp only [Own.Facts, Own.Cells, Nat.zero_add, Nat.reduceAdd, and_true] at F
  go_wp2_with fail
  refine (markState r.d _ _ (k + msz r.s) _ ((H1.pick 4 rfl).pick 4 rfl) (by omega)).mono ?_
  rintro e w2 ⟨rfl, H2⟩
  have H3 := ((H2.pick 4 rfl).drop.pick 3 rfl).pick 3 rfl
  simp only [List.eraseIdx_cons_succ, List.eraseIdx_cons_zero] at H3
  clear F
  go_wp2
  go_ret
  exact ⟨rfl, H3⟩
theorem heldFrame {W : World} {R : List Ds} (k0 : Int) (xs : List UInt8) (v : Value) (k : Nat) (w : World) (HS : Own W (.own v (bmarks xs.length k) :: R) w) (hk : k ≤ 4611686018427387904) (hx : xs.length ≤ 140737488355328) : Calls Tryz.prog 19 #[.agg #[.int .i64 k0, v], .int .i64 k] w fun e w' => e = .returned (.int .i64 ((k + xs.length : Nat) : Int)) ∧ Below w.heap.size w w' := by
  obtain ⟨A, c, rfl, hc, hl⟩ := (HS.rd 0 rfl).val
  have H0 := HS.alloc (.cells #[.int .i64 k0, .slice A (bmarks xs.length k).length c] 41)
  have HB := (Own.start w).alloc (.cells #[.int .i64 k0, .slice A (bmarks xs.length k).length c] 41)
  have hnn : (0 : Int) ≤ ((k + xs.length : Nat) : Int) := by omega
  go_enter Tryz.func19, Tryz.ntmps19
  go_wp2_with fail
  refine (heldByteS xs _ k _ H0 hk hx).mono ?_
  rintro e w1 ⟨rfl, hb1⟩
  have H1 := HB.of_below hb1
  go_wp2
  go_ret
  exact ⟨rfl, H1.below⟩
end Go.Proofs.YtohgelmkagcimaaGreat
