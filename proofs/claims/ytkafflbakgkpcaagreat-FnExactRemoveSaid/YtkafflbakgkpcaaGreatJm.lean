/- States: the reference's checks of paths and leaves. States: the reference's order of leaves, its check of a path. Leaves that are the same, by the reference; a leaf looked for. -/
import Derived.Test.YtkafflbakgkpcaaGreatIa
import Derived.Test.YtkafflbakgkpcaaGreatL1
import Derived.Test.YtkafflbakgkpcaaGreatL2
namespace Go.Proofs.YtkafflbakgkpcaaGreat
set_option linter.unusedSimpArgs false
set_option linter.unusedVariables false
open Go.RowKit Go.Ow
attribute [local irreducible] wpQuiet
set_option maxRecDepth 100000
theorem tail_ex (P : Program) {t e : Nat} (ht : P.underlying t = some (.slice e)) (hz : ∀ w, (sizeOf e).run P w = .ok 1 w) (A : Option Addr) (c n : Nat) (hlo : 1 ≤ n) (hc : n ≤ c) :
    ∃ V, (∀ w, (Instr.sliceAt t (.slice A n c) (some (.int .i64 1)) none none).run P w = .ok V w) ∧ ∀ (w : World) (ys : List ByteArray), Rd w (.slice A n c) ys → Rd w V (ys.drop 1) := by
  refine ⟨sliced A 1 n c 1, fun w => ?_, fun w ys hr => ?_⟩
  · have he : P.elem t = e := by simp [Program.elem, ht]
    have ht' : P.underlying t = some (.slice (P.elem t)) := by rw [he]; exact ht
    rw [run_sliceAt_slice w t _ _ _ _ ht', run_slice_l w t A n c ht' .i64 1 (by omega) (by omega), he, hz]
    simp [Result.andThen]
  · obtain rfl := hr.len
    have := rd_subV hr 1 ys.length (by omega) (Nat.le_refl _)
    rw [List.take_of_length_le (by simp)] at this
    exact this
set_option maxHeartbeats 1000000 in
theorem l3Cmp (xs : List ByteArray) : ∀ (ys : List ByteArray) (v u : Value) (w : World) (hv : Rd w v xs) (hu : Rd w u ys), Calls Tryz.prog 48 #[v, u] w fun e w' => e = .returned (.int .i64 (cmpP xs ys)) ∧ Below w.heap.size w w' := by
  induction xs with
  | nil =>
    intro ys v u w hv hu
    obtain ⟨A, c, rfl, hc, hl⟩ := hv.val
    obtain ⟨B, d, rfl, hd, hm⟩ := hu.val
    have HS := Own.start w
    cases ys with
    | nil =>
      go_enter Tryz.func48, Tryz.ntmps48
      go_wp2
      go_ret
      exact ⟨rfl, HS.below⟩
    | cons y ys =>
      obtain ⟨n, hn⟩ : ∃ n, (y :: ys).length = n + 1 := ⟨_, rfl⟩
      rw [hn] at hu hd hm ⊢
      have hb : (((n + 1 : Nat) : Int) == 0) = false := by simp; omega
      go_enter Tryz.func48, Tryz.ntmps48
      go_wp2
      go_ret
      exact ⟨rfl, HS.below⟩
  | cons x xs ih =>
    intro ys v u w hv hu
    have IH := Lib.hid ih
    clear ih
    have HS := Own.start w
    obtain ⟨A, c, rfl, hc, hl⟩ := hv.val
    obtain ⟨B, d, rfl, hd, hm⟩ := hu.val
    obtain ⟨n, hn⟩ : ∃ n, (x :: xs).length = n + 1 := ⟨_, rfl⟩
    rw [hn] at hv hc hl ⊢
    have hb : (((n + 1 : Nat) : Int) == 0) = false := by simp; omega
    cases ys with
    | nil =>
      go_enter Tryz.func48, Tryz.ntmps48
      go_wp2
      go_ret
      exact ⟨rfl, HS.below⟩
    | cons y ys =>
      obtain ⟨m, hm2⟩ : ∃ m, (y :: ys).length = m + 1 := ⟨_, rfl⟩
      rw [hm2] at hu hd hm ⊢
      have hb2 : (((m + 1 : Nat) : Int) == 0) = false := by simp; omega
      obtain ⟨b, o, rfl⟩ := hv.fix (by simp)
      obtain ⟨b2, o2, rfl⟩ := hu.fix (by simp)
      obtain ⟨V1, hs1, hr1⟩ := tail_ex Tryz.prog Tryz.underlying28 (fun _ => by kernel_rfl) (some ⟨b, o, none⟩) c (n + 1) (by omega) hc
      obtain ⟨V2, hs2, hr2⟩ := tail_ex Tryz.prog Tryz.underlying28 (fun _ => by kernel_rfl) (some ⟨b2, o2, none⟩) d (m + 1) (by omega) hd
      have G : ∀ w0 : World, Own w [] w0 → ∀ p : Ext w0, p.to.cell? ⟨b, o, none⟩ = some (.string x) ∧ p.to.cell? ⟨b2, o2, none⟩ = some (.string y) := fun w0 H p =>
        ⟨by have h := Sg.rd ((H.of_below p.h).old hv) 0 (by simp); simp only [Nat.add_zero] at h; exact h, by have h := Sg.rd ((H.of_below p.h).old hu) 0 (by simp); simp only [Nat.add_zero] at h; exact h⟩
      have GR : ∀ w0 : World, Own w [] w0 → ∀ p : Ext w0, Rd p.to V1 xs ∧ Rd p.to V2 ys := fun w0 H p => ⟨hr1 _ _ ((H.of_below p.h).old hv), hr2 _ _ ((H.of_below p.h).old hu)⟩
      have GH := Lib.hid G
      have GRH := Lib.hid GR
      clear G GR hr1 hr2
      have HC := Lib.hid (cmpP_cons x y xs ys)
      have hF := GH.out w HS
      cases h1 : Op.bytesLess x.toList y.toList
      · cases h2 : (x.toList == y.toList)
        · have HQ := Lib.hid (show cmpP (x :: xs) (y :: ys) = 1 by rw [HC.out, cmpS, sLt, sGt, h1, h2]; rfl)
          go_enter Tryz.func48, Tryz.ntmps48
          go_wp2
          (refine wp_region_ext (by kernel_rfl) (by kernel_rfl) ?_; (repeat (quiet_step (first | fail))); refine wpQuiet_nil ?_; rintro _ ⟨⟨w1, hw1⟩, rfl⟩)
          have H1 := HS.of_below hw1
          clear hF
          have hF := GH.out _ H1
          go_wp2
          (refine wp_region_ext (by kernel_rfl) (by kernel_rfl) ?_; (repeat (quiet_step (first | fail))); refine wpQuiet_nil ?_; rintro _ ⟨⟨w1, hw1⟩, rfl⟩)
          have H2 := H1.of_below hw1
          clear hF
          go_wp2
          go_ret
          exact ⟨by rw [HQ.out]; rfl, H2.below⟩
        · have HQ := Lib.hid (show cmpP (x :: xs) (y :: ys) = cmpP xs ys by rw [HC.out, cmpS, sLt, sGt, h1, h2]; rfl)
          go_enter Tryz.func48, Tryz.ntmps48
          go_wp2
          (refine wp_region_ext (by kernel_rfl) (by kernel_rfl) ?_; (repeat (quiet_step (first | fail))); refine wpQuiet_nil ?_; rintro _ ⟨⟨w1, hw1⟩, rfl⟩)
          have H1 := HS.of_below hw1
          clear hF
          have hF := GH.out _ H1
          go_wp2
          (refine wp_region_ext (by kernel_rfl) (by kernel_rfl) ?_; (repeat (quiet_step (first | fail))); refine wpQuiet_nil ?_; rintro _ ⟨⟨w1, hw1⟩, rfl⟩)
          have H2 := H1.of_below hw1
          clear hF
          have hR := GRH.out _ H2
          have hR1 := fun p => (hR p).1
          have hR2 := fun p => (hR p).2
          clear hR
          go_wp2
          (refine wp_region_ext (by kernel_rfl) (by kernel_rfl) ?_; (repeat (quiet_step (first | exact q_call (IH.out ys V1 V2 _ (hR1 _) (hR2 _))))); refine wpQuiet_nil ?_; rintro _ ⟨⟨w1, hw1⟩, rfl⟩)
          have H3 := H2.of_below hw1
          clear hR1 hR2
          go_wp2
          go_ret
          exact ⟨by rw [HQ.out]; rfl, H3.below⟩
      · have HQ := Lib.hid (show cmpP (x :: xs) (y :: ys) = -1 by rw [HC.out, cmpS, sLt, h1]; rfl)
        go_enter Tryz.func48, Tryz.ntmps48
        go_wp2
        (refine wp_region_ext (by kernel_rfl) (by kernel_rfl) ?_; (repeat (quiet_step (first | fail))); refine wpQuiet_nil ?_; rintro _ ⟨⟨w1, hw1⟩, rfl⟩)
        have H1 := HS.of_below hw1
        clear hF
        go_wp2
        go_ret
        exact ⟨by rw [HQ.out]; rfl, H1.below⟩
end Go.Proofs.YtkafflbakgkpcaaGreat
namespace Go.Proofs.YtkafflbakgkpcaaGreat
set_option linter.unusedSimpArgs false
set_option linter.unusedVariables false
open Go.RowKit Go.Ow
attribute [local irreducible] wpQuiet
set_option maxRecDepth 100000
theorem l3Before (x y : Lf) (vp up : Value) (w : World) (hv : Rd w vp x.p) (hu : Rd w up y.p) :
    Calls Tryz.prog 47 #[.agg #[vp, .bool x.fl, .int .i64 x.dr, .int .i64 x.ds, .string x.v], .agg #[up, .bool y.fl, .int .i64 y.dr, .int .i64 y.ds, .string y.v]] w fun e w' => e = .returned (.bool (before x y)) ∧ Below w.heap.size w w' := by
  obtain ⟨A, c, rfl, hc, hl⟩ := hv.val
  obtain ⟨B, d, rfl, hd, hm⟩ := hu.val
  have HS := ((Own.start w).box [.slice A x.p.length c, .bool x.fl, .int .i64 x.dr, .int .i64 x.ds, .string x.v] 57).box (b := w.heap.size + 1) [.slice B y.p.length d, .bool y.fl, .int .i64 y.dr, .int .i64 y.ds, .string y.v] 57
  by_cases h0 : cmpP x.p y.p = 0
  · by_cases h1 : x.fl = y.fl
    · have h1b : (x.fl == y.fl) = true := by simp [h1]
      by_cases h2 : x.dr = y.dr
      · have h2b : (x.dr != y.dr) = false := by simp [h2]
        have HQ := Lib.hid (show before x y = decide (x.ds < y.ds) by rw [before, if_pos h0, if_pos h1, if_pos h2])
        clear h1 h2
        go_enter Tryz.func47, Tryz.ntmps47
        go_wp2_with fail
        refine (l3Cmp _ _ _ _ _ (HS.old hv) (HS.old hu)).mono ?_; rintro e w1 ⟨rfl, hb⟩; (first | have H' := HS.of_below hb | have H' := HS.drew.of_below hb | have H' := (HS.box0 [_] _).of_below hb | have H' := ((HS.box0 [_] _).box0 [_] _).of_below hb | have H' := (HS.alloc _).of_below hb | have H' := ((HS.alloc _).alloc _).of_below hb); clear HS; have HS := H'; clear H'; have F := HS.facts; simp only [Own.Facts, Own.Cells, World.size_alloc, List.cons_append, List.nil_append, List.eraseIdx_cons_succ, List.eraseIdx_cons_zero, List.eraseIdx_zero, List.tail_cons, Nat.zero_add] at F
        rw [h0]
        clear h0
        go_wp2
        go_ret
        exact ⟨by rw [HQ.out]; rfl, HS.below⟩
      · have h2b : (x.dr != y.dr) = true := by simpa using h2
        have HQ := Lib.hid (show before x y = decide (x.dr < y.dr) by rw [before, if_pos h0, if_pos h1, if_neg h2])
        clear h1
        go_enter Tryz.func47, Tryz.ntmps47
        go_wp2_with fail
        refine (l3Cmp _ _ _ _ _ (HS.old hv) (HS.old hu)).mono ?_; rintro e w1 ⟨rfl, hb⟩; (first | have H' := HS.of_below hb | have H' := HS.drew.of_below hb | have H' := (HS.box0 [_] _).of_below hb | have H' := ((HS.box0 [_] _).box0 [_] _).of_below hb | have H' := (HS.alloc _).of_below hb | have H' := ((HS.alloc _).alloc _).of_below hb); clear HS; have HS := H'; clear H'; have F := HS.facts; simp only [Own.Facts, Own.Cells, World.size_alloc, List.cons_append, List.nil_append, List.eraseIdx_cons_succ, List.eraseIdx_cons_zero, List.eraseIdx_zero, List.tail_cons, Nat.zero_add] at F
        rw [h0]
        clear h0
        go_wp2
        go_ret
        exact ⟨by rw [HQ.out]; rfl, HS.below⟩
    · have HQ := Lib.hid (show before x y = y.fl by rw [before, if_pos h0, if_neg h1])
      have h1b : (x.fl == y.fl) = false := by simpa using h1
      clear h1
      go_enter Tryz.func47, Tryz.ntmps47
      go_wp2_with fail
      refine (l3Cmp _ _ _ _ _ (HS.old hv) (HS.old hu)).mono ?_; rintro e w1 ⟨rfl, hb⟩; (first | have H' := HS.of_below hb | have H' := HS.drew.of_below hb | have H' := (HS.box0 [_] _).of_below hb | have H' := ((HS.box0 [_] _).box0 [_] _).of_below hb | have H' := (HS.alloc _).of_below hb | have H' := ((HS.alloc _).alloc _).of_below hb); clear HS; have HS := H'; clear H'; have F := HS.facts; simp only [Own.Facts, Own.Cells, World.size_alloc, List.cons_append, List.nil_append, List.eraseIdx_cons_succ, List.eraseIdx_cons_zero, List.eraseIdx_zero, List.tail_cons, Nat.zero_add] at F
      rw [h0]
      clear h0
      go_wp2
      go_ret
      exact ⟨by rw [HQ.out]; rfl, HS.below⟩
  · have HQ := Lib.hid (show before x y = decide (cmpP x.p y.p < 0) by rw [before, if_neg h0])
    have h0b : (cmpP x.p y.p != 0) = true := by simpa using h0
    go_enter Tryz.func47, Tryz.ntmps47
    go_wp2_with fail
    refine (l3Cmp _ _ _ _ _ (HS.old hv) (HS.old hu)).mono ?_; rintro e w1 ⟨rfl, hb⟩; (first | have H' := HS.of_below hb | have H' := HS.drew.of_below hb | have H' := (HS.box0 [_] _).of_below hb | have H' := ((HS.box0 [_] _).box0 [_] _).of_below hb | have H' := (HS.alloc _).of_below hb | have H' := ((HS.alloc _).alloc _).of_below hb); clear HS; have HS := H'; clear H'; have F := HS.facts; simp only [Own.Facts, Own.Cells, World.size_alloc, List.cons_append, List.nil_append, List.eraseIdx_cons_succ, List.eraseIdx_cons_zero, List.eraseIdx_zero, List.tail_cons, Nat.zero_add] at F
    go_wp2
    go_ret
    exact ⟨by rw [HQ.out]; rfl, HS.below⟩
theorem l3PathOk (xs : List ByteArray) (v : Value) (w : World) (hv : Rd w v xs) (hw : ∀ s ∈ xs, s.size ≤ 140737488351232) :
    Calls Tryz.prog 24 #[v] w fun e w' => e = .returned (.bool (pathOk xs)) ∧ Below w.heap.size w w' := by
  obtain ⟨A, c, rfl, hc, hl⟩ := hv.val
  have HS := Own.start w
  have HW := Lib.hid hw
  clear hw
  go_enter Tryz.func24, Tryz.ntmps24
  go_wp2
  go_loopw [3] (fun i wr => ∃ k : Nat, k ≤ xs.length ∧ i = .int .i64 k ∧ Own w [] wr ∧ xs.all nameOk = (xs.drop k).all nameOk) (fun i _ => xs.length - (intOf i).toNat)
  case atStart => exact ⟨0, by omega, rfl, HS, rfl⟩
  case round =>
    obtain ⟨k, hk, rfl, HS', hok⟩ := hrel
    have HOK := Lib.hid hok
    clear hok
    by_cases hlt : k < xs.length
    · obtain ⟨b, o, rfl⟩ := hv.fix (by omega)
      have r0 := Sg.rd (HS'.old hv) k hlt
      have HQ := HOK.out
      rw [List.drop_eq_getElem_cons hlt, List.all_cons] at HQ
      have hs := HW.out xs[k] (List.getElem_mem hlt)
      obtain ⟨x, hx⟩ : ∃ x, xs[k] = x := ⟨_, rfl⟩
      rw [hx] at r0 HQ hs
      clear hx
      by_cases h1 : x.size < 1
      · have hN : nameOk x = false := by unfold nameOk; rw [decide_eq_false (by omega)]; rfl
        rw [hN, Bool.false_and] at HQ
        have HQ := Lib.hid (show pathOk xs = false by unfold pathOk; rw [HQ]; simp)
        go_wp2
        go_ret
        exact ⟨by rw [HQ.out]; rfl, HS'.below⟩
      · by_cases h2 : x.size ≤ 40
        · have hN : nameOk x = true := by unfold nameOk; rw [decide_eq_true (by omega), decide_eq_true (by omega)]; rfl
          rw [hN, Bool.true_and] at HQ
          have HQ := Lib.hid HQ
          go_wp2
          go_roundw
          case rel => exact ⟨k + 1, by omega, by go_num, HS', HQ.out⟩
          case measure => simp [intOf]; omega
        · have hN : nameOk x = false := by unfold nameOk; rw [decide_eq_false (p := x.size ≤ 40) (by omega)]; simp
          rw [hN, Bool.false_and] at HQ
          have HQ := Lib.hid (show pathOk xs = false by unfold pathOk; rw [HQ]; simp)
          go_wp2
          go_ret
          exact ⟨by rw [HQ.out]; rfl, HS'.below⟩
    · have HQ := HOK.out
      rw [show xs.drop k = [] from List.drop_eq_nil_of_le (by omega)] at HQ
      by_cases h1 : 1 ≤ xs.length
      · have HQ := Lib.hid (show pathOk xs = decide (xs.length ≤ 8) by unfold pathOk; rw [HQ, decide_eq_true h1]; simp)
        go_wp2
        go_ret
        exact ⟨by rw [HQ.out]; first | (simp; done) | (simp; omega), HS'.below⟩
      · have HQ := Lib.hid (show pathOk xs = false by unfold pathOk; rw [decide_eq_false h1]; rfl)
        go_wp2
        go_ret
        exact ⟨by rw [HQ.out]; first | (simp; done) | (simp; omega), HS'.below⟩
end Go.Proofs.YtkafflbakgkpcaaGreat
namespace Go.Proofs.YtkafflbakgkpcaaGreat
set_option linter.unusedSimpArgs false
set_option linter.unusedVariables false
open Go.RowKit Go.Ow
attribute [local irreducible] wpQuiet
set_option maxRecDepth 100000
theorem lf_ext {x y : Lf} : x = y ↔ x.p = y.p ∧ x.fl = y.fl ∧ x.dr = y.dr ∧ x.ds = y.ds ∧ x.v = y.v := by
  obtain ⟨a, b, c, d, e⟩ := x
  obtain ⟨a', b', c', d', e'⟩ := y
  simp
end Go.Proofs.YtkafflbakgkpcaaGreat
