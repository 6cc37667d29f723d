/- States: the reference's order of leaves, its check of a path. -/
import Derived.Test.YtbcgbkeldcaalaaJ1
namespace Go.Proofs.Ytbcgbkeldcaalaa
set_option linter.unusedSimpArgs false
set_option linter.unusedVariables false
open Go.RowKit Go.Ow
attribute [local irreducible] wpQuiet
set_option maxRecDepth 100000
theorem l3Before (x y : Lf) (vp up : Value) (w : World) (hv : Rd w vp x.p) (hu : Rd w up y.p) :
    Calls Try.prog 72 #[.agg #[vp, .bool x.fl, .int .i64 x.dr, .int .i64 x.ds, .string x.v], .agg #[up, .bool y.fl, .int .i64 y.dr, .int .i64 y.ds, .string y.v]] w fun e w' => e = .returned (.bool (before x y)) ∧ Below w.heap.size w w' := by
  obtain ⟨A, c, rfl, hc, hl⟩ := hv.val
  obtain ⟨B, d, rfl, hd, hm⟩ := hu.val
  have HS := ((Own.start w).box [.slice A x.p.length c, .bool x.fl, .int .i64 x.dr, .int .i64 x.ds, .string x.v] 91).box (b := w.heap.size + 1) [.slice B y.p.length d, .bool y.fl, .int .i64 y.dr, .int .i64 y.ds, .string y.v] 91
  by_cases h0 : cmpP x.p y.p = 0
  · by_cases h1 : x.fl = y.fl
    · have h1b : (x.fl == y.fl) = true := by simp [h1]
      by_cases h2 : x.dr = y.dr
      · have h2b : (x.dr != y.dr) = false := by simp [h2]
        have HQ := Lib.hid (show before x y = decide (x.ds < y.ds) by rw [before, if_pos h0, if_pos h1, if_pos h2])
        clear h1 h2
        go_enter Try.func72, Try.ntmps72
        go_wp2_with fail
        refine (l3Cmp _ _ _ _ _ (HS.old hv) (HS.old hu)).mono ?_; rintro e w1 ⟨rfl, hb⟩; (first | have H' := HS.of_below hb | have H' := HS.drew.of_below hb | have H' := (HS.box0 [_] _).of_below hb | have H' := ((HS.box0 [_] _).box0 [_] _).of_below hb | have H' := (HS.alloc _).of_below hb | have H' := ((HS.alloc _).alloc _).of_below hb); clear HS; have HS := H'; clear H'; have F := HS.facts; simp only [Own.Facts, Own.Cells, World.size_alloc, List.cons_append, List.nil_append, List.eraseIdx_cons_succ, List.eraseIdx_cons_zero, List.eraseIdx_zero, List.tail_cons, Nat.zero_add] at F
        rw [h0]
        clear h0
        go_wp2
        go_ret
        exact ⟨by rw [HQ.out]; rfl, HS.below⟩
      · have h2b : (x.dr != y.dr) = true := by simpa using h2
        have HQ := Lib.hid (show before x y = decide (x.dr < y.dr) by rw [before, if_pos h0, if_pos h1, if_neg h2])
        clear h1
        go_enter Try.func72, Try.ntmps72
        go_wp2_with fail
        refine (l3Cmp _ _ _ _ _ (HS.old hv) (HS.old hu)).mono ?_; rintro e w1 ⟨rfl, hb⟩; (first | have H' := HS.of_below hb | have H' := HS.drew.of_below hb | have H' := (HS.box0 [_] _).of_below hb | have H' := ((HS.box0 [_] _).box0 [_] _).of_below hb | have H' := (HS.alloc _).of_below hb | have H' := ((HS.alloc _).alloc _).of_below hb); clear HS; have HS := H'; clear H'; have F := HS.facts; simp only [Own.Facts, Own.Cells, World.size_alloc, List.cons_append, List.nil_append, List.eraseIdx_cons_succ, List.eraseIdx_cons_zero, List.eraseIdx_zero, List.tail_cons, Nat.zero_add] at F
        rw [h0]
        clear h0
        go_wp2
        go_ret
        exact ⟨by rw [HQ.out]; rfl, HS.below⟩
    · have HQ := Lib.hid (show before x y = y.fl by rw [before, if_pos h0, if_neg h1])
      have h1b : (x.fl == y.fl) = false := by simpa using h1
      clear h1
      go_enter Try.func72, Try.ntmps72
      go_wp2_with fail
      refine (l3Cmp _ _ _ _ _ (HS.old hv) (HS.old hu)).mono ?_; rintro e w1 ⟨rfl, hb⟩; (first | have H' := HS.of_below hb | have H' := HS.drew.of_below hb | have H' := (HS.box0 [_] _).of_below hb | have H' := ((HS.box0 [_] _).box0 [_] _).of_below hb | have H' := (HS.alloc _).of_below hb | have H' := ((HS.alloc _).alloc _).of_below hb); clear HS; have HS := H'; clear H'; have F := HS.facts; simp only [Own.Facts, Own.Cells, World.size_alloc, List.cons_append, List.nil_append, List.eraseIdx_cons_succ, List.eraseIdx_cons_zero, List.eraseIdx_zero, List.tail_cons, Nat.zero_add] at F
      rw [h0]
      clear h0
      go_wp2
      go_ret
      exact ⟨by rw [HQ.out]; rfl, HS.below⟩
  · have HQ := Lib.hid (show before x y = decide (cmpP x.p y.p < 0) by rw [before, if_neg h0])
    have h0b : (cmpP x.p y.p != 0) = true := by simpa using h0
    go_enter Try.func72, Try.ntmps72
    go_wp2_with fail
    refine (l3Cmp _ _ _ _ _ (HS.old hv) (HS.old hu)).mono ?_; rintro e w1 ⟨rfl, hb⟩; (first | have H' := HS.of_below hb | have H' := HS.drew.of_below hb | have H' := (HS.box0 [_] _).of_below hb | have H' := ((HS.box0 [_] _).box0 [_] _).of_below hb | have H' := (HS.alloc _).of_below hb | have H' := ((HS.alloc _).alloc _).of_below hb); clear HS; have HS := H'; clear H'; have F := HS.facts; simp only [Own.Facts, Own.Cells, World.size_alloc, List.cons_append, List.nil_append, List.eraseIdx_cons_succ, List.eraseIdx_cons_zero, List.eraseIdx_zero, List.tail_cons, Nat.zero_add] at F
    go_wp2
    go_ret
    exact ⟨by rw [HQ.out]; rfl, HS.below⟩
theorem l3PathOk (xs : List ByteArray) (v : Value) (w : World) (hv : Rd w v xs) (hw : ∀ s ∈ xs, s.size ≤ 140737488351232) :
    Calls Try.prog 57 #[v] w fun e w' => e = .returned (.bool (pathOk xs)) ∧ Below w.heap.size w w' := by
  obtain ⟨A, c, rfl, hc, hl⟩ := hv.val
  have HS := Own.start w
  have HW := Lib.hid hw
  clear hw
  go_enter Try.func57, Try.ntmps57
  go_wp2
  go_loopw [3] (fun i wr => ∃ k : Nat, k ≤ xs.length ∧ i = .int .i64 k ∧ Own w [] wr ∧ xs.all nameOk = (xs.drop k).all nameOk) (fun i _ => xs.length - (intOf i).toNat)
  case atStart => exact ⟨0, by omega, rfl, HS, rfl⟩
  case round =>
    obtain ⟨k, hk, rfl, HS', hok⟩ := hrel
    have HOK := Lib.hid hok
    clear hok
    by_cases hlt : k < xs.length
    · obtain ⟨b, o, rfl⟩ := hv.fix (by omega)
      have r0 := Sg.rd (HS'.old hv) k hlt
      have HQ := HOK.out
      rw [List.drop_eq_getElem_cons hlt, List.all_cons] at HQ
      have hs := HW.out xs[k] (List.getElem_mem hlt)
      obtain ⟨x, hx⟩ : ∃ x, xs[k] = x := ⟨_, rfl⟩
      rw [hx] at r0 HQ hs
      clear hx
      by_cases h1 : x.size < 1
      · have hN : nameOk x = false := by unfold nameOk; rw [decide_eq_false (by omega)]; rfl
        rw [hN, Bool.false_and] at HQ
        have HQ := Lib.hid (show pathOk xs = false by unfold pathOk; rw [HQ]; simp)
        go_wp2
        go_ret
        exact ⟨by rw [HQ.out]; rfl, HS'.below⟩
      · by_cases h2 : x.size ≤ 40
        · have hN : nameOk x = true := by unfold nameOk; rw [decide_eq_true (by omega), decide_eq_true (by omega)]; rfl
          rw [hN, Bool.true_and] at HQ
          have HQ := Lib.hid HQ
          go_wp2
          go_roundw
          case rel => exact ⟨k + 1, by omega, by go_num, HS', HQ.out⟩
          case measure => simp [intOf]; omega
        · have hN : nameOk x = false := by unfold nameOk; rw [decide_eq_false (p := x.size ≤ 40) (by omega)]; simp
          rw [hN, Bool.false_and] at HQ
          have HQ := Lib.hid (show pathOk xs = false by unfold pathOk; rw [HQ]; simp)
          go_wp2
          go_ret
          exact ⟨by rw [HQ.out]; rfl, HS'.below⟩
    · have HQ := HOK.out
      rw [show xs.drop k = [] from List.drop_eq_nil_of_le (by omega)] at HQ
      by_cases h1 : 1 ≤ xs.length
      · have HQ := Lib.hid (show pathOk xs = decide (xs.length ≤ 8) by unfold pathOk; rw [HQ, decide_eq_true h1]; simp)
        go_wp2
        go_ret
        exact ⟨by rw [HQ.out]; first | (simp; done) | (simp; omega), HS'.below⟩
      · have HQ := Lib.hid (show pathOk xs = false by unfold pathOk; rw [decide_eq_false h1]; rfl)
        go_wp2
        go_ret
        exact ⟨by rw [HQ.out]; first | (simp; done) | (simp; omega), HS'.below⟩
end Go.Proofs.Ytbcgbkeldcaalaa
