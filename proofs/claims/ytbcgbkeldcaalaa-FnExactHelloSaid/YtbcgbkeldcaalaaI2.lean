/- States: the program's comparison of leaves, its check of a path. -/
import Derived.Test.YtbcgbkeldcaalaaI1
namespace Go.Proofs.Ytbcgbkeldcaalaa
set_option linter.unusedSimpArgs false
set_option linter.unusedVariables false
open Go.RowKit Go.Ow
attribute [local irreducible] wpQuiet
set_option maxRecDepth 100000
theorem compareLeaves (x y : Lf) (vp up : Value) (w : World) (hv : Rd w vp x.p) (hu : Rd w up y.p) :
    Calls Try.prog 80 #[.agg #[vp, .bool x.fl, .int .i64 x.dr, .int .i64 x.ds, .string x.v], .agg #[up, .bool y.fl, .int .i64 y.dr, .int .i64 y.ds, .string y.v]] w fun e w' => e = .returned (.int .i64 (cmpL x y)) ∧ Below w.heap.size w w' := by
  obtain ⟨A, c, rfl, hc, hl⟩ := hv.val
  obtain ⟨B, d, rfl, hd, hm⟩ := hu.val
  have HS := ((Own.start w).box [.slice A x.p.length c, .bool x.fl, .int .i64 x.dr, .int .i64 x.ds, .string x.v] 91).box (b := w.heap.size + 1) [.slice B y.p.length d, .bool y.fl, .int .i64 y.dr, .int .i64 y.ds, .string y.v] 91
  by_cases h0 : cmpP x.p y.p = 0
  · by_cases h1 : x.fl = y.fl
    · have h1b : (x.fl == y.fl) = true := by simp [h1]
      by_cases h2 : x.dr = y.dr
      · have h2b : (x.dr != y.dr) = false := by simp [h2]
        have HQ := Lib.hid (show cmpL x y = wrap64 (x.ds - y.ds) by rw [cmpL, if_pos h0, if_pos h1, if_pos h2])
        clear h1 h2
        go_enter Try.func80, Try.ntmps80
        go_wp2_with fail
        refine (comparePaths _ _ _ _ _ (HS.old hv) (HS.old hu)).mono ?_; rintro e w1 ⟨rfl, hb⟩; (first | have H' := HS.of_below hb | have H' := HS.drew.of_below hb | have H' := (HS.box0 [_] _).of_below hb | have H' := ((HS.box0 [_] _).box0 [_] _).of_below hb | have H' := (HS.alloc _).of_below hb | have H' := ((HS.alloc _).alloc _).of_below hb); clear HS; have HS := H'; clear H'; have F := HS.facts; simp only [Own.Facts, Own.Cells, World.size_alloc, List.cons_append, List.nil_append, List.eraseIdx_cons_succ, List.eraseIdx_cons_zero, List.eraseIdx_zero, List.tail_cons, Nat.zero_add] at F
        rw [h0]
        clear h0
        go_wp2
        go_ret
        exact ⟨by first | (rw [HQ.out]; done) | (rw [HQ.out]; rfl), HS.below⟩
      · have h2b : (x.dr != y.dr) = true := by simpa using h2
        have HQ := Lib.hid (show cmpL x y = wrap64 (x.dr - y.dr) by rw [cmpL, if_pos h0, if_pos h1, if_neg h2])
        clear h1
        go_enter Try.func80, Try.ntmps80
        go_wp2_with fail
        refine (comparePaths _ _ _ _ _ (HS.old hv) (HS.old hu)).mono ?_; rintro e w1 ⟨rfl, hb⟩; (first | have H' := HS.of_below hb | have H' := HS.drew.of_below hb | have H' := (HS.box0 [_] _).of_below hb | have H' := ((HS.box0 [_] _).box0 [_] _).of_below hb | have H' := (HS.alloc _).of_below hb | have H' := ((HS.alloc _).alloc _).of_below hb); clear HS; have HS := H'; clear H'; have F := HS.facts; simp only [Own.Facts, Own.Cells, World.size_alloc, List.cons_append, List.nil_append, List.eraseIdx_cons_succ, List.eraseIdx_cons_zero, List.eraseIdx_zero, List.tail_cons, Nat.zero_add] at F
        rw [h0]
        clear h0
        go_wp2
        go_ret
        exact ⟨by first | (rw [HQ.out]; done) | (rw [HQ.out]; rfl), HS.below⟩
    · have HQ := Lib.hid (show cmpL x y = (if y.fl = true then -1 else 1) by rw [cmpL, if_pos h0, if_neg h1])
      have h1b : (x.fl == y.fl) = false := by simpa using h1
      clear h1
      obtain ⟨fy, hfy⟩ : ∃ f, y.fl = f := ⟨_, rfl⟩
      rw [hfy] at HS h1b HQ ⊢
      clear hfy
      cases fy
      all_goals
        go_enter Try.func80, Try.ntmps80
        go_wp2_with fail
        refine (comparePaths _ _ _ _ _ (HS.old hv) (HS.old hu)).mono ?_; rintro e w1 ⟨rfl, hb⟩; (first | have H' := HS.of_below hb | have H' := HS.drew.of_below hb | have H' := (HS.box0 [_] _).of_below hb | have H' := ((HS.box0 [_] _).box0 [_] _).of_below hb | have H' := (HS.alloc _).of_below hb | have H' := ((HS.alloc _).alloc _).of_below hb); clear HS; have HS := H'; clear H'; have F := HS.facts; simp only [Own.Facts, Own.Cells, World.size_alloc, List.cons_append, List.nil_append, List.eraseIdx_cons_succ, List.eraseIdx_cons_zero, List.eraseIdx_zero, List.tail_cons, Nat.zero_add] at F
        rw [h0]
        clear h0
        go_wp2
        go_ret
        exact ⟨by rw [HQ.out]; rfl, HS.below⟩
  · have HQ := Lib.hid (show cmpL x y = cmpP x.p y.p by rw [cmpL, if_neg h0])
    have h0b : (cmpP x.p y.p != 0) = true := by simpa using h0
    go_enter Try.func80, Try.ntmps80
    go_wp2_with fail
    refine (comparePaths _ _ _ _ _ (HS.old hv) (HS.old hu)).mono ?_; rintro e w1 ⟨rfl, hb⟩; (first | have H' := HS.of_below hb | have H' := HS.drew.of_below hb | have H' := (HS.box0 [_] _).of_below hb | have H' := ((HS.box0 [_] _).box0 [_] _).of_below hb | have H' := (HS.alloc _).of_below hb | have H' := ((HS.alloc _).alloc _).of_below hb); clear HS; have HS := H'; clear H'; have F := HS.facts; simp only [Own.Facts, Own.Cells, World.size_alloc, List.cons_append, List.nil_append, List.eraseIdx_cons_succ, List.eraseIdx_cons_zero, List.eraseIdx_zero, List.tail_cons, Nat.zero_add] at F
    go_wp2
    go_ret
    exact ⟨by first | (rw [HQ.out]; done) | (rw [HQ.out]; rfl), HS.below⟩
theorem pathOkFn (s : ByteArray) (w : World) (hs : s.size ≤ 140737488351232) : Calls Try.prog 89 #[.string s] w fun e w' => e = .returned (.bool (!nameOk s)) ∧ Below w.heap.size w w' := by
  by_cases h1 : s.size < 1
  · have HQ := Lib.hid (show (!nameOk s) = true by unfold nameOk; rw [decide_eq_false (by omega)]; rfl)
    go_enter Try.func89, Try.ntmps89
    go_wp2
    go_ret
    exact ⟨by rw [HQ.out]; rfl, Below.refl _ _⟩
  · by_cases h2 : s.size ≤ 40
    · have HQ := Lib.hid (show (!nameOk s) = false by simp [nameOk]; omega)
      go_enter Try.func89, Try.ntmps89
      go_wp2
      go_ret
      exact ⟨by rw [HQ.out]; simp; omega, Below.refl _ _⟩
    · have HQ := Lib.hid (show (!nameOk s) = true by simp [nameOk]; omega)
      go_enter Try.func89, Try.ntmps89
      go_wp2
      go_ret
      exact ⟨by rw [HQ.out]; simp; omega, Below.refl _ _⟩
/-- The place of the first that is found, or -1. -/
theorem indexPath (xs : List ByteArray) (v : Value) (w : World) (hv : Rd w v xs) (hw : ∀ s ∈ xs, s.size ≤ 140737488351232) :
    Calls Try.prog 111 #[v, .func (.func 89) #[] #[]] w fun e w' => (∃ r : Int, e = .returned (.int .i64 r) ∧ decide (0 ≤ r) = !xs.all nameOk) ∧ Below w.heap.size w w' := by
  obtain ⟨A, c, rfl, hc, hl⟩ := hv.val
  have HS := Own.start w
  have HW := Lib.hid hw
  clear hw
  go_enter Try.func111, Try.ntmps111
  go_wp2
  go_loopw [8] (fun i wr => ∃ k : Nat, k ≤ xs.length ∧ i = .int .i64 k ∧ Own w [] wr ∧ xs.all nameOk = (xs.drop k).all nameOk) (fun i _ => xs.length - (intOf i).toNat)
  case atStart => exact ⟨0, by omega, rfl, HS, rfl⟩
  case round =>
    obtain ⟨k, hk, rfl, HS', hok⟩ := hrel
    have HOK := Lib.hid hok
    clear hok
    by_cases hlt : k < xs.length
    · obtain ⟨b, o, rfl⟩ := hv.fix (by omega)
      have r0 := Sg.rd (HS'.old hv) k hlt
      have HQ := HOK.out
      rw [List.drop_eq_getElem_cons hlt, List.all_cons] at HQ
      have hs := HW.out xs[k] (List.getElem_mem hlt)
      obtain ⟨x, hx⟩ : ∃ x, xs[k] = x := ⟨_, rfl⟩
      rw [hx] at r0 HQ hs
      clear hx
      cases h1 : nameOk x
      · rw [h1] at HQ
        have HQ := Lib.hid HQ
        go_wp2_with fail
        refine (pathOkFn x _ hs).mono ?_
        rintro e w2 ⟨rfl, hb⟩
        rw [h1]
        have H2 := HS'.of_below hb
        go_wp2
        go_ret
        exact ⟨⟨k, rfl, by rw [HQ.out]; simp⟩, H2.below⟩
      · rw [h1, Bool.true_and] at HQ
        have HQ := Lib.hid HQ
        go_wp2_with fail
        refine (pathOkFn x _ hs).mono ?_
        rintro e w2 ⟨rfl, hb⟩
        rw [h1]
        have H2 := HS'.of_below hb
        go_wp2
        go_roundw
        case rel => exact ⟨k + 1, by omega, by go_num, H2, HQ.out⟩
        case measure => simp [intOf]; omega
    · have HQ := HOK.out
      rw [show xs.drop k = [] from List.drop_eq_nil_of_le (by omega)] at HQ
      have HQ := Lib.hid HQ
      go_wp2
      go_ret
      exact ⟨⟨-1, rfl, by rw [HQ.out]; rfl⟩, HS'.below⟩
theorem containsPath (xs : List ByteArray) (v : Value) (w : World) (hv : Rd w v xs) (hw : ∀ s ∈ xs, s.size ≤ 140737488351232) :
    Calls Try.prog 88 #[v, .func (.func 89) #[] #[]] w fun e w' => e = .returned (.bool (!xs.all nameOk)) ∧ Below w.heap.size w w' := by
  obtain ⟨A, c, rfl, hc, hl⟩ := hv.val
  have HS := Own.start w
  go_enter Try.func88, Try.ntmps88
  go_wp2_with fail
  refine (indexPath _ _ _ (HS.old hv) hw).mono ?_; rintro e w1 ⟨⟨r, rfl, hr⟩, hb⟩; (first | have H' := HS.of_below hb | have H' := HS.drew.of_below hb | have H' := (HS.box0 [_] _).of_below hb | have H' := ((HS.box0 [_] _).box0 [_] _).of_below hb | have H' := (HS.alloc _).of_below hb | have H' := ((HS.alloc _).alloc _).of_below hb); clear HS; have HS := H'; clear H'; have F := HS.facts; simp only [Own.Facts, Own.Cells, World.size_alloc, List.cons_append, List.nil_append, List.eraseIdx_cons_succ, List.eraseIdx_cons_zero, List.eraseIdx_zero, List.tail_cons, Nat.zero_add] at F
  have HR := Lib.hid hr
  clear hr
  go_wp2
  go_ret
  exact ⟨by rw [← HR.out]; rfl, HS.below⟩
theorem implPathOk (xs : List ByteArray) (v : Value) (w : World) (hv : Rd w v xs) (hw : ∀ s ∈ xs, s.size ≤ 140737488351232) :
    Calls Try.prog 59 #[v] w fun e w' => e = .returned (.bool (pathOk xs)) ∧ Below w.heap.size w w' := by
  obtain ⟨A, c, rfl, hc, hl⟩ := hv.val
  have HS := Own.start w
  have HW := Lib.hid hw
  clear hw
  by_cases h1 : 1 ≤ xs.length ∧ xs.length ≤ 8
  · obtain ⟨h1, h2⟩ := h1
    have HQ := Lib.hid (show pathOk xs = xs.all nameOk by simp [pathOk, h1, h2])
    go_enter Try.func59, Try.ntmps59
    go_wp2_with fail
    refine (containsPath _ _ _ (HS.old hv) HW.out).mono ?_; rintro e w1 ⟨rfl, hb⟩; (first | have H' := HS.of_below hb | have H' := HS.drew.of_below hb | have H' := (HS.box0 [_] _).of_below hb | have H' := ((HS.box0 [_] _).box0 [_] _).of_below hb | have H' := (HS.alloc _).of_below hb | have H' := ((HS.alloc _).alloc _).of_below hb); clear HS; have HS := H'; clear H'; have F := HS.facts; simp only [Own.Facts, Own.Cells, World.size_alloc, List.cons_append, List.nil_append, List.eraseIdx_cons_succ, List.eraseIdx_cons_zero, List.eraseIdx_zero, List.tail_cons, Nat.zero_add] at F
    go_wp2
    go_ret
    exact ⟨by rw [HQ.out]; simp, HS.below⟩
  · have HQ := Lib.hid (show pathOk xs = false by simp [pathOk]; intros; omega)
    go_enter Try.func59, Try.ntmps59
    go_wp2
    all_goals
      go_ret
      exact ⟨by first | (rw [HQ.out]; done) | (rw [HQ.out]; rfl), HS.below⟩
end Go.Proofs.Ytbcgbkeldcaalaa
