/- States: the program's checks of paths and leaves. States: the program's comparison of leaves, its check of a path. -/
import Derived.Test.YtkafflbakgkpcaaGreatHa
import Derived.Test.YtkafflbakgkpcaaGreatL2
namespace Go.Proofs.YtkafflbakgkpcaaGreat
set_option linter.unusedSimpArgs false
set_option linter.unusedVariables false
open Go.RowKit Go.Ow
attribute [local irreducible] wpQuiet
set_option maxRecDepth 100000
theorem isNaNS (x : ByteArray) (w : World) : Calls Tryz.prog 100 #[.string x] w fun e w' => e = .returned (.bool false) ∧ Below w.heap.size w w' := by
  go_enter Tryz.func100, Tryz.ntmps100
  go_wp2
  go_ret
  exact ⟨by simp, Below.refl _ _⟩
def cmpS (a b : ByteArray) : Int := if sLt a b = true then -1 else if sGt a b = true then 1 else 0
theorem cmpCompare (x y : ByteArray) (w : World) : Calls Tryz.prog 94 #[.string x, .string y] w fun e w' => e = .returned (.int .i64 (cmpS x y)) ∧ Below w.heap.size w w' := by
  have HS := Own.start w
  cases h1 : Op.bytesLess x.toList y.toList
  · cases h2 : (x.toList == y.toList)
    all_goals
      go_enter Tryz.func94, Tryz.ntmps94
      go_wp2_with fail
      refine (isNaNS _ _).mono ?_; rintro e w1 ⟨rfl, hb⟩; (first | have H' := HS.of_below hb | have H' := HS.drew.of_below hb | have H' := (HS.box0 [_] _).of_below hb | have H' := ((HS.box0 [_] _).box0 [_] _).of_below hb | have H' := (HS.alloc _).of_below hb | have H' := ((HS.alloc _).alloc _).of_below hb); clear HS; have HS := H'; clear H'; have F := HS.facts; simp only [Own.Facts, Own.Cells, World.size_alloc, List.cons_append, List.nil_append, List.eraseIdx_cons_succ, List.eraseIdx_cons_zero, List.eraseIdx_zero, List.tail_cons, Nat.zero_add] at F
      go_wp2_with fail
      refine (isNaNS _ _).mono ?_; rintro e w2 ⟨rfl, hb⟩; (first | have H' := HS.of_below hb | have H' := HS.drew.of_below hb | have H' := (HS.box0 [_] _).of_below hb | have H' := ((HS.box0 [_] _).box0 [_] _).of_below hb | have H' := (HS.alloc _).of_below hb | have H' := ((HS.alloc _).alloc _).of_below hb); clear HS; have HS := H'; clear H'; have F := HS.facts; simp only [Own.Facts, Own.Cells, World.size_alloc, List.cons_append, List.nil_append, List.eraseIdx_cons_succ, List.eraseIdx_cons_zero, List.eraseIdx_zero, List.tail_cons, Nat.zero_add] at F
      go_wp2
      go_ret
      exact ⟨by simp [cmpS, sLt, sGt, h1, h2], HS.below⟩
  · go_enter Tryz.func94, Tryz.ntmps94
    go_wp2_with fail
    refine (isNaNS _ _).mono ?_; rintro e w1 ⟨rfl, hb⟩; (first | have H' := HS.of_below hb | have H' := HS.drew.of_below hb | have H' := (HS.box0 [_] _).of_below hb | have H' := ((HS.box0 [_] _).box0 [_] _).of_below hb | have H' := (HS.alloc _).of_below hb | have H' := ((HS.alloc _).alloc _).of_below hb); clear HS; have HS := H'; clear H'; have F := HS.facts; simp only [Own.Facts, Own.Cells, World.size_alloc, List.cons_append, List.nil_append, List.eraseIdx_cons_succ, List.eraseIdx_cons_zero, List.eraseIdx_zero, List.tail_cons, Nat.zero_add] at F
    go_wp2_with fail
    refine (isNaNS _ _).mono ?_; rintro e w2 ⟨rfl, hb⟩; (first | have H' := HS.of_below hb | have H' := HS.drew.of_below hb | have H' := (HS.box0 [_] _).of_below hb | have H' := ((HS.box0 [_] _).box0 [_] _).of_below hb | have H' := (HS.alloc _).of_below hb | have H' := ((HS.alloc _).alloc _).of_below hb); clear HS; have HS := H'; clear H'; have F := HS.facts; simp only [Own.Facts, Own.Cells, World.size_alloc, List.cons_append, List.nil_append, List.eraseIdx_cons_succ, List.eraseIdx_cons_zero, List.eraseIdx_zero, List.tail_cons, Nat.zero_add] at F
    go_wp2
    go_ret
    exact ⟨by simp [cmpS, sLt, sGt, h1], HS.below⟩
theorem cmpP_cons (a b : ByteArray) (x y : List ByteArray) : cmpP (a :: x) (b :: y) = if cmpS a b = 0 then cmpP x y else cmpS a b := by
  rw [cmpP, cmpS]
  split
  · simp
  · split <;> simp
theorem comparePaths (xs ys : List ByteArray) (v u : Value) (w : World) (hv : Rd w v xs) (hu : Rd w u ys) : Calls Tryz.prog 84 #[v, u] w fun e w' => e = .returned (.int .i64 (cmpP xs ys)) ∧ Below w.heap.size w w' := by
  obtain ⟨A, c, rfl, hc, hl⟩ := hv.val
  obtain ⟨B, d, rfl, hd, hm⟩ := hu.val
  have HS := Own.start w
  go_enter Tryz.func84, Tryz.ntmps84
  go_wp2
  go_loopw [11] (fun i wr => ∃ k : Nat, k ≤ xs.length ∧ k ≤ ys.length ∧ i = .int .i64 k ∧ Own w [] wr ∧ cmpP xs ys = cmpP (xs.drop k) (ys.drop k)) (fun i _ => xs.length - (intOf i).toNat)
  case atStart => exact ⟨0, by omega, by omega, rfl, HS, rfl⟩
  case round =>
    obtain ⟨k, hk, hk2, rfl, HS', hok⟩ := hrel
    have HOK := Lib.hid hok
    clear hok
    by_cases hlt : k < xs.length
    · obtain ⟨b, o, rfl⟩ := hv.fix (by omega)
      have r0 := Sg.rd (HS'.old hv) k hlt
      have HD := Lib.hid (show xs.drop k = xs[k] :: xs.drop (k + 1) from List.drop_eq_getElem_cons hlt)
      obtain ⟨x, hx⟩ : ∃ x, xs[k] = x := ⟨_, rfl⟩
      rw [hx] at r0 HD
      clear hx
      by_cases hlt2 : k < ys.length
      · obtain ⟨b2, o2, rfl⟩ := hu.fix (by omega)
        have r1 := Sg.rd (HS'.old hu) k hlt2
        have HD2 := Lib.hid (show ys.drop k = ys[k] :: ys.drop (k + 1) from List.drop_eq_getElem_cons hlt2)
        obtain ⟨y, hy⟩ : ∃ y, ys[k] = y := ⟨_, rfl⟩
        rw [hy] at r1 HD2
        clear hy
        have HQ := HOK.out
        rw [HD.out, HD2.out, cmpP_cons] at HQ
        by_cases h0 : cmpS x y = 0
        · rw [if_pos h0] at HQ
          have HQ := Lib.hid HQ
          go_wp2_with fail
          refine (cmpCompare x y _).mono ?_
          rintro e w2 ⟨rfl, hb⟩
          have H2 := HS'.of_below hb
          rw [h0]
          go_wp2
          go_roundw
          case rel => exact ⟨k + 1, by omega, by omega, by go_num, H2, HQ.out⟩
          case measure => simp [intOf]; omega
        · rw [if_neg h0] at HQ
          have HQ := Lib.hid HQ
          go_wp2_with fail
          refine (cmpCompare x y _).mono ?_
          rintro e w2 ⟨rfl, hb⟩
          have H2 := HS'.of_below hb
          have h0b : (cmpS x y != 0) = true := by simpa using h0
          go_wp2
          go_ret
          exact ⟨by first | (rw [HQ.out]; done) | (rw [HQ.out]; rfl), H2.below⟩
      · have HQ := HOK.out
        rw [HD.out, show ys.drop k = [] from List.drop_eq_nil_of_le (by omega)] at HQ
        have HQ := Lib.hid HQ
        go_wp2
        go_ret
        exact ⟨by rw [HQ.out]; rfl, HS'.below⟩
    · have HQ := HOK.out
      rw [show xs.drop k = [] from List.drop_eq_nil_of_le (by omega)] at HQ
      by_cases hlt2 : k < ys.length
      · rw [List.drop_eq_getElem_cons hlt2] at HQ
        have HQ := Lib.hid HQ
        go_wp2
        go_ret
        exact ⟨by rw [HQ.out]; rfl, HS'.below⟩
      · rw [show ys.drop k = [] from List.drop_eq_nil_of_le (by omega)] at HQ
        have HQ := Lib.hid HQ
        go_wp2
        go_ret
        exact ⟨by rw [HQ.out]; rfl, HS'.below⟩
end Go.Proofs.YtkafflbakgkpcaaGreat
namespace Go.Proofs.YtkafflbakgkpcaaGreat
set_option linter.unusedSimpArgs false
set_option linter.unusedVariables false
open Go.RowKit Go.Ow
attribute [local irreducible] wpQuiet
set_option maxRecDepth 100000
theorem compareLeaves (x y : Lf) (vp up : Value) (w : World) (hv : Rd w vp x.p) (hu : Rd w up y.p) :
    Calls Tryz.prog 59 #[.agg #[vp, .bool x.fl, .int .i64 x.dr, .int .i64 x.ds, .string x.v], .agg #[up, .bool y.fl, .int .i64 y.dr, .int .i64 y.ds, .string y.v]] w fun e w' => e = .returned (.int .i64 (cmpL x y)) ∧ Below w.heap.size w w' := by
  obtain ⟨A, c, rfl, hc, hl⟩ := hv.val
  obtain ⟨B, d, rfl, hd, hm⟩ := hu.val
  have HS := ((Own.start w).box [.slice A x.p.length c, .bool x.fl, .int .i64 x.dr, .int .i64 x.ds, .string x.v] 57).box (b := w.heap.size + 1) [.slice B y.p.length d, .bool y.fl, .int .i64 y.dr, .int .i64 y.ds, .string y.v] 57
  by_cases h0 : cmpP x.p y.p = 0
  · by_cases h1 : x.fl = y.fl
    · have h1b : (x.fl == y.fl) = true := by simp [h1]
      by_cases h2 : x.dr = y.dr
      · have h2b : (x.dr != y.dr) = false := by simp [h2]
        have HQ := Lib.hid (show cmpL x y = wrap64 (x.ds - y.ds) by rw [cmpL, if_pos h0, if_pos h1, if_pos h2])
        clear h1 h2
        go_enter Tryz.func59, Tryz.ntmps59
        go_wp2_with fail
        refine (comparePaths _ _ _ _ _ (HS.old hv) (HS.old hu)).mono ?_; rintro e w1 ⟨rfl, hb⟩; (first | have H' := HS.of_below hb | have H' := HS.drew.of_below hb | have H' := (HS.box0 [_] _).of_below hb | have H' := ((HS.box0 [_] _).box0 [_] _).of_below hb | have H' := (HS.alloc _).of_below hb | have H' := ((HS.alloc _).alloc _).of_below hb); clear HS; have HS := H'; clear H'; have F := HS.facts; simp only [Own.Facts, Own.Cells, World.size_alloc, List.cons_append, List.nil_append, List.eraseIdx_cons_succ, List.eraseIdx_cons_zero, List.eraseIdx_zero, List.tail_cons, Nat.zero_add] at F
        rw [h0]
        clear h0
        go_wp2
        go_ret
        exact ⟨by first | (rw [HQ.out]; done) | (rw [HQ.out]; rfl), HS.below⟩
      · have h2b : (x.dr != y.dr) = true := by simpa using h2
        have HQ := Lib.hid (show cmpL x y = wrap64 (x.dr - y.dr) by rw [cmpL, if_pos h0, if_pos h1, if_neg h2])
        clear h1
        go_enter Tryz.func59, Tryz.ntmps59
        go_wp2_with fail
        refine (comparePaths _ _ _ _ _ (HS.old hv) (HS.old hu)).mono ?_; rintro e w1 ⟨rfl, hb⟩; (first | have H' := HS.of_below hb | have H' := HS.drew.of_below hb | have H' := (HS.box0 [_] _).of_below hb | have H' := ((HS.box0 [_] _).box0 [_] _).of_below hb | have H' := (HS.alloc _).of_below hb | have H' := ((HS.alloc _).alloc _).of_below hb); clear HS; have HS := H'; clear H'; have F := HS.facts; simp only [Own.Facts, Own.Cells, World.size_alloc, List.cons_append, List.nil_append, List.eraseIdx_cons_succ, List.eraseIdx_cons_zero, List.eraseIdx_zero, List.tail_cons, Nat.zero_add] at F
        rw [h0]
        clear h0
        go_wp2
        go_ret
        exact ⟨by first | (rw [HQ.out]; done) | (rw [HQ.out]; rfl), HS.below⟩
    · have HQ := Lib.hid (show cmpL x y = (if y.fl = true then -1 else 1) by rw [cmpL, if_pos h0, if_neg h1])
      have h1b : (x.fl == y.fl) = false := by simpa using h1
      clear h1
      obtain ⟨fy, hfy⟩ : ∃ f, y.fl = f := ⟨_, rfl⟩
      rw [hfy] at HS h1b HQ ⊢
      clear hfy
      cases fy
      all_goals
        go_enter Tryz.func59, Tryz.ntmps59
        go_wp2_with fail
        refine (comparePaths _ _ _ _ _ (HS.old hv) (HS.old hu)).mono ?_; rintro e w1 ⟨rfl, hb⟩; (first | have H' := HS.of_below hb | have H' := HS.drew.of_below hb | have H' := (HS.box0 [_] _).of_below hb | have H' := ((HS.box0 [_] _).box0 [_] _).of_below hb | have H' := (HS.alloc _).of_below hb | have H' := ((HS.alloc _).alloc _).of_below hb); clear HS; have HS := H'; clear H'; have F := HS.facts; simp only [Own.Facts, Own.Cells, World.size_alloc, List.cons_append, List.nil_append, List.eraseIdx_cons_succ, List.eraseIdx_cons_zero, List.eraseIdx_zero, List.tail_cons, Nat.zero_add] at F
        rw [h0]
        clear h0
        go_wp2
        go_ret
        exact ⟨by rw [HQ.out]; rfl, HS.below⟩
  · have HQ := Lib.hid (show cmpL x y = cmpP x.p y.p by rw [cmpL, if_neg h0])
    have h0b : (cmpP x.p y.p != 0) = true := by simpa using h0
    go_enter Tryz.func59, Tryz.ntmps59
    go_wp2_with fail
    refine (comparePaths _ _ _ _ _ (HS.old hv) (HS.old hu)).mono ?_; rintro e w1 ⟨rfl, hb⟩; (first | have H' := HS.of_below hb | have H' := HS.drew.of_below hb | have H' := (HS.box0 [_] _).of_below hb | have H' := ((HS.box0 [_] _).box0 [_] _).of_below hb | have H' := (HS.alloc _).of_below hb | have H' := ((HS.alloc _).alloc _).of_below hb); clear HS; have HS := H'; clear H'; have F := HS.facts; simp only [Own.Facts, Own.Cells, World.size_alloc, List.cons_append, List.nil_append, List.eraseIdx_cons_succ, List.eraseIdx_cons_zero, List.eraseIdx_zero, List.tail_cons, Nat.zero_add] at F
    go_wp2
    go_ret
    exact ⟨by first | (rw [HQ.out]; done) | (rw [HQ.out]; rfl), HS.below⟩
theorem pathOkFn (s : ByteArray) (w : World) (hs : s.size ≤ 140737488351232) : Calls Tryz.prog 61 #[.string s] w fun e w' => e = .returned (.bool (!nameOk s)) ∧ Below w.heap.size w w' := by
  by_cases h1 : s.size < 1
  · have HQ := Lib.hid (show (!nameOk s) = true by unfold nameOk; rw [decide_eq_false (by omega)]; rfl)
    go_enter Tryz.func61, Tryz.ntmps61
    go_wp2
    go_ret
    exact ⟨by rw [HQ.out]; rfl, Below.refl _ _⟩
  · by_cases h2 : s.size ≤ 40
    · have HQ := Lib.hid (show (!nameOk s) = false by simp [nameOk]; omega)
      go_enter Tryz.func61, Tryz.ntmps61
      go_wp2
      go_ret
      exact ⟨by rw [HQ.out]; simp; omega, Below.refl _ _⟩
    · have HQ := Lib.hid (show (!nameOk s) = true by simp [nameOk]; omega)
      go_enter Tryz.func61, Tryz.ntmps61
      go_wp2
      go_ret
      exact ⟨by rw [HQ.out]; simp; omega, Below.refl _ _⟩
/-- The place of the first that is found, or -1. -/
theorem indexPath (xs : List ByteArray) (v : Value) (w : World) (hv : Rd w v xs) (hw : ∀ s ∈ xs, s.size ≤ 140737488351232) :
    Calls Tryz.prog 85 #[v, .func (.func 61) #[] #[]] w fun e w' => (∃ r : Int, e = .returned (.int .i64 r) ∧ decide (0 ≤ r) = !xs.all nameOk) ∧ Below w.heap.size w w' := by
  obtain ⟨A, c, rfl, hc, hl⟩ := hv.val
  have HS := Own.start w
  have HW := Lib.hid hw
  clear hw
  go_enter Tryz.func85, Tryz.ntmps85
  go_wp2
  go_loopw [8] (fun i wr => ∃ k : Nat, k ≤ xs.length ∧ i = .int .i64 k ∧ Own w [] wr ∧ xs.all nameOk = (xs.drop k).all nameOk) (fun i _ => xs.length - (intOf i).toNat)
  case atStart => exact ⟨0, by omega, rfl, HS, rfl⟩
  case round =>
    obtain ⟨k, hk, rfl, HS', hok⟩ := hrel
    have HOK := Lib.hid hok
    clear hok
    by_cases hlt : k < xs.length
    · obtain ⟨b, o, rfl⟩ := hv.fix (by omega)
      have r0 := Sg.rd (HS'.old hv) k hlt
      have HQ := HOK.out
      rw [List.drop_eq_getElem_cons hlt, List.all_cons] at HQ
      have hs := HW.out xs[k] (List.getElem_mem hlt)
      obtain ⟨x, hx⟩ : ∃ x, xs[k] = x := ⟨_, rfl⟩
      rw [hx] at r0 HQ hs
      clear hx
      cases h1 : nameOk x
      · rw [h1] at HQ
        have HQ := Lib.hid HQ
        go_wp2_with fail
        refine (pathOkFn x _ hs).mono ?_
        rintro e w2 ⟨rfl, hb⟩
        rw [h1]
        have H2 := HS'.of_below hb
        go_wp2
        go_ret
        exact ⟨⟨k, rfl, by rw [HQ.out]; simp⟩, H2.below⟩
      · rw [h1, Bool.true_and] at HQ
        have HQ := Lib.hid HQ
        go_wp2_with fail
        refine (pathOkFn x _ hs).mono ?_
        rintro e w2 ⟨rfl, hb⟩
        rw [h1]
        have H2 := HS'.of_below hb
        go_wp2
        go_roundw
        case rel => exact ⟨k + 1, by omega, by go_num, H2, HQ.out⟩
        case measure => simp [intOf]; omega
    · have HQ := HOK.out
      rw [show xs.drop k = [] from List.drop_eq_nil_of_le (by omega)] at HQ
      have HQ := Lib.hid HQ
      go_wp2
      go_ret
      exact ⟨⟨-1, rfl, by rw [HQ.out]; rfl⟩, HS'.below⟩
theorem containsPath (xs : List ByteArray) (v : Value) (w : World) (hv : Rd w v xs) (hw : ∀ s ∈ xs, s.size ≤ 140737488351232) :
    Calls Tryz.prog 60 #[v, .func (.func 61) #[] #[]] w fun e w' => e = .returned (.bool (!xs.all nameOk)) ∧ Below w.heap.size w w' := by
  obtain ⟨A, c, rfl, hc, hl⟩ := hv.val
  have HS := Own.start w
  go_enter Tryz.func60, Tryz.ntmps60
  go_wp2_with fail
  refine (indexPath _ _ _ (HS.old hv) hw).mono ?_; rintro e w1 ⟨⟨r, rfl, hr⟩, hb⟩; (first | have H' := HS.of_below hb | have H' := HS.drew.of_below hb | have H' := (HS.box0 [_] _).of_below hb | have H' := ((HS.box0 [_] _).box0 [_] _).of_below hb | have H' := (HS.alloc _).of_below hb | have H' := ((HS.alloc _).alloc _).of_below hb); clear HS; have HS := H'; clear H'; have F := HS.facts; simp only [Own.Facts, Own.Cells, World.size_alloc, List.cons_append, List.nil_append, List.eraseIdx_cons_succ, List.eraseIdx_cons_zero, List.eraseIdx_zero, List.tail_cons, Nat.zero_add] at F
  have HR := Lib.hid hr
  clear hr
  go_wp2
  go_ret
  exact ⟨by rw [← HR.out]; rfl, HS.below⟩
theorem implPathOk (xs : List ByteArray) (v : Value) (w : World) (hv : Rd w v xs) (hw : ∀ s ∈ xs, s.size ≤ 140737488351232) :
    Calls Tryz.prog 30 #[v] w fun e w' => e = .returned (.bool (pathOk xs)) ∧ Below w.heap.size w w' := by
  obtain ⟨A, c, rfl, hc, hl⟩ := hv.val
  have HS := Own.start w
  have HW := Lib.hid hw
  clear hw
  by_cases h1 : 1 ≤ xs.length ∧ xs.length ≤ 8
  · obtain ⟨h1, h2⟩ := h1
    have HQ := Lib.hid (show pathOk xs = xs.all nameOk by simp [pathOk, h1, h2])
    go_enter Tryz.func30, Tryz.ntmps30
    go_wp2_with fail
    refine (containsPath _ _ _ (HS.old hv) HW.out).mono ?_; rintro e w1 ⟨rfl, hb⟩; (first | have H' := HS.of_below hb | have H' := HS.drew.of_below hb | have H' := (HS.box0 [_] _).of_below hb | have H' := ((HS.box0 [_] _).box0 [_] _).of_below hb | have H' := (HS.alloc _).of_below hb | have H' := ((HS.alloc _).alloc _).of_below hb); clear HS; have HS := H'; clear H'; have F := HS.facts; simp only [Own.Facts, Own.Cells, World.size_alloc, List.cons_append, List.nil_append, List.eraseIdx_cons_succ, List.eraseIdx_cons_zero, List.eraseIdx_zero, List.tail_cons, Nat.zero_add] at F
    go_wp2
    go_ret
    exact ⟨by rw [HQ.out]; simp, HS.below⟩
  · have HQ := Lib.hid (show pathOk xs = false by simp [pathOk]; intros; omega)
    go_enter Tryz.func30, Tryz.ntmps30
    go_wp2
    all_goals
      go_ret
      exact ⟨by first | (rw [HQ.out]; done) | (rw [HQ.out]; rfl), HS.below⟩
end Go.Proofs.YtkafflbakgkpcaaGreat
