/- States: the program's checks of paths and leaves. -/
import Derived.Test.YtbcgbkeldcaalaaH6
import Derived.Test.YtbcgbkeldcaalaaL2
namespace Go.Proofs.Ytbcgbkeldcaalaa
set_option linter.unusedSimpArgs false
set_option linter.unusedVariables false
open Go.RowKit Go.Ow
attribute [local irreducible] wpQuiet
set_option maxRecDepth 100000
theorem isNaNS (x : ByteArray) (w : World) : Calls Try.prog 128 #[.string x] w fun e w' => e = .returned (.bool false) ∧ Below w.heap.size w w' := by
  go_enter Try.func128, Try.ntmps128
  go_wp2
  go_ret
  exact ⟨by simp, Below.refl _ _⟩
def cmpS (a b : ByteArray) : Int := if sLt a b = true then -1 else if sGt a b = true then 1 else 0
theorem cmpCompare (x y : ByteArray) (w : World) : Calls Try.prog 117 #[.string x, .string y] w fun e w' => e = .returned (.int .i64 (cmpS x y)) ∧ Below w.heap.size w w' := by
  have HS := Own.start w
  cases h1 : Op.bytesLess x.toList y.toList
  · cases h2 : (x.toList == y.toList)
    all_goals
      go_enter Try.func117, Try.ntmps117
      go_wp2_with fail
      refine (isNaNS _ _).mono ?_; rintro e w1 ⟨rfl, hb⟩; (first | have H' := HS.of_below hb | have H' := HS.drew.of_below hb | have H' := (HS.box0 [_] _).of_below hb | have H' := ((HS.box0 [_] _).box0 [_] _).of_below hb | have H' := (HS.alloc _).of_below hb | have H' := ((HS.alloc _).alloc _).of_below hb); clear HS; have HS := H'; clear H'; have F := HS.facts; simp only [Own.Facts, Own.Cells, World.size_alloc, List.cons_append, List.nil_append, List.eraseIdx_cons_succ, List.eraseIdx_cons_zero, List.eraseIdx_zero, List.tail_cons, Nat.zero_add] at F
      go_wp2_with fail
      refine (isNaNS _ _).mono ?_; rintro e w2 ⟨rfl, hb⟩; (first | have H' := HS.of_below hb | have H' := HS.drew.of_below hb | have H' := (HS.box0 [_] _).of_below hb | have H' := ((HS.box0 [_] _).box0 [_] _).of_below hb | have H' := (HS.alloc _).of_below hb | have H' := ((HS.alloc _).alloc _).of_below hb); clear HS; have HS := H'; clear H'; have F := HS.facts; simp only [Own.Facts, Own.Cells, World.size_alloc, List.cons_append, List.nil_append, List.eraseIdx_cons_succ, List.eraseIdx_cons_zero, List.eraseIdx_zero, List.tail_cons, Nat.zero_add] at F
      go_wp2
      go_ret
      exact ⟨by simp [cmpS, sLt, sGt, h1, h2], HS.below⟩
  · go_enter Try.func117, Try.ntmps117
    go_wp2_with fail
    refine (isNaNS _ _).mono ?_; rintro e w1 ⟨rfl, hb⟩; (first | have H' := HS.of_below hb | have H' := HS.drew.of_below hb | have H' := (HS.box0 [_] _).of_below hb | have H' := ((HS.box0 [_] _).box0 [_] _).of_below hb | have H' := (HS.alloc _).of_below hb | have H' := ((HS.alloc _).alloc _).of_below hb); clear HS; have HS := H'; clear H'; have F := HS.facts; simp only [Own.Facts, Own.Cells, World.size_alloc, List.cons_append, List.nil_append, List.eraseIdx_cons_succ, List.eraseIdx_cons_zero, List.eraseIdx_zero, List.tail_cons, Nat.zero_add] at F
    go_wp2_with fail
    refine (isNaNS _ _).mono ?_; rintro e w2 ⟨rfl, hb⟩; (first | have H' := HS.of_below hb | have H' := HS.drew.of_below hb | have H' := (HS.box0 [_] _).of_below hb | have H' := ((HS.box0 [_] _).box0 [_] _).of_below hb | have H' := (HS.alloc _).of_below hb | have H' := ((HS.alloc _).alloc _).of_below hb); clear HS; have HS := H'; clear H'; have F := HS.facts; simp only [Own.Facts, Own.Cells, World.size_alloc, List.cons_append, List.nil_append, List.eraseIdx_cons_succ, List.eraseIdx_cons_zero, List.eraseIdx_zero, List.tail_cons, Nat.zero_add] at F
    go_wp2
    go_ret
    exact ⟨by simp [cmpS, sLt, sGt, h1], HS.below⟩
theorem cmpP_cons (a b : ByteArray) (x y : List ByteArray) : cmpP (a :: x) (b :: y) = if cmpS a b = 0 then cmpP x y else cmpS a b := by
  rw [cmpP, cmpS]
  split
  · simp
  · split <;> simp
theorem comparePaths (xs ys : List ByteArray) (v u : Value) (w : World) (hv : Rd w v xs) (hu : Rd w u ys) : Calls Try.prog 107 #[v, u] w fun e w' => e = .returned (.int .i64 (cmpP xs ys)) ∧ Below w.heap.size w w' := by
  obtain ⟨A, c, rfl, hc, hl⟩ := hv.val
  obtain ⟨B, d, rfl, hd, hm⟩ := hu.val
  have HS := Own.start w
  go_enter Try.func107, Try.ntmps107
  go_wp2
  go_loopw [11] (fun i wr => ∃ k : Nat, k ≤ xs.length ∧ k ≤ ys.length ∧ i = .int .i64 k ∧ Own w [] wr ∧ cmpP xs ys = cmpP (xs.drop k) (ys.drop k)) (fun i _ => xs.length - (intOf i).toNat)
  case atStart => exact ⟨0, by omega, by omega, rfl, HS, rfl⟩
  case round =>
    obtain ⟨k, hk, hk2, rfl, HS', hok⟩ := hrel
    have HOK := Lib.hid hok
    clear hok
    by_cases hlt : k < xs.length
    · obtain ⟨b, o, rfl⟩ := hv.fix (by omega)
      have r0 := Sg.rd (HS'.old hv) k hlt
      have HD := Lib.hid (show xs.drop k = xs[k] :: xs.drop (k + 1) from List.drop_eq_getElem_cons hlt)
      obtain ⟨x, hx⟩ : ∃ x, xs[k] = x := ⟨_, rfl⟩
      rw [hx] at r0 HD
      clear hx
      by_cases hlt2 : k < ys.length
      · obtain ⟨b2, o2, rfl⟩ := hu.fix (by omega)
        have r1 := Sg.rd (HS'.old hu) k hlt2
        have HD2 := Lib.hid (show ys.drop k = ys[k] :: ys.drop (k + 1) from List.drop_eq_getElem_cons hlt2)
        obtain ⟨y, hy⟩ : ∃ y, ys[k] = y := ⟨_, rfl⟩
        rw [hy] at r1 HD2
        clear hy
        have HQ := HOK.out
        rw [HD.out, HD2.out, cmpP_cons] at HQ
        by_cases h0 : cmpS x y = 0
        · rw [if_pos h0] at HQ
          have HQ := Lib.hid HQ
          go_wp2_with fail
          refine (cmpCompare x y _).mono ?_
          rintro e w2 ⟨rfl, hb⟩
          have H2 := HS'.of_below hb
          rw [h0]
          go_wp2
          go_roundw
          case rel => exact ⟨k + 1, by omega, by omega, by go_num, H2, HQ.out⟩
          case measure => simp [intOf]; omega
        · rw [if_neg h0] at HQ
          have HQ := Lib.hid HQ
          go_wp2_with fail
          refine (cmpCompare x y _).mono ?_
          rintro e w2 ⟨rfl, hb⟩
          have H2 := HS'.of_below hb
          have h0b : (cmpS x y != 0) = true := by simpa using h0
          go_wp2
          go_ret
          exact ⟨by first | (rw [HQ.out]; done) | (rw [HQ.out]; rfl), H2.below⟩
      · have HQ := HOK.out
        rw [HD.out, show ys.drop k = [] from List.drop_eq_nil_of_le (by omega)] at HQ
        have HQ := Lib.hid HQ
        go_wp2
        go_ret
        exact ⟨by rw [HQ.out]; rfl, HS'.below⟩
    · have HQ := HOK.out
      rw [show xs.drop k = [] from List.drop_eq_nil_of_le (by omega)] at HQ
      by_cases hlt2 : k < ys.length
      · rw [List.drop_eq_getElem_cons hlt2] at HQ
        have HQ := Lib.hid HQ
        go_wp2
        go_ret
        exact ⟨by rw [HQ.out]; rfl, HS'.below⟩
      · rw [show ys.drop k = [] from List.drop_eq_nil_of_le (by omega)] at HQ
        have HQ := Lib.hid HQ
        go_wp2
        go_ret
        exact ⟨by rw [HQ.out]; rfl, HS'.below⟩
end Go.Proofs.Ytbcgbkeldcaalaa
