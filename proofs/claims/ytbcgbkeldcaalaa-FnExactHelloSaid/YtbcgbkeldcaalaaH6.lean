/- States handed in: their size. -/
import Derived.Test.YtbcgbkeldcaalaaH5
namespace Go.Proofs.Ytbcgbkeldcaalaa
set_option linter.unusedSimpArgs false
set_option linter.unusedVariables false
open Go.RowKit Go.Ow
attribute [local irreducible] wpQuiet
set_option maxRecDepth 100000
/-- Leaves as they come in: texts and numbers that are no greater than a machine holds. -/
def LfW (x : Lf) : Prop := (∀ s ∈ x.p, s.size ≤ 140737488351232) ∧ x.v.size ≤ 140737488351232 ∧ x.ds ≤ 9223372036854775807
/-- What is left behind texts: -1, or what their count and bytes leave. -/
theorem szStringS (xs : List ByteArray) (v : Value) (left : Int) (w : World) (hv : Rd w v xs) (hw : ∀ s ∈ xs, s.size ≤ 140737488351232) (h0 : left ≤ 1048576) (hl0 : -1 ≤ left) : Calls Try.prog 30 #[v, .int .i64 left] w fun e w' => (∃ r : Int, e = .returned (.int .i64 r) ∧ -1 ≤ r ∧ r ≤ left ∧ (0 ≤ r → (xs.length : Int) ≤ left)) ∧ Below w.heap.size w w' := by
  obtain ⟨A, c, rfl, hc, hl⟩ := hv.val
  have HS := Own.start w
  have HW := Lib.hid hw
  clear hw
  go_enter Try.func30, Try.ntmps30
  by_cases hlt : left < xs.length
  · go_wp2
    go_ret
    exact ⟨⟨-1, rfl, by omega, by omega, by omega⟩, HS.below⟩
  · go_wp2
    go_loopw [1, 5] (fun l i wr => ∃ (k : Nat) (r : Int), k ≤ xs.length ∧ i = .int .i64 k ∧ l = .int .i64 r ∧ 0 ≤ r ∧ r ≤ left - xs.length ∧ Own w [] wr) (fun _ i _ => xs.length - (intOf i).toNat)
    case atStart => exact ⟨0, left - xs.length, by omega, rfl, by go_num, by omega, by omega, HS⟩
    case round =>
      obtain ⟨k, r, hk, rfl, rfl, hr0, hr1, HS'⟩ := hrel
      by_cases hlt2 : k < xs.length
      · obtain ⟨b, o, rfl⟩ := hv.fix (by omega)
        have r0 := Sg.rd (HS'.old hv) k hlt2
        have hsz := HW.out xs[k] (List.getElem_mem hlt2)
        obtain ⟨x, hx⟩ : ∃ x, xs[k] = x := ⟨_, rfl⟩
        rw [hx] at r0 hsz
        clear hx
        by_cases hle : r < x.size
        · go_wp2
          go_ret
          exact ⟨⟨-1, rfl, by omega, by omega, by omega⟩, HS'.below⟩
        · go_wp2
          go_roundw
          case rel => exact ⟨k + 1, r - x.size, by omega, by go_num, by go_num, by omega, by omega, HS'⟩
          case measure => simp [intOf]; omega
      · go_wp2
        go_ret
        exact ⟨⟨r, rfl, by omega, by omega, by omega⟩, HS'.below⟩
theorem szLeaf (x : Lf) (vp : Value) (left : Int) (w : World) (hv : Rd w vp x.p) (hw : LfW x) (h0 : left ≤ 1048576) (hl0 : -1 ≤ left) :
    Calls Try.prog 68 #[.agg #[vp, .bool x.fl, .int .i64 x.dr, .int .i64 x.ds, .string x.v], .int .i64 left] w fun e w' => (∃ r : Int, e = .returned (.int .i64 r) ∧ -1 ≤ r ∧ r ≤ left ∧ (0 ≤ r → (x.p.length : Int) ≤ left)) ∧ Below w.heap.size w w' := by
  obtain ⟨A, c, rfl, hc, hl⟩ := hv.val
  have HS := (Own.start w).box [.slice A x.p.length c, .bool x.fl, .int .i64 x.dr, .int .i64 x.ds, .string x.v] 107
  have hxs := hw.2.1
  go_enter Try.func68, Try.ntmps68
  go_wp2_with fail
  refine (szStringS _ _ _ _ (by repeat (first | exact HS.old hv | exact HS.rd 0 rfl | exact HS.rd 1 rfl | exact HS.rd 2 rfl | exact HS.rd 3 rfl | exact HS.rd 4 rfl | exact HS.rd 5 rfl | exact HS.drew.old hv | exact HS.drew.rd 0 rfl | exact HS.drew.rd 1 rfl | exact HS.drew.rd 2 rfl | exact HS.drew.rd 3 rfl | exact HS.drew.rd 4 rfl | exact HS.drew.rd 5 rfl | refine Rd.alloc ?_ _)) hw.1 h0 hl0).mono ?_; rintro e w1 ⟨⟨r, rfl, hr1, hr2, hr3⟩, hb⟩; (first | have H' := HS.of_below hb | have H' := HS.drew.of_below hb | have H' := (HS.box0 [_] _).of_below hb | have H' := ((HS.box0 [_] _).box0 [_] _).of_below hb | have H' := (HS.alloc _).of_below hb | have H' := ((HS.alloc _).alloc _).of_below hb); clear HS; have HS := H'; clear H'; have F := HS.facts; simp only [Own.Facts, Own.Cells, World.size_alloc, List.cons_append, List.nil_append, List.eraseIdx_cons_succ, List.eraseIdx_cons_zero, List.eraseIdx_zero, List.tail_cons, Nat.zero_add] at F
  by_cases hr : r < 0
  · go_wp2
    go_ret
    exact ⟨⟨-1, rfl, by omega, by omega, by omega⟩, HS.below⟩
  · by_cases hle : r < x.v.size
    · go_wp2
      go_ret
      exact ⟨⟨-1, rfl, by omega, by omega, by omega⟩, HS.below⟩
    · go_wp2
      go_ret
      exact ⟨⟨r - x.v.size, by go_num, by omega, by omega, by omega⟩, HS.below⟩
theorem szLeafS (xs : List Lf) (v : Value) (left : Int) (w : World) (hv : Rd w v xs) (hw : ∀ x ∈ xs, LfW x) (h0 : left ≤ 1048576) (hl0 : -1 ≤ left) : Calls Try.prog 41 #[v, .int .i64 left] w fun e w' => (∃ r : Int, e = .returned (.int .i64 r) ∧ -1 ≤ r ∧ r ≤ left ∧ (0 ≤ r → (xs.length : Int) ≤ left ∧ ∀ x ∈ xs, (x.p.length : Int) ≤ left)) ∧ Below w.heap.size w w' := by
  obtain ⟨A, c, rfl, hc, hl⟩ := hv.val
  have HS := Own.start w
  have HW := Lib.hid hw
  clear hw
  go_enter Try.func41, Try.ntmps41
  by_cases hlt : left < xs.length
  · go_wp2
    go_ret
    exact ⟨⟨-1, rfl, by omega, by omega, by omega⟩, HS.below⟩
  · go_wp2
    go_loopw [1, 5] (fun l i wr => ∃ (k : Nat) (r : Int), k ≤ xs.length ∧ i = .int .i64 k ∧ l = .int .i64 r ∧ 0 ≤ r ∧ r ≤ left - xs.length ∧ Own w [] wr ∧ ∀ j (hj : j < xs.length), j < k → (xs[j].p.length : Int) ≤ left) (fun _ i _ => xs.length - (intOf i).toNat)
    case atStart => exact ⟨0, left - xs.length, by omega, rfl, by go_num, by omega, by omega, HS, fun _ _ _ => by omega⟩
    case round =>
      obtain ⟨k, r, hk, rfl, rfl, hr0, hr1, HS', ha⟩ := hrel
      have HA := Lib.hid ha
      clear ha
      by_cases hlt2 : k < xs.length
      · obtain ⟨b, o, rfl⟩ := hv.fix (by omega)
        obtain ⟨vp, hx⟩ := Lf.rd (HS'.old hv) k hlt2
        obtain ⟨hp, c0, c1, c2, c3, c4⟩ := hx wr (Below.refl _ _)
        clear hx
        have hB : ∀ q : Int, (xs[k].p.length : Int) ≤ q → q ≤ left → ∀ j (hj : j < xs.length), j < k + 1 → (xs[j].p.length : Int) ≤ left := fun q h1 h2 j hj hjk => by
          by_cases hjk2 : j < k
          · exact HA.out j hj hjk2
          · obtain rfl : j = k := by omega
            exact Int.le_trans h1 h2
        have HB := Lib.hid hB
        clear hB
        have hsz := HW.out xs[k] (List.getElem_mem hlt2)
        obtain ⟨x, hx⟩ : ∃ x, xs[k] = x := ⟨_, rfl⟩
        rw [hx] at hp c1 c2 c3 c4 HB hsz
        clear hx
        go_wp2_with fail
        refine (szLeaf x vp _ _ hp hsz (by omega) (by omega)).mono ?_
        rintro e w2 ⟨⟨r2, rfl, hq1, hq2, hq3⟩, hb⟩
        have H2 := HS'.of_below hb
        by_cases hr : r2 < 0
        · go_wp2
          go_ret
          exact ⟨⟨-1, rfl, by omega, by omega, by omega⟩, H2.below⟩
        · go_wp2
          go_roundw
          case rel => exact ⟨k + 1, r2, by omega, by go_num, rfl, by omega, by omega, H2, HB.out r (hq3 (by omega)) (by omega)⟩
          case measure => simp [intOf]; omega
      · obtain rfl : k = xs.length := by omega
        go_wp2
        go_ret
        exact ⟨⟨r, rfl, by omega, by omega, fun _ => ⟨by omega, fun x hx => by obtain ⟨j, hj, rfl⟩ := List.getElem_of_mem hx; exact HA.out j hj hj⟩⟩, HS'.below⟩
/-- When a state is not too big. -/
theorem szState (x : St) (vl vc : Value) (left : Int) (w : World) (h1 : Rd w vl x.l) (h2 : Rd w vc x.c) (hw : ∀ y ∈ x.l, LfW y) (h0 : left ≤ 1048576) (hl0 : -1 ≤ left) :
    Calls Try.prog 13 #[.agg #[vl, vc], .int .i64 left] w fun e w' => (∃ r : Int, e = .returned (.int .i64 r) ∧ -1 ≤ r ∧ r ≤ left ∧ (0 ≤ r → (x.l.length : Int) ≤ left ∧ (∀ y ∈ x.l, (y.p.length : Int) ≤ left) ∧ (x.c.length : Int) ≤ left)) ∧ Below w.heap.size w w' := by
  obtain ⟨A, c, rfl, _, hl⟩ := h1.val
  obtain ⟨A2, c2, rfl, _, hl2⟩ := h2.val
  have HS := (Own.start w).box [.slice A x.l.length c, .slice A2 x.c.length c2] 27
  go_enter Try.func13, Try.ntmps13
  go_wp2_with fail
  refine (szLeafS _ _ _ _ (by repeat (first | exact HS.old h1 | exact HS.rd 0 rfl | exact HS.rd 1 rfl | exact HS.rd 2 rfl | exact HS.rd 3 rfl | exact HS.rd 4 rfl | exact HS.rd 5 rfl | exact HS.drew.old h1 | exact HS.drew.rd 0 rfl | exact HS.drew.rd 1 rfl | exact HS.drew.rd 2 rfl | exact HS.drew.rd 3 rfl | exact HS.drew.rd 4 rfl | exact HS.drew.rd 5 rfl | refine Rd.alloc ?_ _)) hw h0 hl0).mono ?_; rintro e w1 ⟨⟨r, rfl, hr1, hr2, hr3⟩, hb⟩; (first | have H' := HS.of_below hb | have H' := HS.drew.of_below hb | have H' := (HS.box0 [_] _).of_below hb | have H' := ((HS.box0 [_] _).box0 [_] _).of_below hb | have H' := (HS.alloc _).of_below hb | have H' := ((HS.alloc _).alloc _).of_below hb); clear HS; have HS := H'; clear H'; have F := HS.facts; simp only [Own.Facts, Own.Cells, World.size_alloc, List.cons_append, List.nil_append, List.eraseIdx_cons_succ, List.eraseIdx_cons_zero, List.eraseIdx_zero, List.tail_cons, Nat.zero_add] at F
  have HR3 := Lib.hid hr3
  clear hr3 hw
  by_cases hr : r < 0
  · go_wp2
    go_ret
    exact ⟨⟨-1, rfl, by omega, by omega, by omega⟩, HS.below⟩
  · go_wp2_with fail
    refine (szContext _ _ _ _ (by repeat (first | exact HS.old h2 | exact HS.rd 0 rfl | exact HS.rd 1 rfl | exact HS.rd 2 rfl | exact HS.rd 3 rfl | exact HS.rd 4 rfl | exact HS.rd 5 rfl | exact HS.drew.old h2 | exact HS.drew.rd 0 rfl | exact HS.drew.rd 1 rfl | exact HS.drew.rd 2 rfl | exact HS.drew.rd 3 rfl | exact HS.drew.rd 4 rfl | exact HS.drew.rd 5 rfl | refine Rd.alloc ?_ _))).mono ?_; rintro e w2 ⟨rfl, hb⟩; (first | have H' := HS.of_below hb | have H' := HS.drew.of_below hb | have H' := (HS.box0 [_] _).of_below hb | have H' := ((HS.box0 [_] _).box0 [_] _).of_below hb | have H' := (HS.alloc _).of_below hb | have H' := ((HS.alloc _).alloc _).of_below hb); clear HS; have HS := H'; clear H'; have F := HS.facts; simp only [Own.Facts, Own.Cells, World.size_alloc, List.cons_append, List.nil_append, List.eraseIdx_cons_succ, List.eraseIdx_cons_zero, List.eraseIdx_zero, List.tail_cons, Nat.zero_add] at F
    by_cases hle : r < x.c.length
    · have e : szL x.c.length r = -1 := by unfold szL wrap64; rw [if_pos (by omega)]
      rw [e]
      go_wp2
      go_ret
      exact ⟨⟨-1, rfl, by omega, by omega, by omega⟩, HS.below⟩
    · have e : szL x.c.length r = r - x.c.length := by unfold szL wrap64; rw [if_neg (by omega)]; omega
      rw [e]
      go_wp2
      go_ret
      exact ⟨⟨r - x.c.length, by go_num, by omega, by omega, fun _ => ⟨(HR3.out (by omega)).1, (HR3.out (by omega)).2, by omega⟩⟩, HS.below⟩
end Go.Proofs.Ytbcgbkeldcaalaa
