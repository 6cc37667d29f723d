/- ReadFlag: the program's side. -/
import Derived.Test.YtgfgkbmebdaieaaJ4
/-FD-/
namespace Go.Proofs.Ytgfgkbmebdaieaa
set_option linter.unusedSimpArgs false
set_option linter.unusedVariables false
open Go.RowKit Go.Ow
attribute [local irreducible] wpQuiet
set_option maxRecDepth 100000
theorem slicesEqualS (xs ys : List ByteArray) (v u : Value) (w : World) (hv : Rd w v xs) (hu : Rd w u ys) : Calls Try.prog 63 #[v, u] w fun e w' => e = .returned (.bool (decide (xs = ys))) ∧ Below w.heap.size w w' := by
  obtain ⟨A, c, rfl, hc, hl⟩ := hv.val
  obtain ⟨B, d, rfl, hd, hm⟩ := hu.val
  have HS := Own.start w
  by_cases hn : xs.length = ys.length
  · have hb2 : ((xs.length : Int) != (ys.length : Int)) = false := by simp; omega
    have hb3 : ((xs.length : Int) == (ys.length : Int)) = true := by simp; omega
    have HN := Lib.hid hn
    clear hn
    go_enter Try.func63, Try.ntmps63
    go_wp2
    go_loopw [13] (fun i wr => ∃ k : Nat, k ≤ xs.length ∧ i = .int .i64 k ∧ Own w [] wr ∧ xs.take k = ys.take k) (fun i _ => xs.length - (intOf i).toNat)
    case atStart => exact ⟨0, by omega, rfl, HS, rfl⟩
    case round =>
      obtain ⟨k, hk, rfl, HS', hok⟩ := hrel
      have HOK := Lib.hid hok
      clear hok
      by_cases hlt : k < xs.length
      · have hlt2 : k < ys.length := by have := HN.out; omega
        obtain ⟨b, o, rfl⟩ := hv.fix (by omega)
        obtain ⟨b2, o2, rfl⟩ := hu.fix (by omega)
        have hF : ∀ p : Ext wr, _ := fun p => Sg.rd ((HS'.of_below p.h).old hv) k hlt
        have hG : ∀ p : Ext wr, _ := fun p => Sg.rd ((HS'.of_below p.h).old hu) k hlt2
        by_cases h1 : xs[k] = ys[k]
        · rw [h1] at hF
          have H1 := Lib.hid h1
          clear h1
          generalize ys[k] = m at hF hG
          go_wp2
          (refine wp_region_ext (by kernel_rfl) (by kernel_rfl) ?_; (repeat (quiet_step (first | fail))); refine wpQuiet_nil ?_; rintro _ ⟨⟨w1, hw1⟩, rfl⟩)
          have H2 := HS'.of_below hw1
          clear hF hG
          go_wp2
          go_roundw
          case rel => exact ⟨k + 1, by omega, by go_num, H2, by rw [List.take_succ_eq_append_getElem hlt, List.take_succ_eq_append_getElem hlt2, HOK.out, H1.out]⟩
          case measure => simp [intOf]; omega
        · have hne : xs ≠ ys := fun h => h1 (by simp [h])
          have H1 := Lib.hid hne
          have h1b : (xs[k].toList == ys[k].toList) = false := by rw [str_eq]; simp [h1]
          clear hne h1
          generalize xs[k] = m at hF h1b
          generalize ys[k] = m' at hG h1b
          go_wp2
          (refine wp_region_ext (by kernel_rfl) (by kernel_rfl) ?_; (repeat (quiet_step (first | fail))); refine wpQuiet_nil ?_; rintro _ ⟨⟨w1, hw1⟩, rfl⟩)
          have H2 := HS'.of_below hw1
          clear hF hG
          go_wp2
          go_ret
          exact ⟨by simp [H1.out], H2.below⟩
      · go_wp2
        go_ret
        obtain rfl : k = xs.length := by omega
        have h := HOK.out
        rw [List.take_length, HN.out, List.take_length] at h
        exact ⟨by simp [h], HS'.below⟩
  · have hb2 : ((xs.length : Int) != (ys.length : Int)) = true := by simp; omega
    have hb3 : ((xs.length : Int) == (ys.length : Int)) = false := by simp; omega
    have hne : xs ≠ ys := fun h => hn (by rw [h])
    have H1 := Lib.hid hne
    clear hne
    go_enter Try.func63, Try.ntmps63
    go_wp2
    go_ret
    exact ⟨by simp [H1.out], HS.below⟩
def isFlag (p : List ByteArray) (x : Lf) : Bool := x.fl && decide (x.p = p)
def readFlag (s : St) (p : List ByteArray) : Bool := stOk s && (pathOk p && s.l.any (isFlag p))
theorem flagFn (x : Lf) (p : List ByteArray) (vp vP : Value) (bp : Nat) (w : World) (hx : Rd w vp x.p) (hP : Rd w vP p) (hc : w.cell? ⟨bp, 0, none⟩ = some vP) :
    Calls Try.prog 62 #[.agg #[vp, .bool x.fl, .int .i64 x.dr, .int .i64 x.ds, .string x.v], .pointer (some ⟨bp, 0, none⟩)] w fun e w' => e = .returned (.bool (isFlag p x)) ∧ Below w.heap.size w w' := by
  obtain ⟨A, c, rfl, _, _⟩ := hx.val
  obtain ⟨B, d, rfl, _, _⟩ := hP.val
  have hlt := World.block_lt_of_cell? w _ hc
  have HS := (Own.start w).box [.slice A x.p.length c, .bool x.fl, .int .i64 x.dr, .int .i64 x.ds, .string x.v] 78
  have hc2 := ((bcell HS.below).1 bp 0 hlt).trans hc
  obtain ⟨xp, xf, xr, xs, xv⟩ := x
  simp only at hx HS hc2 ⊢
  cases xf
  · go_enter Try.func62, Try.ntmps62
    go_wp2
    go_ret
    exact ⟨rfl, HS.below⟩
  · go_enter Try.func62, Try.ntmps62
    go_wp2_with fail
    refine (slicesEqualS _ _ _ _ _ (HS.old hx) (HS.old hP)).mono ?_; rintro e w1 ⟨rfl, hb⟩; (first | have H' := HS.of_below hb | have H' := HS.drew.of_below hb | have H' := (HS.box0 [_] _).of_below hb | have H' := ((HS.box0 [_] _).box0 [_] _).of_below hb | have H' := (HS.alloc _).of_below hb | have H' := ((HS.alloc _).alloc _).of_below hb); clear HS; have HS := H'; clear H'; have F := HS.facts; simp only [Own.Facts, Ds.map, Ds.dots, Own.Cells, World.size_alloc, List.cons_append, List.nil_append, List.eraseIdx_cons_succ, List.eraseIdx_cons_zero, List.eraseIdx_zero, List.tail_cons, Nat.zero_add] at F
    go_wp2
    go_ret
    exact ⟨rfl, HS.below⟩
theorem indexFlag (xs : List Lf) (p : List ByteArray) (v vP : Value) (bp : Nat) (w : World) (hv : Rd w v xs) (hP : Rd w vP p) (hc : w.cell? ⟨bp, 0, none⟩ = some vP) :
    Calls Try.prog 94 #[v, .func (.func 62) #[] #[.pointer (some ⟨bp, 0, none⟩)]] w fun e w' => (∃ r : Int, e = .returned (.int .i64 r) ∧ decide (0 ≤ r) = xs.any (isFlag p)) ∧ Below w.heap.size w w' := by
  obtain ⟨A, c, rfl, hcc, hl⟩ := hv.val
  have HS := Own.start w
  have hlt := World.block_lt_of_cell? w _ hc
  go_enter Try.func94, Try.ntmps94
  go_wp2
  go_loopw [8] (fun i wr => ∃ k : Nat, k ≤ xs.length ∧ i = .int .i64 k ∧ Own w [] wr ∧ xs.any (isFlag p) = (xs.drop k).any (isFlag p)) (fun i _ => xs.length - (intOf i).toNat)
  case atStart => exact ⟨0, by omega, rfl, HS, rfl⟩
  case round =>
    obtain ⟨k, hk, rfl, HS', hok⟩ := hrel
    have HOK := Lib.hid hok
    clear hok
    by_cases hlt2 : k < xs.length
    · obtain ⟨b, o, rfl⟩ := hv.fix (by omega)
      obtain ⟨vp, hx⟩ := Lf.rd (HS'.old hv) k hlt2
      obtain ⟨hp, c0, c1, c2, c3, c4⟩ := hx wr (Below.refl _ _)
      clear hx
      have HQ := HOK.out
      rw [List.drop_eq_getElem_cons hlt2, List.any_cons] at HQ
      have hc2 := ((bcell HS'.below).1 bp 0 hlt).trans hc
      have hP2 := HS'.old hP
      obtain ⟨x, hxx⟩ : ∃ x, xs[k] = x := ⟨_, rfl⟩
      rw [hxx] at hp c1 c2 c3 c4 HQ
      clear hxx
      cases h1 : isFlag p x
      · rw [h1, Bool.false_or] at HQ
        have HQ := Lib.hid HQ
        go_wp2_with fail
        refine (flagFn x p vp vP bp _ hp hP2 hc2).mono ?_
        rintro e w2 ⟨rfl, hb⟩
        rw [h1]
        have H2 := HS'.of_below hb
        clear hc2 hP2
        go_wp2
        go_roundw
        case rel => exact ⟨k + 1, by omega, by go_num, H2, HQ.out⟩
        case measure => simp [intOf]; omega
      · rw [h1, Bool.true_or] at HQ
        have HQ := Lib.hid HQ
        go_wp2_with fail
        refine (flagFn x p vp vP bp _ hp hP2 hc2).mono ?_
        rintro e w2 ⟨rfl, hb⟩
        rw [h1]
        have H2 := HS'.of_below hb
        clear hc2 hP2
        go_wp2
        go_ret
        exact ⟨⟨k, rfl, by rw [HQ.out]; simp⟩, H2.below⟩
    · have HQ := HOK.out
      rw [show xs.drop k = [] from List.drop_eq_nil_of_le (by omega)] at HQ
      have HQ := Lib.hid HQ
      go_wp2
      go_ret
      exact ⟨⟨-1, rfl, by rw [HQ.out]; rfl⟩, HS'.below⟩
theorem containsFlag (xs : List Lf) (p : List ByteArray) (v vP : Value) (bp : Nat) (w : World) (hv : Rd w v xs) (hP : Rd w vP p) (hc : w.cell? ⟨bp, 0, none⟩ = some vP) :
    Calls Try.prog 61 #[v, .func (.func 62) #[] #[.pointer (some ⟨bp, 0, none⟩)]] w fun e w' => e = .returned (.bool (xs.any (isFlag p))) ∧ Below w.heap.size w w' := by
  obtain ⟨A, c, rfl, _, _⟩ := hv.val
  have HS := Own.start w
  go_enter Try.func61, Try.ntmps61
  go_wp2_with fail
  refine (indexFlag _ p _ vP bp _ (HS.old hv) hP hc).mono ?_; rintro e w1 ⟨⟨r, rfl, hr⟩, hb⟩; (first | have H' := HS.of_below hb | have H' := HS.drew.of_below hb | have H' := (HS.box0 [_] _).of_below hb | have H' := ((HS.box0 [_] _).box0 [_] _).of_below hb | have H' := (HS.alloc _).of_below hb | have H' := ((HS.alloc _).alloc _).of_below hb); clear HS; have HS := H'; clear H'; have F := HS.facts; simp only [Own.Facts, Ds.map, Ds.dots, Own.Cells, World.size_alloc, List.cons_append, List.nil_append, List.eraseIdx_cons_succ, List.eraseIdx_cons_zero, List.eraseIdx_zero, List.tail_cons, Nat.zero_add] at F
  have HR := Lib.hid hr
  clear hr hc
  go_wp2
  go_ret
  exact ⟨by rw [← HR.out]; rfl, HS.below⟩
theorem implReadFlag (s : St) (p : List ByteArray) (vl vc vP : Value) (w : World) (h1 : Rd w vl s.l) (h2 : Rd w vc s.c) (hP : Rd w vP p) (hw : ∀ y ∈ s.l, LfW y) (hwp : ∀ x ∈ p, x.size ≤ 140737488351232) (hc : s.c.length ≤ 1048576) :
    Calls Try.prog 19 #[.agg #[vl, vc], vP] w fun e w' => e = .returned (.bool (readFlag s p)) ∧ Below w.heap.size w w' := by
  obtain ⟨A, c, rfl, _, hl⟩ := h1.val
  obtain ⟨A2, d2, rfl, _, hl2⟩ := h2.val
  obtain ⟨A3, d3, rfl, _, hl3⟩ := hP.val
  have HW := Lib.hid hw
  have HWP := Lib.hid hwp
  clear hw hwp
  have HS := ((Own.start w).box [.slice A s.l.length c, .slice A2 s.c.length d2] 35).box (b := w.heap.size + 1) [.slice A3 p.length d3] 39
  cases hs : stOk s
  · have HQ := Lib.hid (show readFlag s p = false by simp [readFlag, hs])
    go_enter Try.func19, Try.ntmps19
    go_wp2_with fail
    refine (implStateOk s _ _ _ (HS.old h1) (HS.old h2) HW.out hc).mono ?_; rintro e w1 ⟨rfl, hb⟩; (first | have H' := HS.of_below hb | have H' := HS.drew.of_below hb | have H' := (HS.box0 [_] _).of_below hb | have H' := ((HS.box0 [_] _).box0 [_] _).of_below hb | have H' := (HS.alloc _).of_below hb | have H' := ((HS.alloc _).alloc _).of_below hb); clear HS; have HS := H'; clear H'; have F := HS.facts; simp only [Own.Facts, Ds.map, Ds.dots, Own.Cells, World.size_alloc, List.cons_append, List.nil_append, List.eraseIdx_cons_succ, List.eraseIdx_cons_zero, List.eraseIdx_zero, List.tail_cons, Nat.zero_add] at F
    rw [hs]
    clear hs
    go_wp2
    go_ret
    exact ⟨by rw [HQ.out]; rfl, HS.below⟩
  · cases hp : pathOk p
    · have HQ := Lib.hid (show readFlag s p = false by simp [readFlag, hp])
      go_enter Try.func19, Try.ntmps19
      go_wp2_with fail
      refine (implStateOk s _ _ _ (HS.old h1) (HS.old h2) HW.out hc).mono ?_; rintro e w1 ⟨rfl, hb⟩; (first | have H' := HS.of_below hb | have H' := HS.drew.of_below hb | have H' := (HS.box0 [_] _).of_below hb | have H' := ((HS.box0 [_] _).box0 [_] _).of_below hb | have H' := (HS.alloc _).of_below hb | have H' := ((HS.alloc _).alloc _).of_below hb); clear HS; have HS := H'; clear H'; have F := HS.facts; simp only [Own.Facts, Ds.map, Ds.dots, Own.Cells, World.size_alloc, List.cons_append, List.nil_append, List.eraseIdx_cons_succ, List.eraseIdx_cons_zero, List.eraseIdx_zero, List.tail_cons, Nat.zero_add] at F
      rw [hs]
      clear hs
      go_wp2_with fail
      refine (implPathOk p _ _ (HS.old hP) HWP.out).mono ?_; rintro e w2 ⟨rfl, hb⟩; (first | have H' := HS.of_below hb | have H' := HS.drew.of_below hb | have H' := (HS.box0 [_] _).of_below hb | have H' := ((HS.box0 [_] _).box0 [_] _).of_below hb | have H' := (HS.alloc _).of_below hb | have H' := ((HS.alloc _).alloc _).of_below hb); clear HS; have HS := H'; clear H'; have F := HS.facts; simp only [Own.Facts, Ds.map, Ds.dots, Own.Cells, World.size_alloc, List.cons_append, List.nil_append, List.eraseIdx_cons_succ, List.eraseIdx_cons_zero, List.eraseIdx_zero, List.tail_cons, Nat.zero_add] at F
      rw [hp]
      clear hp
      go_wp2
      go_ret
      exact ⟨by rw [HQ.out]; rfl, HS.below⟩
    · have HQ := Lib.hid (show readFlag s p = s.l.any (isFlag p) by simp [readFlag, hs, hp])
      go_enter Try.func19, Try.ntmps19
      go_wp2_with fail
      refine (implStateOk s _ _ _ (HS.old h1) (HS.old h2) HW.out hc).mono ?_; rintro e w1 ⟨rfl, hb⟩; (first | have H' := HS.of_below hb | have H' := HS.drew.of_below hb | have H' := (HS.box0 [_] _).of_below hb | have H' := ((HS.box0 [_] _).box0 [_] _).of_below hb | have H' := (HS.alloc _).of_below hb | have H' := ((HS.alloc _).alloc _).of_below hb); clear HS; have HS := H'; clear H'; have F := HS.facts; simp only [Own.Facts, Ds.map, Ds.dots, Own.Cells, World.size_alloc, List.cons_append, List.nil_append, List.eraseIdx_cons_succ, List.eraseIdx_cons_zero, List.eraseIdx_zero, List.tail_cons, Nat.zero_add] at F
      rw [hs]
      clear hs
      go_wp2_with fail
      refine (implPathOk p _ _ (HS.old hP) HWP.out).mono ?_; rintro e w2 ⟨rfl, hb⟩; (first | have H' := HS.of_below hb | have H' := HS.drew.of_below hb | have H' := (HS.box0 [_] _).of_below hb | have H' := ((HS.box0 [_] _).box0 [_] _).of_below hb | have H' := (HS.alloc _).of_below hb | have H' := ((HS.alloc _).alloc _).of_below hb); clear HS; have HS := H'; clear H'; have F := HS.facts; simp only [Own.Facts, Ds.map, Ds.dots, Own.Cells, World.size_alloc, List.cons_append, List.nil_append, List.eraseIdx_cons_succ, List.eraseIdx_cons_zero, List.eraseIdx_zero, List.tail_cons, Nat.zero_add] at F
      rw [hp]
      clear hp
      go_wp2_with fail
      have hcell := F.1.1.1
      refine (containsFlag s.l p _ _ (w.heap.size + 1) _ (HS.old h1) (HS.old hP) hcell).mono ?_; rintro e w3 ⟨rfl, hb⟩; (first | have H' := HS.of_below hb | have H' := HS.drew.of_below hb | have H' := (HS.box0 [_] _).of_below hb | have H' := ((HS.box0 [_] _).box0 [_] _).of_below hb | have H' := (HS.alloc _).of_below hb | have H' := ((HS.alloc _).alloc _).of_below hb); clear HS; have HS := H'; clear H'; have F := HS.facts; simp only [Own.Facts, Ds.map, Ds.dots, Own.Cells, World.size_alloc, List.cons_append, List.nil_append, List.eraseIdx_cons_succ, List.eraseIdx_cons_zero, List.eraseIdx_zero, List.tail_cons, Nat.zero_add] at F
      clear hcell
      go_wp2
      go_ret
      exact ⟨by rw [HQ.out]; rfl, HS.below⟩
end Go.Proofs.Ytgfgkbmebdaieaa
