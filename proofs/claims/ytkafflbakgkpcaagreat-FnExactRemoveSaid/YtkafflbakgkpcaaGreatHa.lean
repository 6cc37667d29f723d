/- Dots: helpers. States: equality. States: equality of leaves' lists and of states. States: equality. States handed in: leaves and states made anew. States handed in: rows of leaves, states. States handed in: their size. -/
import Derived.Test.YtkafflbakgkpcaaGreatTy
import Derived.Outline
import Derived.Test.YtkafflbakgkpcaaGreatCa
import Derived.Test.YtkafflbakgkpcaaGreatL1
namespace Go.Proofs.YtkafflbakgkpcaaGreat
set_option linter.unusedSimpArgs false
set_option linter.unusedVariables false
open Go.RowKit Go.Ow
attribute [local irreducible] wpQuiet
set_option maxRecDepth 100000
theorem toDot (r s : Int) (w : World) : Calls Tryz.prog 79 #[.agg #[.int .i64 r, .int .i64 s]] w fun e w' => e = .returned (.agg #[.int .i64 r, .int .i64 s]) ∧ Below w.heap.size w w' := by
  go_enter Tryz.func79, Tryz.ntmps79
  go_wp2
  exact bodyPost_ret (v := .agg #[.int .i64 r, .int .i64 s]) (by simp [results, Tryz.results79, go_sem, *]) rfl ⟨rfl, ((((Own.start w).alloc _).alloc _).alloc _).below⟩
theorem eqDot (r s r' s' : Int) (w : World) : Calls Tryz.prog 91 #[.agg #[.int .i64 r, .int .i64 s], .agg #[.int .i64 r', .int .i64 s']] w fun e w' => e = .returned (.bool (decide (r = r' ∧ s = s'))) ∧ Below w.heap.size w w' := by
  have he : decide (r = r' ∧ s = s') = (r == r' && s == s') := by simp [Bool.decide_and]; rfl
  rw [he]
  go_enter Tryz.func91, Tryz.ntmps91
  go_wp2
  all_goals
    go_ret
    exact ⟨by simp at *; first | omega | simp [*], (((Own.start w).alloc _).alloc _).below⟩
end Go.Proofs.YtkafflbakgkpcaaGreat
namespace Go.Proofs.YtkafflbakgkpcaaGreat
set_option linter.unusedSimpArgs false
set_option linter.unusedVariables false
open Go.RowKit Go.Ow
attribute [local irreducible] wpQuiet
set_option maxRecDepth 100000
instance : Ty Lf := ⟨57⟩
theorem eqStringS (xs ys : List ByteArray) (v u : Value) (w : World) (hv : Rd w v xs) (hu : Rd w u ys) : Calls Tryz.prog 13 #[v, u] w fun e w' => e = .returned (.bool (decide (xs = ys))) ∧ Below w.heap.size w w' := by
  obtain ⟨A, c, rfl, hc, hl⟩ := hv.val
  obtain ⟨B, d, rfl, hd, hm⟩ := hu.val
  have HS := Own.start w
  by_cases hn : xs.length = ys.length
  · have hb2 : ((xs.length : Int) != (ys.length : Int)) = false := by simp; omega
    have hb3 : ((xs.length : Int) == (ys.length : Int)) = true := by simp; omega
    have HN := Lib.hid hn
    clear hn
    go_enter Tryz.func13, Tryz.ntmps13
    go_wp2
    go_loopw [5] (fun i wr => ∃ k : Nat, k ≤ xs.length ∧ i = .int .i64 k ∧ Own w [] wr ∧ xs.take k = ys.take k) (fun i _ => xs.length - (intOf i).toNat)
    case atStart => exact ⟨0, by omega, rfl, HS, rfl⟩
    case round =>
      obtain ⟨k, hk, rfl, HS', hok⟩ := hrel
      have HOK := Lib.hid hok
      clear hok
      by_cases hlt : k < xs.length
      · have hlt2 : k < ys.length := by have := HN.out; omega
        obtain ⟨b, o, rfl⟩ := hv.fix (by omega)
        obtain ⟨b2, o2, rfl⟩ := hu.fix (by omega)
        have hF : ∀ p : Ext wr, _ := fun p => Sg.rd ((HS'.of_below p.h).old hv) k hlt
        have hG : ∀ p : Ext wr, _ := fun p => Sg.rd ((HS'.of_below p.h).old hu) k hlt2
        by_cases h1 : xs[k] = ys[k]
        · rw [h1] at hF
          have H1 := Lib.hid h1
          clear h1
          generalize ys[k] = m at hF hG
          go_wp2
          (refine wp_region_ext (by kernel_rfl) (by kernel_rfl) ?_; (repeat (quiet_step (first | fail))); refine wpQuiet_nil ?_; rintro _ ⟨⟨w1, hw1⟩, rfl⟩)
          have H2 := HS'.of_below hw1
          clear hF hG
          go_wp2
          go_roundw
          case rel => exact ⟨k + 1, by omega, by go_num, H2, by rw [List.take_succ_eq_append_getElem hlt, List.take_succ_eq_append_getElem hlt2, HOK.out, H1.out]⟩
          case measure => simp [intOf]; omega
        · have hne : xs ≠ ys := fun h => h1 (by simp [h])
          have H1 := Lib.hid hne
          have h1b : (xs[k].toList == ys[k].toList) = false := by rw [str_eq]; simp [h1]
          clear hne h1
          generalize xs[k] = m at hF h1b
          generalize ys[k] = m' at hG h1b
          go_wp2
          (refine wp_region_ext (by kernel_rfl) (by kernel_rfl) ?_; (repeat (quiet_step (first | fail))); refine wpQuiet_nil ?_; rintro _ ⟨⟨w1, hw1⟩, rfl⟩)
          have H2 := HS'.of_below hw1
          clear hF hG
          go_wp2
          go_ret
          exact ⟨by simp [H1.out], H2.below⟩
      · go_wp2
        go_ret
        obtain rfl : k = xs.length := by omega
        have h := HOK.out
        rw [List.take_length, HN.out, List.take_length] at h
        exact ⟨by simp [h], HS'.below⟩
  · have hb2 : ((xs.length : Int) != (ys.length : Int)) = true := by simp; omega
    have hb3 : ((xs.length : Int) == (ys.length : Int)) = false := by simp; omega
    have hne : xs ≠ ys := fun h => hn (by rw [h])
    have H1 := Lib.hid hne
    clear hne
    go_enter Tryz.func13, Tryz.ntmps13
    go_wp2
    go_ret
    exact ⟨by simp [H1.out], HS.below⟩
theorem eqLeaf (x y : Lf) (vp up : Value) (w : World) (hv : Rd w vp x.p) (hu : Rd w up y.p) :
    Calls Tryz.prog 68 #[.agg #[vp, .bool x.fl, .int .i64 x.dr, .int .i64 x.ds, .string x.v], .agg #[up, .bool y.fl, .int .i64 y.dr, .int .i64 y.ds, .string y.v]] w fun e w' => e = .returned (.bool (decide (x = y))) ∧ Below w.heap.size w w' := by
  obtain ⟨A, c, rfl, hc, hl⟩ := hv.val
  obtain ⟨B, d, rfl, hd, hm⟩ := hu.val
  have HS := ((Own.start w).box [.slice A x.p.length c, .bool x.fl, .int .i64 x.dr, .int .i64 x.ds, .string x.v] 57).box (b := w.heap.size + 1) [.slice B y.p.length d, .bool y.fl, .int .i64 y.dr, .int .i64 y.ds, .string y.v] 57
  have he : decide (x = y) = (decide (x.p = y.p) && ((x.fl == y.fl) && (decide (x.dr = y.dr ∧ x.ds = y.ds) && (x.v.toList == y.v.toList)))) := by
    rw [str_eq, Bool.eq_iff_iff]; cases x; cases y; simp; intros; exact and_assoc.symm
  rw [he]
  have HE := Lib.hid he
  clear he
  cases h1 : decide (x.p = y.p)
  · go_enter Tryz.func68, Tryz.ntmps68
    go_wp2_with fail
    refine (eqStringS _ _ _ _ _ (HS.old hv) (HS.old hu)).mono ?_; rintro e w1 ⟨rfl, hb⟩; (first | have H' := HS.of_below hb | have H' := HS.drew.of_below hb | have H' := (HS.box0 [_] _).of_below hb | have H' := ((HS.box0 [_] _).box0 [_] _).of_below hb | have H' := (HS.alloc _).of_below hb | have H' := ((HS.alloc _).alloc _).of_below hb); clear HS; have HS := H'; clear H'; have F := HS.facts; simp only [Own.Facts, Own.Cells, World.size_alloc, List.cons_append, List.nil_append, List.eraseIdx_cons_succ, List.eraseIdx_cons_zero, List.eraseIdx_zero, List.tail_cons, Nat.zero_add] at F
    go_wp2
    go_ret
    exact ⟨rfl, HS.below⟩
  · cases h2 : (x.fl == y.fl)
    · have h2b : (x.fl != y.fl) = true := by simp [bne, h2]
      go_enter Tryz.func68, Tryz.ntmps68
      go_wp2_with fail
      refine (eqStringS _ _ _ _ _ (HS.old hv) (HS.old hu)).mono ?_; rintro e w1 ⟨rfl, hb⟩; (first | have H' := HS.of_below hb | have H' := HS.drew.of_below hb | have H' := (HS.box0 [_] _).of_below hb | have H' := ((HS.box0 [_] _).box0 [_] _).of_below hb | have H' := (HS.alloc _).of_below hb | have H' := ((HS.alloc _).alloc _).of_below hb); clear HS; have HS := H'; clear H'; have F := HS.facts; simp only [Own.Facts, Own.Cells, World.size_alloc, List.cons_append, List.nil_append, List.eraseIdx_cons_succ, List.eraseIdx_cons_zero, List.eraseIdx_zero, List.tail_cons, Nat.zero_add] at F
      go_wp2
      go_ret
      exact ⟨rfl, HS.below⟩
    · have h2b : (x.fl != y.fl) = false := by simp [bne, h2]
      cases h3 : decide (x.dr = y.dr ∧ x.ds = y.ds)
      · go_enter Tryz.func68, Tryz.ntmps68
        go_wp2_with fail
        refine (eqStringS _ _ _ _ _ (HS.old hv) (HS.old hu)).mono ?_; rintro e w1 ⟨rfl, hb⟩; (first | have H' := HS.of_below hb | have H' := HS.drew.of_below hb | have H' := (HS.box0 [_] _).of_below hb | have H' := ((HS.box0 [_] _).box0 [_] _).of_below hb | have H' := (HS.alloc _).of_below hb | have H' := ((HS.alloc _).alloc _).of_below hb); clear HS; have HS := H'; clear H'; have F := HS.facts; simp only [Own.Facts, Own.Cells, World.size_alloc, List.cons_append, List.nil_append, List.eraseIdx_cons_succ, List.eraseIdx_cons_zero, List.eraseIdx_zero, List.tail_cons, Nat.zero_add] at F
        go_wp2_with fail
        refine (eqDot _ _ _ _ _).mono ?_; rintro e w2 ⟨rfl, hb⟩; (first | have H' := HS.of_below hb | have H' := HS.drew.of_below hb | have H' := (HS.box0 [_] _).of_below hb | have H' := ((HS.box0 [_] _).box0 [_] _).of_below hb | have H' := (HS.alloc _).of_below hb | have H' := ((HS.alloc _).alloc _).of_below hb); clear HS; have HS := H'; clear H'; have F := HS.facts; simp only [Own.Facts, Own.Cells, World.size_alloc, List.cons_append, List.nil_append, List.eraseIdx_cons_succ, List.eraseIdx_cons_zero, List.eraseIdx_zero, List.tail_cons, Nat.zero_add] at F
        go_wp2
        go_ret
        exact ⟨rfl, HS.below⟩
      · cases h4 : (x.v.toList == y.v.toList)
        all_goals
          go_enter Tryz.func68, Tryz.ntmps68
          go_wp2_with fail
          refine (eqStringS _ _ _ _ _ (HS.old hv) (HS.old hu)).mono ?_; rintro e w1 ⟨rfl, hb⟩; (first | have H' := HS.of_below hb | have H' := HS.drew.of_below hb | have H' := (HS.box0 [_] _).of_below hb | have H' := ((HS.box0 [_] _).box0 [_] _).of_below hb | have H' := (HS.alloc _).of_below hb | have H' := ((HS.alloc _).alloc _).of_below hb); clear HS; have HS := H'; clear H'; have F := HS.facts; simp only [Own.Facts, Own.Cells, World.size_alloc, List.cons_append, List.nil_append, List.eraseIdx_cons_succ, List.eraseIdx_cons_zero, List.eraseIdx_zero, List.tail_cons, Nat.zero_add] at F
          go_wp2_with fail
          refine (eqDot _ _ _ _ _).mono ?_; rintro e w2 ⟨rfl, hb⟩; (first | have H' := HS.of_below hb | have H' := HS.drew.of_below hb | have H' := (HS.box0 [_] _).of_below hb | have H' := ((HS.box0 [_] _).box0 [_] _).of_below hb | have H' := (HS.alloc _).of_below hb | have H' := ((HS.alloc _).alloc _).of_below hb); clear HS; have HS := H'; clear H'; have F := HS.facts; simp only [Own.Facts, Own.Cells, World.size_alloc, List.cons_append, List.nil_append, List.eraseIdx_cons_succ, List.eraseIdx_cons_zero, List.eraseIdx_zero, List.tail_cons, Nat.zero_add] at F
          go_wp2
          go_ret
          exact ⟨rfl, HS.below⟩
end Go.Proofs.YtkafflbakgkpcaaGreat
namespace Go.Proofs.YtkafflbakgkpcaaGreat
set_option linter.unusedSimpArgs false
set_option linter.unusedVariables false
open Go.RowKit Go.Ow
attribute [local irreducible] wpQuiet
set_option maxRecDepth 100000
theorem eqLeafS (xs ys : List Lf) (v u : Value) (w : World) (hv : Rd w v xs) (hu : Rd w u ys) : Calls Tryz.prog 34 #[v, u] w fun e w' => e = .returned (.bool (decide (xs = ys))) ∧ Below w.heap.size w w' := by
  obtain ⟨A, c, rfl, hc, hl⟩ := hv.val
  obtain ⟨B, d, rfl, hd, hm⟩ := hu.val
  have HS := Own.start w
  by_cases hn : xs.length = ys.length
  · have hb2 : ((xs.length : Int) != (ys.length : Int)) = false := by simp; omega
    have hb3 : ((xs.length : Int) == (ys.length : Int)) = true := by simp; omega
    have HN := Lib.hid hn
    clear hn
    go_enter Tryz.func34, Tryz.ntmps34
    go_wp2
    go_loopw [5] (fun i wr => ∃ k : Nat, k ≤ xs.length ∧ i = .int .i64 k ∧ Own w [] wr ∧ xs.take k = ys.take k) (fun i _ => xs.length - (intOf i).toNat)
    case atStart => exact ⟨0, by omega, rfl, HS, rfl⟩
    case round =>
      obtain ⟨k, hk, rfl, HS', hok⟩ := hrel
      have HOK := Lib.hid hok
      clear hok
      by_cases hlt : k < xs.length
      · have hlt2 : k < ys.length := by have := HN.out; omega
        obtain ⟨b, o, rfl⟩ := hv.fix (by omega)
        obtain ⟨b2, o2, rfl⟩ := hu.fix (by omega)
        obtain ⟨vp, hX⟩ := Lf.rd (HS'.old hv) k hlt
        obtain ⟨up, hY⟩ := Lf.rd (HS'.old hu) k hlt2
        have hF : ∀ p : Ext wr, _ := fun p => (hX p.to p.h).2
        have hG : ∀ p : Ext wr, _ := fun p => (hY p.to p.h).2
        have hP : ∀ p : Ext wr, Rd p.to vp xs[k].p := fun p => (hX p.to p.h).1
        have hR : ∀ p : Ext wr, Rd p.to up ys[k].p := fun p => (hY p.to p.h).1
        have HPR := Lib.hid (And.intro hP hR)
        have hone1 : vp.oneCell' = true := (hP ⟨wr, Below.refl _ _⟩).oneCell
        have hone2 : up.oneCell' = true := (hR ⟨wr, Below.refl _ _⟩).oneCell
        clear hX hY hP hR
        by_cases h1 : xs[k] = ys[k]
        · have h1b : decide (xs[k] = ys[k]) = true := by simp [h1]
          have H1 := Lib.hid h1
          clear h1
          go_wp2
          (refine wp_region_ext (by kernel_rfl) (by kernel_rfl) ?_; (repeat (quiet_step (first | exact q_call (eqLeaf xs[k] ys[k] _ _ _ (HPR.out.1 _) (HPR.out.2 _))))); refine wpQuiet_nil ?_; rintro _ ⟨⟨w1, hw1⟩, rfl⟩)
          have H2 := HS'.of_below hw1
          clear hF hG
          go_wp2
          go_roundw
          case rel => exact ⟨k + 1, by omega, by go_num, H2, by rw [List.take_succ_eq_append_getElem hlt, List.take_succ_eq_append_getElem hlt2, HOK.out, H1.out]⟩
          case measure => simp [intOf]; omega
        · have h1b : decide (xs[k] = ys[k]) = false := by simp [h1]
          have hne : xs ≠ ys := fun h => h1 (by simp [h])
          have H1 := Lib.hid hne
          clear h1 hne
          go_wp2
          (refine wp_region_ext (by kernel_rfl) (by kernel_rfl) ?_; (repeat (quiet_step (first | exact q_call (eqLeaf xs[k] ys[k] _ _ _ (HPR.out.1 _) (HPR.out.2 _))))); refine wpQuiet_nil ?_; rintro _ ⟨⟨w1, hw1⟩, rfl⟩)
          have H2 := HS'.of_below hw1
          clear hF hG
          go_wp2
          go_ret
          exact ⟨by simp [H1.out], H2.below⟩
      · go_wp2
        go_ret
        obtain rfl : k = xs.length := by omega
        have h := HOK.out
        rw [List.take_length, HN.out, List.take_length] at h
        exact ⟨by simp [h], HS'.below⟩
  · have hb2 : ((xs.length : Int) != (ys.length : Int)) = true := by simp; omega
    have hb3 : ((xs.length : Int) == (ys.length : Int)) = false := by simp; omega
    have hne : xs ≠ ys := fun h => hn (by rw [h])
    have H1 := Lib.hid hne
    clear hne
    go_enter Tryz.func34, Tryz.ntmps34
    go_wp2
    go_ret
    exact ⟨by simp [H1.out], HS.below⟩
end Go.Proofs.YtkafflbakgkpcaaGreat
namespace Go.Proofs.YtkafflbakgkpcaaGreat
set_option linter.unusedSimpArgs false
set_option linter.unusedVariables false
open Go.RowKit Go.Ow
attribute [local irreducible] wpQuiet
set_option maxRecDepth 100000
theorem eqState (x y : St) (vl vc ul uc : Value) (w : World) (h1 : Rd w vl x.l) (h2 : Rd w vc x.c) (h3 : Rd w ul y.l) (h4 : Rd w uc y.c) :
    Calls Tryz.prog 12 #[.agg #[vl, vc], .agg #[ul, uc]] w fun e w' => e = .returned (.bool (decide (x = y))) ∧ Below w.heap.size w w' := by
  obtain ⟨A1, c1, rfl, _, _⟩ := h1.val
  obtain ⟨A2, c2, rfl, _, _⟩ := h2.val
  obtain ⟨A3, c3, rfl, _, _⟩ := h3.val
  obtain ⟨A4, c4, rfl, _, _⟩ := h4.val
  have HS := ((Own.start w).box [.slice A1 x.l.length c1, .slice A2 x.c.length c2] 36).box (b := w.heap.size + 1) [.slice A3 y.l.length c3, .slice A4 y.c.length c4] 36
  have he : decide (x = y) = (decide (x.l = y.l) && decide (x.c = y.c)) := by rw [Bool.eq_iff_iff]; cases x; cases y; simp
  rw [he]
  have HE := Lib.hid he
  clear he
  cases d1 : decide (x.l = y.l)
  · go_enter Tryz.func12, Tryz.ntmps12
    go_wp2_with fail
    refine (eqLeafS _ _ _ _ _ (HS.old h1) (HS.old h3)).mono ?_; rintro e w1 ⟨rfl, hb⟩; (first | have H' := HS.of_below hb | have H' := HS.drew.of_below hb | have H' := (HS.box0 [_] _).of_below hb | have H' := ((HS.box0 [_] _).box0 [_] _).of_below hb | have H' := (HS.alloc _).of_below hb | have H' := ((HS.alloc _).alloc _).of_below hb); clear HS; have HS := H'; clear H'; have F := HS.facts; simp only [Own.Facts, Own.Cells, World.size_alloc, List.cons_append, List.nil_append, List.eraseIdx_cons_succ, List.eraseIdx_cons_zero, List.eraseIdx_zero, List.tail_cons, Nat.zero_add] at F
    go_wp2
    go_ret
    exact ⟨rfl, HS.below⟩
  · cases d2 : decide (x.c = y.c)
    all_goals
      go_enter Tryz.func12, Tryz.ntmps12
      go_wp2_with fail
      refine (eqLeafS _ _ _ _ _ (HS.old h1) (HS.old h3)).mono ?_; rintro e w1 ⟨rfl, hb⟩; (first | have H' := HS.of_below hb | have H' := HS.drew.of_below hb | have H' := (HS.box0 [_] _).of_below hb | have H' := ((HS.box0 [_] _).box0 [_] _).of_below hb | have H' := (HS.alloc _).of_below hb | have H' := ((HS.alloc _).alloc _).of_below hb); clear HS; have HS := H'; clear H'; have F := HS.facts; simp only [Own.Facts, Own.Cells, World.size_alloc, List.cons_append, List.nil_append, List.eraseIdx_cons_succ, List.eraseIdx_cons_zero, List.eraseIdx_zero, List.tail_cons, Nat.zero_add] at F
      go_wp2_with fail
      refine (eqContext _ _ _ _ _ (HS.old h2) (HS.old h4)).mono ?_; rintro e w2 ⟨rfl, hb⟩; (first | have H' := HS.of_below hb | have H' := HS.drew.of_below hb | have H' := (HS.box0 [_] _).of_below hb | have H' := ((HS.box0 [_] _).box0 [_] _).of_below hb | have H' := (HS.alloc _).of_below hb | have H' := ((HS.alloc _).alloc _).of_below hb); clear HS; have HS := H'; clear H'; have F := HS.facts; simp only [Own.Facts, Own.Cells, World.size_alloc, List.cons_append, List.nil_append, List.eraseIdx_cons_succ, List.eraseIdx_cons_zero, List.eraseIdx_zero, List.tail_cons, Nat.zero_add] at F
      go_wp2
      go_ret
      exact ⟨rfl, HS.below⟩
end Go.Proofs.YtkafflbakgkpcaaGreat
namespace Go.Proofs.YtkafflbakgkpcaaGreat
set_option linter.unusedSimpArgs false
set_option linter.unusedVariables false
open Go.RowKit Go.Ow
attribute [local irreducible] wpQuiet
set_option maxRecDepth 100000
instance : ElZ Tryz.prog ByteArray := { bytes := 16, info := El.of (by kernel_rfl), zero := ByteArray.empty, infoz := ElZ.of (by kernel_rfl) }
theorem Sg.put {W w : World} {R : List Ds} {g n cap : Nat} {xs : List ByteArray} (h : Own W (.own (.slice (some ⟨g, 0, none⟩) n cap) xs :: R) w) (i : Nat) (hi : i < xs.length) (x : ByteArray) : Own W (.own (.slice (some ⟨g, 0, none⟩) n cap) (xs.set i x) :: R) (w.setCell ⟨g, i, none⟩ (.string x)) := by
  have := h.put i hi 0 (by decide) (.string x) x rfl
  have e : i * Cd.z ByteArray + 0 = i := by show i * 1 + 0 = i; omega
  rw [e] at this
  exact this
theorem Sg.row {W w : World} {R : List Ds} {g n cap : Nat} {xs : List ByteArray} (h : Own W (.own (.slice (some ⟨g, 0, none⟩) n cap) xs :: R) w) (i : Nat) (hi : i < xs.length) : w.cell? ⟨g, i, none⟩ = some (.string xs[i]) ∧ ∀ j, w.frozen? ⟨g, j, none⟩ = false := by
  have := h.rowc.1 i hi 0 (by decide)
  have e : i * Cd.z ByteArray + 0 = i := by show i * 1 + 0 = i; omega
  rw [e] at this
  exact ⟨this, h.rowc.2⟩
theorem toStringS (xs : List ByteArray) (v : Value) (w : World) (hv : Rd w v xs) (hn : xs.length ≤ 1048576) : Calls Tryz.prog 10 #[v] w fun e w' => ∃ v', e = .returned v' ∧ Own w [.own v' xs] w' := by
  obtain ⟨A, c, rfl, hc, hl⟩ := hv.val
  have HS := Own.start w
  go_enter Tryz.func10, Tryz.ntmps10
  go_wp2_with (refine wp_make (α := ByteArray) rfl _ _ 28 rfl (by kernel_rfl) HS _ _ _ _ xs.length rfl rfl rfl rfl (by show 16 * _ ≤ _; omega) hl ?_; clear HS; intro w1 HS)
  go_loopw [4] (fun i wr => ∃ k : Nat, k ≤ xs.length ∧ i = .int .i64 k ∧ Own w [.own (.slice (some ⟨w.heap.size, 0, none⟩) xs.length xs.length) (xs.take k ++ List.replicate (xs.length - k) ByteArray.empty)] wr) (fun i _ => xs.length - (intOf i).toNat)
  case atStart => exact ⟨0, by omega, rfl, by simpa using (show Own w [.own _ (List.replicate xs.length ByteArray.empty)] w1 from HS)⟩
  case round =>
    obtain ⟨k, hk, rfl, HS'⟩ := hrel
    by_cases hlt : k < xs.length
    · obtain ⟨b, o, rfl⟩ := hv.fix (by omega)
      have r0 := Sg.rd (HS'.old hv) k hlt
      have hl2 : (xs.take k ++ List.replicate (xs.length - k) ByteArray.empty).length = xs.length := by simp; omega
      have hr := Sg.row HS' k (by omega)
      go_wp2
      go_roundw
      case rel => exact ⟨k + 1, by omega, by go_num, by rw [← fill_set xs ByteArray.empty k hlt]; exact Sg.put HS' k (by omega) xs[k]⟩
      case measure => simp [intOf]; omega
    · go_wp2
      go_ret
      obtain rfl : k = xs.length := by omega
      exact ⟨_, rfl, by simpa using HS'⟩
theorem toLeaf (x : Lf) (vp : Value) (w : World) (hv : Rd w vp x.p) (hn : x.p.length ≤ 1048576) :
    Calls Tryz.prog 54 #[.agg #[vp, .bool x.fl, .int .i64 x.dr, .int .i64 x.ds, .string x.v]] w fun e w' => ∃ v', e = .returned (.agg #[v', .bool x.fl, .int .i64 x.dr, .int .i64 x.ds, .string x.v]) ∧ Own w [.own v' x.p] w' := by
  obtain ⟨A, c, rfl, hc, hl⟩ := hv.val
  have HS := (((Own.start w).box [.slice A x.p.length c, .bool x.fl, .int .i64 x.dr, .int .i64 x.ds, .string x.v] 72).box (b := w.heap.size + 1) [.slice none 0 0, .bool false, .int .i64 0, .int .i64 0, .string ByteArray.empty] 57).box (b := w.heap.size + 1 + 1) [.slice none 0 0, .bool false, .int .i64 0, .int .i64 0, .string ByteArray.empty] 57
  go_enter Tryz.func54, Tryz.ntmps54
  go_wp2_with fail
  refine (toStringS _ _ _ (by repeat (first | exact HS.old hv | exact HS.rd 0 rfl | exact HS.rd 1 rfl | exact HS.rd 2 rfl | exact HS.rd 3 rfl | exact HS.rd 4 rfl | exact HS.rd 5 rfl | exact HS.drew.old hv | exact HS.drew.rd 0 rfl | exact HS.drew.rd 1 rfl | exact HS.drew.rd 2 rfl | exact HS.drew.rd 3 rfl | exact HS.drew.rd 4 rfl | exact HS.drew.rd 5 rfl | refine Rd.alloc ?_ _)) hn).mono ?_; rintro e w1 ⟨v', rfl, hs⟩; obtain ⟨A', c', rfl, _, _⟩ := (hs.rd 0 rfl).val; (first | have H' := HS.call1 hs | have H' := HS.drew.call1 hs | have H' := (HS.box0 [_] _).call1 hs | have H' := ((HS.box0 [_] _).box0 [_] _).call1 hs | have H' := (HS.alloc _).call1 hs | have H' := ((HS.alloc _).alloc _).call1 hs); clear HS; have HS := H'; clear H'; have F := HS.facts; simp only [Own.Facts, Own.Cells, World.size_alloc, List.cons_append, List.nil_append, List.eraseIdx_cons_succ, List.eraseIdx_cons_zero, List.eraseIdx_zero, List.tail_cons, Nat.zero_add] at F
  replace HS := (((HS.pick 1 rfl).set 0 (.slice A' x.p.length c')).set 1 (.bool x.fl))
  simp only [List.set_cons_zero, List.set_cons_succ] at HS
  have F := HS.facts; simp only [Own.Facts, Own.Cells, World.size_alloc, List.cons_append, List.nil_append, List.eraseIdx_cons_succ, List.eraseIdx_cons_zero, List.eraseIdx_zero, List.tail_cons, Nat.zero_add] at F
  go_wp2_with fail
  refine (toDot _ _ _).mono ?_; rintro e w2 ⟨rfl, hb⟩; (first | have H' := HS.of_below hb | have H' := HS.drew.of_below hb | have H' := (HS.box0 [_] _).of_below hb | have H' := ((HS.box0 [_] _).box0 [_] _).of_below hb | have H' := (HS.alloc _).of_below hb | have H' := ((HS.alloc _).alloc _).of_below hb); clear HS; have HS := H'; clear H'; have F := HS.facts; simp only [Own.Facts, Own.Cells, World.size_alloc, List.cons_append, List.nil_append, List.eraseIdx_cons_succ, List.eraseIdx_cons_zero, List.eraseIdx_zero, List.tail_cons, Nat.zero_add] at F
  go_wp2
  have H2 := ((HS.set 2 (.int .i64 x.dr)).set 3 (.int .i64 x.ds)).set 4 (.string x.v)
  have F2 := H2.facts
  have H3 := ((((((H2.drop.pick 1 rfl).set 0 (.slice A' x.p.length c')).set 1 (.bool x.fl)).set 2 (.int .i64 x.dr)).set 3 (.int .i64 x.ds)).set 4 (.string x.v)).drop.only
  trace_state
  exact bodyPost_ret (v := .agg #[.slice A' x.p.length c', .bool x.fl, .int .i64 x.dr, .int .i64 x.ds, .string x.v]) (by simp [results, Tryz.results54, go_sem, *]) rfl ⟨_, rfl, H3⟩
end Go.Proofs.YtkafflbakgkpcaaGreat
namespace Go.Proofs.YtkafflbakgkpcaaGreat
set_option linter.unusedSimpArgs false
set_option linter.unusedVariables false
open Go.RowKit Go.Ow
attribute [local irreducible] wpQuiet
set_option maxRecDepth 100000
def lf0 : Lf := ⟨[], false, 0, 0, ByteArray.empty⟩
theorem lf0_dp (w : World) : Cd.dp w lf0 [.slice none 0 0, .bool false, .int .i64 0, .int .i64 0, .string ByteArray.empty] [] :=
  ⟨[.slice none 0 0], _, [], [], rfl, rfl, ⟨_, rfl, .inl ⟨rfl, rfl, rfl⟩⟩, [.bool false], _, [], [], rfl, rfl, ⟨rfl, rfl⟩, [.int .i64 0], _, [], [], rfl, rfl, ⟨rfl, rfl⟩, [.int .i64 0], [.string _], [], [], rfl, rfl, ⟨rfl, rfl⟩, ⟨rfl, rfl⟩⟩
theorem toLeafS (xs : List Lf) (v : Value) (w : World) (hv : Rd w v xs) (hn : xs.length ≤ 1048576) (hp : ∀ x ∈ xs, x.p.length ≤ 1048576) : Calls Tryz.prog 27 #[v] w fun e w' => ∃ v', e = .returned v' ∧ Own w [.own v' xs] w' := by
  obtain ⟨A, c, rfl, hc, hl⟩ := hv.val
  have HS := Own.start w
  have HP := Lib.hid hp
  clear hp
  go_enter Tryz.func27, Tryz.ntmps27
  go_wp2_with (refine wp_makeC (α := Lf) lf0 _ 64 lf0_dp (by kernel_rfl) rfl _ _ 31 rfl (by kernel_rfl) HS _ _ _ _ xs.length rfl rfl rfl rfl (by omega) hl ?_; clear HS; intro w1 HS)
  go_loopw [4] (fun i wr => ∃ k : Nat, k ≤ xs.length ∧ i = .int .i64 k ∧ Own w [.own (.slice (some ⟨w.heap.size, 0, none⟩) xs.length xs.length) (xs.take k ++ List.replicate (xs.length - k) lf0)] wr) (fun i _ => xs.length - (intOf i).toNat)
  case atStart => exact ⟨0, by omega, rfl, by simpa using (show Own w [.own _ (List.replicate xs.length lf0)] w1 from HS)⟩
  case round =>
    obtain ⟨k, hk, rfl, HS'⟩ := hrel
    by_cases hlt : k < xs.length
    · obtain ⟨b, o, rfl⟩ := hv.fix (by omega)
      obtain ⟨vp, hx⟩ := Lf.rd (HS'.old hv) k hlt
      obtain ⟨hp, c0, c1, c2, c3, c4⟩ := hx wr (Below.refl _ _)
      clear hx
      have hl2 : (xs.take k ++ List.replicate (xs.length - k) lf0).length = xs.length := by simp; omega
      have hpl := HP.out xs[k] (List.getElem_mem hlt)
      have HF := Lib.hid (fill_set xs lf0 k hlt)
      obtain ⟨x, hxk⟩ : ∃ x, xs[k] = x := ⟨_, rfl⟩
      rw [hxk] at hp c1 c2 c3 c4 hpl HF
      clear hxk
      obtain ⟨ys, hys⟩ : ∃ ys, xs.take k ++ List.replicate (xs.length - k) lf0 = ys := ⟨_, rfl⟩
      rw [hys] at HS' hl2 HF
      clear hys
      have HL := Lib.hid hl2
      go_wp2_with fail
      refine (toLeaf x vp _ hp hpl).mono ?_
      rintro e w2 ⟨v', rfl, hs⟩
      obtain ⟨A', c', rfl, _, _⟩ := (hs.rd 0 rfl).val
      have HS2 := HS'.call1 hs
      have ht := (HS2.pick 1 rfl).thaw.1
      obtain ⟨vq, hy⟩ := Lf.rd (HS2.rd 1 rfl) k (by omega)
      obtain ⟨_, d0, d1, d2, d3, d4⟩ := hy w2 (Below.refl _ _)
      simp only [Nat.zero_add] at d0 d1 d2 d3 d4
      clear hy
      go_wp2
      go_roundw
      case rel =>
        have := HL.out
        refine ⟨k + 1, by omega, by go_num, ?_⟩
        rw [← HF.out]
        rw [show xs.length = ys.length from this.symm] at HS2 ⊢
        exact Lf.put HS2 k (by omega)
      case measure => simp [intOf]; omega
    · go_wp2
      go_ret
      obtain rfl : k = xs.length := by omega
      exact ⟨_, rfl, by simpa using HS'⟩
theorem toState (x : St) (vl vc : Value) (w : World) (h1 : Rd w vl x.l) (h2 : Rd w vc x.c) (hn : x.l.length ≤ 1048576) (hp : ∀ y ∈ x.l, y.p.length ≤ 1048576) (hc : x.c.length ≤ 1048576) :
    Calls Tryz.prog 9 #[.agg #[vl, vc]] w fun e w' => ∃ ul uc, e = .returned (.agg #[ul, uc]) ∧ Own w [.own ul x.l, .own uc x.c] w' := by
  obtain ⟨A, c, rfl, _, hl⟩ := h1.val
  obtain ⟨A2, c2, rfl, _, hl2⟩ := h2.val
  have HS := (((Own.start w).box [.slice A x.l.length c, .slice A2 x.c.length c2] 27).box (b := w.heap.size + 1) [.slice none 0 0, .slice none 0 0] 36).box (b := w.heap.size + 1 + 1) [.slice none 0 0, .slice none 0 0] 36
  go_enter Tryz.func9, Tryz.ntmps9
  go_wp2_with fail
  refine (toLeafS _ _ _ (by repeat (first | exact HS.old h1 | exact HS.rd 0 rfl | exact HS.rd 1 rfl | exact HS.rd 2 rfl | exact HS.rd 3 rfl | exact HS.rd 4 rfl | exact HS.rd 5 rfl | exact HS.drew.old h1 | exact HS.drew.rd 0 rfl | exact HS.drew.rd 1 rfl | exact HS.drew.rd 2 rfl | exact HS.drew.rd 3 rfl | exact HS.drew.rd 4 rfl | exact HS.drew.rd 5 rfl | refine Rd.alloc ?_ _)) hn hp).mono ?_; rintro e w1 ⟨v', rfl, hs⟩; obtain ⟨A', c', rfl, _, _⟩ := (hs.rd 0 rfl).val; (first | have H' := HS.call1 hs | have H' := HS.drew.call1 hs | have H' := (HS.box0 [_] _).call1 hs | have H' := ((HS.box0 [_] _).box0 [_] _).call1 hs | have H' := (HS.alloc _).call1 hs | have H' := ((HS.alloc _).alloc _).call1 hs); clear HS; have HS := H'; clear H'; have F := HS.facts; simp only [Own.Facts, Own.Cells, World.size_alloc, List.cons_append, List.nil_append, List.eraseIdx_cons_succ, List.eraseIdx_cons_zero, List.eraseIdx_zero, List.tail_cons, Nat.zero_add] at F
  replace HS := ((HS.pick 1 rfl).set 0 (.slice A' x.l.length c'))
  simp only [List.set_cons_zero, List.set_cons_succ] at HS
  have F := HS.facts; simp only [Own.Facts, Own.Cells, World.size_alloc, List.cons_append, List.nil_append, List.eraseIdx_cons_succ, List.eraseIdx_cons_zero, List.eraseIdx_zero, List.tail_cons, Nat.zero_add] at F
  go_wp2_with fail
  refine (toContext _ _ _ (by repeat (first | exact HS.old h2 | exact HS.rd 0 rfl | exact HS.rd 1 rfl | exact HS.rd 2 rfl | exact HS.rd 3 rfl | exact HS.rd 4 rfl | exact HS.rd 5 rfl | exact HS.drew.old h2 | exact HS.drew.rd 0 rfl | exact HS.drew.rd 1 rfl | exact HS.drew.rd 2 rfl | exact HS.drew.rd 3 rfl | exact HS.drew.rd 4 rfl | exact HS.drew.rd 5 rfl | refine Rd.alloc ?_ _)) hc).mono ?_; rintro e w2 ⟨v', rfl, hs⟩; obtain ⟨A3, c3, rfl, _, _⟩ := (hs.rd 0 rfl).val; (first | have H' := HS.call1 hs | have H' := HS.drew.call1 hs | have H' := (HS.box0 [_] _).call1 hs | have H' := ((HS.box0 [_] _).box0 [_] _).call1 hs | have H' := (HS.alloc _).call1 hs | have H' := ((HS.alloc _).alloc _).call1 hs); clear HS; have HS := H'; clear H'; have F := HS.facts; simp only [Own.Facts, Own.Cells, World.size_alloc, List.cons_append, List.nil_append, List.eraseIdx_cons_succ, List.eraseIdx_cons_zero, List.eraseIdx_zero, List.tail_cons, Nat.zero_add] at F
  go_wp2
  have H2 := (HS.pick 1 rfl).set 1 (.slice A3 x.c.length c3)
  have F2 := H2.facts
  have H3 := ((((H2.drop.pick 2 rfl).set 0 (.slice A' x.l.length c')).set 1 (.slice A3 x.c.length c3)).drop.pick 2 rfl).drop.pick 1 rfl
  exact bodyPost_ret (v := .agg #[.slice A' x.l.length c', .slice A3 x.c.length c3]) (by simp [results, Tryz.results9, go_sem, *]) rfl ⟨_, _, rfl, H3⟩
end Go.Proofs.YtkafflbakgkpcaaGreat
namespace Go.Proofs.YtkafflbakgkpcaaGreat
set_option linter.unusedSimpArgs false
set_option linter.unusedVariables false
open Go.RowKit Go.Ow
attribute [local irreducible] wpQuiet
set_option maxRecDepth 100000
/-- Leaves as they come in: texts and numbers that are no greater than a machine holds. -/
def LfW (x : Lf) : Prop := (∀ s ∈ x.p, s.size ≤ 140737488351232) ∧ x.v.size ≤ 140737488351232 ∧ x.ds ≤ 9223372036854775807
/-- What is left behind texts: -1, or what their count and bytes leave. -/
theorem szStringS (xs : List ByteArray) (v : Value) (left : Int) (w : World) (hv : Rd w v xs) (hw : ∀ s ∈ xs, s.size ≤ 140737488351232) (h0 : left ≤ 1048576) (hl0 : -1 ≤ left) : Calls Tryz.prog 7 #[v, .int .i64 left] w fun e w' => (∃ r : Int, e = .returned (.int .i64 r) ∧ -1 ≤ r ∧ r ≤ left ∧ (0 ≤ r → (xs.length : Int) ≤ left)) ∧ Below w.heap.size w w' := by
  obtain ⟨A, c, rfl, hc, hl⟩ := hv.val
  have HS := Own.start w
  have HW := Lib.hid hw
  clear hw
  go_enter Tryz.func7, Tryz.ntmps7
  by_cases hlt : left < xs.length
  · go_wp2
    go_ret
    exact ⟨⟨-1, rfl, by omega, by omega, by omega⟩, HS.below⟩
  · go_wp2
    go_loopw [1, 5] (fun l i wr => ∃ (k : Nat) (r : Int), k ≤ xs.length ∧ i = .int .i64 k ∧ l = .int .i64 r ∧ 0 ≤ r ∧ r ≤ left - xs.length ∧ Own w [] wr) (fun _ i _ => xs.length - (intOf i).toNat)
    case atStart => exact ⟨0, left - xs.length, by omega, rfl, by go_num, by omega, by omega, HS⟩
    case round =>
      obtain ⟨k, r, hk, rfl, rfl, hr0, hr1, HS'⟩ := hrel
      by_cases hlt2 : k < xs.length
      · obtain ⟨b, o, rfl⟩ := hv.fix (by omega)
        have r0 := Sg.rd (HS'.old hv) k hlt2
        have hsz := HW.out xs[k] (List.getElem_mem hlt2)
        obtain ⟨x, hx⟩ : ∃ x, xs[k] = x := ⟨_, rfl⟩
        rw [hx] at r0 hsz
        clear hx
        by_cases hle : r < x.size
        · go_wp2
          go_ret
          exact ⟨⟨-1, rfl, by omega, by omega, by omega⟩, HS'.below⟩
        · go_wp2
          go_roundw
          case rel => exact ⟨k + 1, r - x.size, by omega, by go_num, by go_num, by omega, by omega, HS'⟩
          case measure => simp [intOf]; omega
      · go_wp2
        go_ret
        exact ⟨⟨r, rfl, by omega, by omega, by omega⟩, HS'.below⟩
theorem szLeaf (x : Lf) (vp : Value) (left : Int) (w : World) (hv : Rd w vp x.p) (hw : LfW x) (h0 : left ≤ 1048576) (hl0 : -1 ≤ left) :
    Calls Tryz.prog 43 #[.agg #[vp, .bool x.fl, .int .i64 x.dr, .int .i64 x.ds, .string x.v], .int .i64 left] w fun e w' => (∃ r : Int, e = .returned (.int .i64 r) ∧ -1 ≤ r ∧ r ≤ left ∧ (0 ≤ r → (x.p.length : Int) ≤ left)) ∧ Below w.heap.size w w' := by
  obtain ⟨A, c, rfl, hc, hl⟩ := hv.val
  have HS := (Own.start w).box [.slice A x.p.length c, .bool x.fl, .int .i64 x.dr, .int .i64 x.ds, .string x.v] 72
  have hxs := hw.2.1
  go_enter Tryz.func43, Tryz.ntmps43
  go_wp2_with fail
  refine (szStringS _ _ _ _ (by repeat (first | exact HS.old hv | exact HS.rd 0 rfl | exact HS.rd 1 rfl | exact HS.rd 2 rfl | exact HS.rd 3 rfl | exact HS.rd 4 rfl | exact HS.rd 5 rfl | exact HS.drew.old hv | exact HS.drew.rd 0 rfl | exact HS.drew.rd 1 rfl | exact HS.drew.rd 2 rfl | exact HS.drew.rd 3 rfl | exact HS.drew.rd 4 rfl | exact HS.drew.rd 5 rfl | refine Rd.alloc ?_ _)) hw.1 h0 hl0).mono ?_; rintro e w1 ⟨⟨r, rfl, hr1, hr2, hr3⟩, hb⟩; (first | have H' := HS.of_below hb | have H' := HS.drew.of_below hb | have H' := (HS.box0 [_] _).of_below hb | have H' := ((HS.box0 [_] _).box0 [_] _).of_below hb | have H' := (HS.alloc _).of_below hb | have H' := ((HS.alloc _).alloc _).of_below hb); clear HS; have HS := H'; clear H'; have F := HS.facts; simp only [Own.Facts, Own.Cells, World.size_alloc, List.cons_append, List.nil_append, List.eraseIdx_cons_succ, List.eraseIdx_cons_zero, List.eraseIdx_zero, List.tail_cons, Nat.zero_add] at F
  by_cases hr : r < 0
  · go_wp2
    go_ret
    exact ⟨⟨-1, rfl, by omega, by omega, by omega⟩, HS.below⟩
  · by_cases hle : r < x.v.size
    · go_wp2
      go_ret
      exact ⟨⟨-1, rfl, by omega, by omega, by omega⟩, HS.below⟩
    · go_wp2
      go_ret
      exact ⟨⟨r - x.v.size, by go_num, by omega, by omega, by omega⟩, HS.below⟩
theorem szLeafS (xs : List Lf) (v : Value) (left : Int) (w : World) (hv : Rd w v xs) (hw : ∀ x ∈ xs, LfW x) (h0 : left ≤ 1048576) (hl0 : -1 ≤ left) : Calls Tryz.prog 21 #[v, .int .i64 left] w fun e w' => (∃ r : Int, e = .returned (.int .i64 r) ∧ -1 ≤ r ∧ r ≤ left ∧ (0 ≤ r → (xs.length : Int) ≤ left ∧ ∀ x ∈ xs, (x.p.length : Int) ≤ left)) ∧ Below w.heap.size w w' := by
  obtain ⟨A, c, rfl, hc, hl⟩ := hv.val
  have HS := Own.start w
  have HW := Lib.hid hw
  clear hw
  go_enter Tryz.func21, Tryz.ntmps21
  by_cases hlt : left < xs.length
  · go_wp2
    go_ret
    exact ⟨⟨-1, rfl, by omega, by omega, by omega⟩, HS.below⟩
  · go_wp2
    go_loopw [1, 5] (fun l i wr => ∃ (k : Nat) (r : Int), k ≤ xs.length ∧ i = .int .i64 k ∧ l = .int .i64 r ∧ 0 ≤ r ∧ r ≤ left - xs.length ∧ Own w [] wr ∧ ∀ j (hj : j < xs.length), j < k → (xs[j].p.length : Int) ≤ left) (fun _ i _ => xs.length - (intOf i).toNat)
    case atStart => exact ⟨0, left - xs.length, by omega, rfl, by go_num, by omega, by omega, HS, fun _ _ _ => by omega⟩
    case round =>
      obtain ⟨k, r, hk, rfl, rfl, hr0, hr1, HS', ha⟩ := hrel
      have HA := Lib.hid ha
      clear ha
      by_cases hlt2 : k < xs.length
      · obtain ⟨b, o, rfl⟩ := hv.fix (by omega)
        obtain ⟨vp, hx⟩ := Lf.rd (HS'.old hv) k hlt2
        obtain ⟨hp, c0, c1, c2, c3, c4⟩ := hx wr (Below.refl _ _)
        clear hx
        have hB : ∀ q : Int, (xs[k].p.length : Int) ≤ q → q ≤ left → ∀ j (hj : j < xs.length), j < k + 1 → (xs[j].p.length : Int) ≤ left := fun q h1 h2 j hj hjk => by
          by_cases hjk2 : j < k
          · exact HA.out j hj hjk2
          · obtain rfl : j = k := by omega
            exact Int.le_trans h1 h2
        have HB := Lib.hid hB
        clear hB
        have hsz := HW.out xs[k] (List.getElem_mem hlt2)
        obtain ⟨x, hx⟩ : ∃ x, xs[k] = x := ⟨_, rfl⟩
        rw [hx] at hp c1 c2 c3 c4 HB hsz
        clear hx
        go_wp2_with fail
        refine (szLeaf x vp _ _ hp hsz (by omega) (by omega)).mono ?_
        rintro e w2 ⟨⟨r2, rfl, hq1, hq2, hq3⟩, hb⟩
        have H2 := HS'.of_below hb
        by_cases hr : r2 < 0
        · go_wp2
          go_ret
          exact ⟨⟨-1, rfl, by omega, by omega, by omega⟩, H2.below⟩
        · go_wp2
          go_roundw
          case rel => exact ⟨k + 1, r2, by omega, by go_num, rfl, by omega, by omega, H2, HB.out r (hq3 (by omega)) (by omega)⟩
          case measure => simp [intOf]; omega
      · obtain rfl : k = xs.length := by omega
        go_wp2
        go_ret
        exact ⟨⟨r, rfl, by omega, by omega, fun _ => ⟨by omega, fun x hx => by obtain ⟨j, hj, rfl⟩ := List.getElem_of_mem hx; exact HA.out j hj hj⟩⟩, HS'.below⟩
/-- When a state is not too big. -/
theorem szState (x : St) (vl vc : Value) (left : Int) (w : World) (h1 : Rd w vl x.l) (h2 : Rd w vc x.c) (hw : ∀ y ∈ x.l, LfW y) (h0 : left ≤ 1048576) (hl0 : -1 ≤ left) :
    Calls Tryz.prog 6 #[.agg #[vl, vc], .int .i64 left] w fun e w' => (∃ r : Int, e = .returned (.int .i64 r) ∧ -1 ≤ r ∧ r ≤ left ∧ (0 ≤ r → (x.l.length : Int) ≤ left ∧ (∀ y ∈ x.l, (y.p.length : Int) ≤ left) ∧ (x.c.length : Int) ≤ left)) ∧ Below w.heap.size w w' := by
  obtain ⟨A, c, rfl, _, hl⟩ := h1.val
  obtain ⟨A2, c2, rfl, _, hl2⟩ := h2.val
  have HS := (Own.start w).box [.slice A x.l.length c, .slice A2 x.c.length c2] 27
  go_enter Tryz.func6, Tryz.ntmps6
  go_wp2_with fail
  refine (szLeafS _ _ _ _ (by repeat (first | exact HS.old h1 | exact HS.rd 0 rfl | exact HS.rd 1 rfl | exact HS.rd 2 rfl | exact HS.rd 3 rfl | exact HS.rd 4 rfl | exact HS.rd 5 rfl | exact HS.drew.old h1 | exact HS.drew.rd 0 rfl | exact HS.drew.rd 1 rfl | exact HS.drew.rd 2 rfl | exact HS.drew.rd 3 rfl | exact HS.drew.rd 4 rfl | exact HS.drew.rd 5 rfl | refine Rd.alloc ?_ _)) hw h0 hl0).mono ?_; rintro e w1 ⟨⟨r, rfl, hr1, hr2, hr3⟩, hb⟩; (first | have H' := HS.of_below hb | have H' := HS.drew.of_below hb | have H' := (HS.box0 [_] _).of_below hb | have H' := ((HS.box0 [_] _).box0 [_] _).of_below hb | have H' := (HS.alloc _).of_below hb | have H' := ((HS.alloc _).alloc _).of_below hb); clear HS; have HS := H'; clear H'; have F := HS.facts; simp only [Own.Facts, Own.Cells, World.size_alloc, List.cons_append, List.nil_append, List.eraseIdx_cons_succ, List.eraseIdx_cons_zero, List.eraseIdx_zero, List.tail_cons, Nat.zero_add] at F
  have HR3 := Lib.hid hr3
  clear hr3 hw
  by_cases hr : r < 0
  · go_wp2
    go_ret
    exact ⟨⟨-1, rfl, by omega, by omega, by omega⟩, HS.below⟩
  · go_wp2_with fail
    refine (szContext _ _ _ _ (by repeat (first | exact HS.old h2 | exact HS.rd 0 rfl | exact HS.rd 1 rfl | exact HS.rd 2 rfl | exact HS.rd 3 rfl | exact HS.rd 4 rfl | exact HS.rd 5 rfl | exact HS.drew.old h2 | exact HS.drew.rd 0 rfl | exact HS.drew.rd 1 rfl | exact HS.drew.rd 2 rfl | exact HS.drew.rd 3 rfl | exact HS.drew.rd 4 rfl | exact HS.drew.rd 5 rfl | refine Rd.alloc ?_ _))).mono ?_; rintro e w2 ⟨rfl, hb⟩; (first | have H' := HS.of_below hb | have H' := HS.drew.of_below hb | have H' := (HS.box0 [_] _).of_below hb | have H' := ((HS.box0 [_] _).box0 [_] _).of_below hb | have H' := (HS.alloc _).of_below hb | have H' := ((HS.alloc _).alloc _).of_below hb); clear HS; have HS := H'; clear H'; have F := HS.facts; simp only [Own.Facts, Own.Cells, World.size_alloc, List.cons_append, List.nil_append, List.eraseIdx_cons_succ, List.eraseIdx_cons_zero, List.eraseIdx_zero, List.tail_cons, Nat.zero_add] at F
    by_cases hle : r < x.c.length
    · have e : szL x.c.length r = -1 := by unfold szL wrap64; rw [if_pos (by omega)]
      rw [e]
      go_wp2
      go_ret
      exact ⟨⟨-1, rfl, by omega, by omega, by omega⟩, HS.below⟩
    · have e : szL x.c.length r = r - x.c.length := by unfold szL wrap64; rw [if_neg (by omega)]; omega
      rw [e]
      go_wp2
      go_ret
      exact ⟨⟨r - x.c.length, by go_num, by omega, by omega, fun _ => ⟨(HR3.out (by omega)).1, (HR3.out (by omega)).2, by omega⟩⟩, HS.below⟩
end Go.Proofs.YtkafflbakgkpcaaGreat
