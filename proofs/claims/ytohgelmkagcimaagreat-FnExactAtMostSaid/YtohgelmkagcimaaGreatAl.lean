/- AtMost: both sides. -/
import Derived.Test.YtohgelmkagcimaaGreatT3
import Derived.Test.YtohgelmkagcimaaGreatV6
namespace Go.Proofs.YtohgelmkagcimaaGreat
set_option linter.unusedSimpArgs false
set_option linter.unusedVariables false
open Go.RowKit Go.Ow
attribute [local irreducible] wpQuiet
set_option maxRecDepth 100000
def amB (a b : St) : Bool := jOk a b && decide (jR a b = b)
theorem take_eq {α : Type} {xs ys : List α} {k : Nat} (hk : k < xs.length) (hl : xs.length = ys.length) (h : xs.take k = ys.take k) (he : xs[k] = ys[k]'(by omega)) : xs.take (k + 1) = ys.take (k + 1) := by
  rw [List.take_succ_eq_append_getElem hk, List.take_succ_eq_append_getElem (by omega), h, he]
theorem ne_at {α : Type} {xs ys : List α} {k : Nat} (hk : k < xs.length) (hl : xs.length = ys.length) (he : xs[k] ≠ ys[k]'(by omega)) : xs ≠ ys := by
  intro h; subst h; exact he rfl
theorem equalLeaves (xs ys : List Lf) (v u : Value) (w : World) (hv : Rd w v xs) (hu : Rd w u ys) (hx : ∀ z ∈ xs, dotIn z) (hy : ∀ z ∈ ys, dotIn z) :
    Calls Tryz.prog 102 #[v, u, .func (.func 69) #[] #[]] w fun e w' => e = .returned (.bool (decide (xs = ys))) ∧ Below w.heap.size w w' := by
  obtain ⟨A, c, rfl, _, _⟩ := hv.val
  obtain ⟨B, d, rfl, _, _⟩ := hu.val
  have HX := Lib.hid hx
  have HY := Lib.hid hy
  clear hx hy
  have HS := Own.start w
  by_cases hl : xs.length = ys.length
  · have hb2 : ((xs.length : Int) != (ys.length : Int)) = false := by simp; omega
    have HL := Lib.hid hl
    clear hl
    go_enter Tryz.func102, Tryz.ntmps102
    go_wp2
    go_loopw [17] (fun i wr => ∃ k : Nat, k ≤ xs.length ∧ i = .int .i64 k ∧ Own w [] wr ∧ Hid (xs.take k = ys.take k)) (fun i _ => xs.length - (intOf i).toNat)
    case atStart => exact ⟨0, by omega, rfl, HS, Lib.hid (by simp)⟩
    case round =>
      obtain ⟨k, hk, rfl, HS', HE⟩ := hrel
      clear HS
      by_cases hlt : k < xs.length
      · have hlt2 : k < ys.length := by rw [← HL.out]; exact hlt
        obtain ⟨b1, o1, rfl⟩ := hv.fix (by omega)
        obtain ⟨b2, o2, rfl⟩ := hu.fix (by omega)
        obtain ⟨vx, hcx⟩ := Lf.rd hv k hlt
        obtain ⟨vy, hcy⟩ := Lf.rd hu k hlt2
        have HT := Lib.hid (take_eq hlt HL.out HE.out)
        have HN := Lib.hid (ne_at hlt HL.out)
        have hdx := HX.out xs[k] (List.getElem_mem hlt)
        have hdy := HY.out ys[k] (List.getElem_mem hlt2)
        obtain ⟨x, hx⟩ : ∃ x, xs[k] = x := ⟨_, rfl⟩
        obtain ⟨y, hy⟩ : ∃ y, ys[k]'hlt2 = y := ⟨_, rfl⟩
        simp only [hx, hy] at hcx hcy HT HN hdx hdy
        clear hx hy
        have HCX := Lib.hid hcx
        have HCY := Lib.hid hcy
        clear hcx hcy
        obtain ⟨hpx, f0, f1, f2, f3, f4⟩ := HCX.out wr HS'.below
        obtain ⟨hpy, g0, g1, g2, g3, g4⟩ := HCY.out wr HS'.below
        obtain ⟨Ax, cx, rfl, _, _⟩ := hpx.val
        obtain ⟨Ay, cy, rfl, _, _⟩ := hpy.val
        obtain ⟨nb, hnb⟩ : ∃ n, wr.heap.size = n := ⟨_, rfl⟩
        have HB1 := HS'.box (b := nb) [.slice Ax x.p.length cx, .bool x.fl, .int .i64 x.dr, .int .i64 x.ds, .string x.v] 103 hnb
        have HB := HB1.box (b := nb + 1) [.slice Ay y.p.length cy, .bool y.fl, .int .i64 y.dr, .int .i64 y.ds, .string y.v] 103 (by simp only [World.size_alloc, hnb])
        obtain ⟨-, k0, k1, k2, k3, k4⟩ := HCY.out _ HB1.below
        have HS := HB
        have F := HS.facts; simp only [Own.Facts, Own.Cells, World.size_alloc, List.cons_append, List.nil_append, List.eraseIdx_cons_succ, List.eraseIdx_cons_zero, List.eraseIdx_zero, List.tail_cons, Nat.zero_add] at F
        have hdxs := Lib.hid hdx
        have hdys := Lib.hid hdy
        clear hdx hdy HB1
        cases he : decide (x = y)
        · have HQ := Lib.hid (show decide (xs = ys) = false by rw [decide_eq_false]; exact HN.out (by simpa using he))
          go_wp2_with fail
          refine (sameLeaf x y _ _ _ (HS.old (hpx.bel (Below.refl _ _) |> fun _ => (HCX.out w (Below.refl _ _)).1)) (HS.old (HCY.out w (Below.refl _ _)).1) hdxs.out hdys.out).mono ?_; rintro e w3 ⟨rfl, hb⟩; (first | have H' := HS.of_below hb | have H' := HS.drew.of_below hb | have H' := (HS.box0 [_] _).of_below hb | have H' := ((HS.box0 [_] _).box0 [_] _).of_below hb | have H' := (HS.alloc _).of_below hb | have H' := ((HS.alloc _).alloc _).of_below hb); clear HS; have HS := H'; clear H'; have F := HS.facts; simp only [Own.Facts, Own.Cells, World.size_alloc, List.cons_append, List.nil_append, List.eraseIdx_cons_succ, List.eraseIdx_cons_zero, List.eraseIdx_zero, List.tail_cons, Nat.zero_add] at F
          rw [he]
          clear he
          go_wp2
          go_ret
          exact ⟨by rw [HQ.out]; rfl, HS.below⟩
        · have HQ := Lib.hid (HT.out (by simpa using he))
          go_wp2_with fail
          refine (sameLeaf x y _ _ _ (HS.old (hpx.bel (Below.refl _ _) |> fun _ => (HCX.out w (Below.refl _ _)).1)) (HS.old (HCY.out w (Below.refl _ _)).1) hdxs.out hdys.out).mono ?_; rintro e w3 ⟨rfl, hb⟩; (first | have H' := HS.of_below hb | have H' := HS.drew.of_below hb | have H' := (HS.box0 [_] _).of_below hb | have H' := ((HS.box0 [_] _).box0 [_] _).of_below hb | have H' := (HS.alloc _).of_below hb | have H' := ((HS.alloc _).alloc _).of_below hb); clear HS; have HS := H'; clear H'; have F := HS.facts; simp only [Own.Facts, Own.Cells, World.size_alloc, List.cons_append, List.nil_append, List.eraseIdx_cons_succ, List.eraseIdx_cons_zero, List.eraseIdx_zero, List.tail_cons, Nat.zero_add] at F
          rw [he]
          clear he
          go_wp2
          go_roundw
          case rel => exact ⟨k + 1, by omega, by go_num, HS.drop.drop, HQ⟩
          case measure => simp [intOf]; omega
      · obtain rfl : k = xs.length := by omega
        have HQ := Lib.hid (show decide (xs = ys) = true by
          have := HE.out
          rw [List.take_length, HL.out, List.take_length] at this
          simpa using this)
        go_wp2
        go_ret
        exact ⟨by rw [HQ.out]; rfl, HS'.below⟩
  · have hb2 : ((xs.length : Int) != (ys.length : Int)) = true := by simp; omega
    have HQ := Lib.hid (show decide (xs = ys) = false by rw [decide_eq_false]; intro h; exact hl (by rw [h]))
    clear hl
    go_enter Tryz.func102, Tryz.ntmps102
    go_wp2
    go_ret
    exact ⟨by rw [HQ.out]; rfl, HS.below⟩
theorem st_ext {x y : St} : decide (x = y) = (decide (x.l = y.l) && decide (x.c = y.c)) := by
  obtain ⟨l, c⟩ := x
  obtain ⟨l', c'⟩ := y
  rw [Bool.eq_iff_iff]; simp
theorem sameState (x y : St) (vl vc ul uc : Value) (w : World) (h1 : Rd w vl x.l) (h2 : Rd w vc x.c) (h3 : Rd w ul y.l) (h4 : Rd w uc y.c) (hx : ∀ z ∈ x.l, dotIn z) (hy : ∀ z ∈ y.l, dotIn z) :
    Calls Tryz.prog 60 #[.agg #[vl, vc], .agg #[ul, uc]] w fun e w' => e = .returned (.bool (decide (x = y))) ∧ Below w.heap.size w w' := by
  obtain ⟨A1, c1, rfl, _, _⟩ := h1.val
  obtain ⟨A2, c2, rfl, _, _⟩ := h2.val
  obtain ⟨B1, d1, rfl, _, _⟩ := h3.val
  obtain ⟨B2, d2, rfl, _, _⟩ := h4.val
  have HX := Lib.hid hx
  have HY := Lib.hid hy
  clear hx hy
  have HS := ((Own.start w).box [.slice A1 x.l.length c1, .slice A2 x.c.length c2] 36).box (b := w.heap.size + 1) [.slice B1 y.l.length d1, .slice B2 y.c.length d2] 36
  have HE := Lib.hid (st_ext (x := x) (y := y))
  go_enter Tryz.func60, Tryz.ntmps60
  go_wp2_with fail
  refine (equalLeaves x.l y.l _ _ _ (HS.old h1) (HS.old h3) HX.out HY.out).mono ?_; rintro e w1 ⟨rfl, hb⟩; (first | have H' := HS.of_below hb | have H' := HS.drew.of_below hb | have H' := (HS.box0 [_] _).of_below hb | have H' := ((HS.box0 [_] _).box0 [_] _).of_below hb | have H' := (HS.alloc _).of_below hb | have H' := ((HS.alloc _).alloc _).of_below hb); clear HS; have HS := H'; clear H'; have F := HS.facts; simp only [Own.Facts, Own.Cells, World.size_alloc, List.cons_append, List.nil_append, List.eraseIdx_cons_succ, List.eraseIdx_cons_zero, List.eraseIdx_zero, List.tail_cons, Nat.zero_add] at F
  cases he : decide (x.l = y.l)
  · have HQ := Lib.hid (show decide (x = y) = false by rw [HE.out, he]; rfl)
    clear he
    go_wp2
    go_ret
    exact ⟨by rw [HQ.out]; rfl, HS.below⟩
  · have HQ := Lib.hid (show decide (x = y) = decide (x.c = y.c) by rw [HE.out, he]; rfl)
    clear he
    go_wp2_with fail
    refine (slicesEqualR x.c y.c _ _ _ (HS.old h2) (HS.old h4)).mono ?_; rintro e w2 ⟨rfl, hb⟩; (first | have H' := HS.of_below hb | have H' := HS.drew.of_below hb | have H' := (HS.box0 [_] _).of_below hb | have H' := ((HS.box0 [_] _).box0 [_] _).of_below hb | have H' := (HS.alloc _).of_below hb | have H' := ((HS.alloc _).alloc _).of_below hb); clear HS; have HS := H'; clear H'; have F := HS.facts; simp only [Own.Facts, Own.Cells, World.size_alloc, List.cons_append, List.nil_append, List.eraseIdx_cons_succ, List.eraseIdx_cons_zero, List.eraseIdx_zero, List.tail_cons, Nat.zero_add] at F
    cases he : decide (x.c = y.c)
    all_goals
      have HQ2 := Lib.hid (HQ.out.trans he)
      clear he
      go_wp2
      go_ret
      exact ⟨by rw [HQ2.out]; rfl, HS.below⟩
theorem rn_ext {x y : Rn} : x = y ↔ x.r = y.r ∧ x.f = y.f ∧ x.t = y.t := by
  obtain ⟨a, b, c⟩ := x
  obtain ⟨a', b', c'⟩ := y
  simp
set_option maxHeartbeats 4000000 in
theorem l3EqualG (x y : St) (vl vc ul uc : Value) (w : World) (h1 : Rd w vl x.l) (h2 : Rd w vc x.c) (h3 : Rd w ul y.l) (h4 : Rd w uc y.c) :
    Calls Tryz.prog 46 #[.agg #[vl, vc], .agg #[ul, uc]] w fun e w' => e = .returned (.bool (decide (x = y))) ∧ Below w.heap.size w w' := by
  obtain ⟨A1, c1, rfl, _, _⟩ := h1.val
  obtain ⟨A2, c2, rfl, _, _⟩ := h2.val
  obtain ⟨B1, d1, rfl, _, _⟩ := h3.val
  obtain ⟨B2, d2, rfl, _, _⟩ := h4.val
  have HS := ((Own.start w).box [.slice A1 x.l.length c1, .slice A2 x.c.length c2] 36).box (b := w.heap.size + 1) [.slice B1 y.l.length d1, .slice B2 y.c.length d2] 36
  have HE := Lib.hid (st_ext (x := x) (y := y))
  obtain ⟨sz, hsz⟩ : ∃ n, w.heap.size = n := ⟨_, rfl⟩
  by_cases hl : x.l.length = y.l.length
  · have hb1 : ((x.l.length : Int) != (y.l.length : Int)) = false := by simp; omega
    have HL := Lib.hid hl
    clear hl
    by_cases hm : x.c.length = y.c.length
    · have hb2 : ((x.c.length : Int) != (y.c.length : Int)) = false := by simp; omega
      have HM := Lib.hid hm
      clear hm
      go_enter Tryz.func46, Tryz.ntmps46
      rw [hsz] at HS
      have F := HS.facts; simp only [Own.Facts, Own.Cells, World.size_alloc, List.cons_append, List.nil_append, List.eraseIdx_cons_succ, List.eraseIdx_cons_zero, List.eraseIdx_zero, List.tail_cons, Nat.zero_add] at F
      go_wp2
      clear hsz F
      go_loopw [5] (fun i wr => ∃ k : Nat, k ≤ x.l.length ∧ i = .int .i64 k ∧ Own w [.box (sz + 1) 36 [.slice B1 y.l.length d1, .slice B2 y.c.length d2], .box sz 36 [.slice A1 x.l.length c1, .slice A2 x.c.length c2]] wr ∧ Hid (x.l.take k = y.l.take k)) (fun i _ => x.l.length - (intOf i).toNat)
      case atStart => exact ⟨0, by omega, rfl, HS, Lib.hid (by simp)⟩
      case round =>
        obtain ⟨k, hk, rfl, HS', HK⟩ := hrel
        clear HS
        have HS := HS'
        clear HS'
        have F := HS.facts; simp only [Own.Facts, Own.Cells, World.size_alloc, List.cons_append, List.nil_append, List.eraseIdx_cons_succ, List.eraseIdx_cons_zero, List.eraseIdx_zero, List.tail_cons, Nat.zero_add] at F
        by_cases hlt : k < x.l.length
        · have hlt2 : k < y.l.length := by rw [← HL.out]; exact hlt
          obtain ⟨b1, o1, rfl⟩ := h1.fix (by omega)
          obtain ⟨b2, o2, rfl⟩ := h3.fix (by omega)
          obtain ⟨vx, hcx⟩ := Lf.rd h1 k hlt
          obtain ⟨vy, hcy⟩ := Lf.rd h3 k hlt2
          have HT := Lib.hid (take_eq hlt HL.out HK.out)
          have HN := Lib.hid (ne_at hlt HL.out)
          obtain ⟨z, hz⟩ : ∃ z, x.l[k] = z := ⟨_, rfl⟩
          obtain ⟨q, hq⟩ : ∃ q, y.l[k]'hlt2 = q := ⟨_, rfl⟩
          simp only [hz, hq] at hcx hcy HT HN
          clear hz hq
          have HCX := Lib.hid hcx
          have HCY := Lib.hid hcy
          clear hcx hcy
          have hcall : ∀ p : Ext wr, _ := fun p => l3Same z q vx vy p.to (HCX.out p.to (HS.of_below p.h).below).1 (HCY.out p.to (HS.of_below p.h).below).1
          have hG : ∀ p : Ext wr, _ := fun p => (HCX.out p.to (HS.of_below p.h).below).2
          have hG2 : ∀ p : Ext wr, _ := fun p => (HCY.out p.to (HS.of_below p.h).below).2
          have hL : ∀ p : Ext wr, p.to.cell? ⟨sz, 0, none⟩ = some (.slice (some ⟨b1, o1, none⟩) x.l.length c1) ∧ p.to.cell? ⟨sz + 1, 0, none⟩ = some (.slice (some ⟨b2, o2, none⟩) y.l.length d1) := fun p => by
            have F := (HS.of_below p.h).facts
            simp only [Own.Facts, Own.Cells, Nat.zero_add] at F
            exact ⟨F.2.1.1.1, F.1.1.1⟩
          cases he : decide (z = q)
          · have HQ := Lib.hid (show decide (x = y) = false by
              rw [HE.out, show decide (x.l = y.l) = false by rw [decide_eq_false]; exact HN.out (by simpa using he)]; rfl)
            simp only [he] at hcall
            clear he
            go_wp2
            (refine wp_region_ext (by kernel_rfl) (by kernel_rfl) ?_; (repeat (quiet_step (first | exact q_call (hcall _)))); refine wpQuiet_nil ?_; rintro _ ⟨⟨w1, hw1⟩, rfl⟩)
            have H2 := HS.of_below hw1
            clear hcall hG hG2 hL F
            go_wp2
            go_ret
            exact ⟨by rw [HQ.out]; rfl, H2.below⟩
          · have HQ := Lib.hid (HT.out (by simpa using he))
            simp only [he] at hcall
            clear he
            go_wp2
            (refine wp_region_ext (by kernel_rfl) (by kernel_rfl) ?_; (repeat (quiet_step (first | exact q_call (hcall _)))); refine wpQuiet_nil ?_; rintro _ ⟨⟨w1, hw1⟩, rfl⟩)
            have H2 := HS.of_below hw1
            clear hcall hG hG2 hL F
            go_wp2
            go_roundw
            case rel => exact ⟨k + 1, by omega, by go_num, H2, HQ⟩
            case measure => simp [intOf]; omega
        · obtain rfl : k = x.l.length := by omega
          have HQ := Lib.hid (show decide (x = y) = decide (x.c = y.c) by
            have := HK.out
            rw [List.take_length, HL.out, List.take_length] at this
            rw [HE.out, this]; simp)
          go_wp2
          clear F
          go_loopw [6] (fun i wr => ∃ k : Nat, k ≤ x.c.length ∧ i = .int .i64 k ∧ Own w [.box (sz + 1) 36 [.slice B1 y.l.length d1, .slice B2 y.c.length d2], .box sz 36 [.slice A1 x.l.length c1, .slice A2 x.c.length c2]] wr ∧ Hid (x.c.take k = y.c.take k)) (fun i _ => x.c.length - (intOf i).toNat)
          case atStart => exact ⟨0, by omega, rfl, HS, Lib.hid (by simp)⟩
          case round =>
            obtain ⟨k, hk, rfl, HS', HK⟩ := hrel
            clear HS
            have HS := HS'
            clear HS'
            have F := HS.facts; simp only [Own.Facts, Own.Cells, World.size_alloc, List.cons_append, List.nil_append, List.eraseIdx_cons_succ, List.eraseIdx_cons_zero, List.eraseIdx_zero, List.tail_cons, Nat.zero_add] at F
            by_cases hlt : k < x.c.length
            · have hlt2 : k < y.c.length := by rw [← HM.out]; exact hlt
              obtain ⟨b1, o1, rfl⟩ := h2.fix (by omega)
              obtain ⟨b2, o2, rfl⟩ := h4.fix (by omega)
              have hG : ∀ p : Ext wr, _ := fun p => Rn.rd ((HS.of_below p.h).old h2) k hlt
              have hG2 : ∀ p : Ext wr, _ := fun p => Rn.rd ((HS.of_below p.h).old h4) k hlt2
              have HT := Lib.hid (take_eq hlt HM.out HK.out)
              have HN := Lib.hid (ne_at hlt HM.out)
              obtain ⟨z, hz⟩ : ∃ z, x.c[k] = z := ⟨_, rfl⟩
              obtain ⟨q, hq⟩ : ∃ q, y.c[k]'hlt2 = q := ⟨_, rfl⟩
              simp only [hz, hq] at hG hG2 HT HN
              clear hz hq
              have hL : ∀ p : Ext wr, p.to.cell? ⟨sz, 1, none⟩ = some (.slice (some ⟨b1, o1, none⟩) x.c.length c2) ∧ p.to.cell? ⟨sz + 1, 1, none⟩ = some (.slice (some ⟨b2, o2, none⟩) y.c.length d2) := fun p => by
                have F := (HS.of_below p.h).facts
                simp only [Own.Facts, Own.Cells, Nat.zero_add] at F
                exact ⟨F.2.1.1.2.1, F.1.1.2.1⟩
              have HZ := Lib.hid (rn_ext (x := z) (y := q))
              by_cases e1 : z.r = q.r
              · have e1b : (z.r == q.r) = true := by simp [e1]
                by_cases e2 : z.f = q.f
                · have e2b : (z.f == q.f) = true := by simp [e2]
                  by_cases e3 : z.t = q.t
                  · have e3b : (z.t == q.t) = true := by simp [e3]
                    have HQ2 := Lib.hid (HT.out (HZ.out.2 ⟨e1, e2, e3⟩))
                    clear e1 e2 e3
                    go_wp2
                    (refine wp_region_ext (by kernel_rfl) (by kernel_rfl) ?_; (repeat (quiet_step (first | fail))); refine wpQuiet_nil ?_; rintro _ ⟨⟨w1, hw1⟩, rfl⟩)
                    have H2 := HS.of_below hw1
                    clear hG hG2 hL F
                    go_wp2
                    go_roundw
                    case rel => exact ⟨k + 1, by omega, by go_num, H2, HQ2⟩
                    case measure => simp [intOf]; omega
                  · have e3b : (z.t == q.t) = false := by simpa using e3
                    have HQ2 := Lib.hid (show decide (x = y) = false by rw [HQ.out, decide_eq_false]; exact HN.out (fun h => e3 (HZ.out.1 h).2.2))
                    clear e1 e2 e3
                    go_wp2
                    (refine wp_region_ext (by kernel_rfl) (by kernel_rfl) ?_; (repeat (quiet_step (first | fail))); refine wpQuiet_nil ?_; rintro _ ⟨⟨w1, hw1⟩, rfl⟩)
                    have H2 := HS.of_below hw1
                    clear hG hG2 hL F
                    go_wp2
                    go_ret
                    exact ⟨by rw [HQ2.out]; rfl, H2.below⟩
                · have e2b : (z.f == q.f) = false := by simpa using e2
                  have HQ2 := Lib.hid (show decide (x = y) = false by rw [HQ.out, decide_eq_false]; exact HN.out (fun h => e2 (HZ.out.1 h).2.1))
                  clear e1 e2
                  go_wp2
                  (refine wp_region_ext (by kernel_rfl) (by kernel_rfl) ?_; (repeat (quiet_step (first | fail))); refine wpQuiet_nil ?_; rintro _ ⟨⟨w1, hw1⟩, rfl⟩)
                  have H2 := HS.of_below hw1
                  clear hG hG2 hL F
                  go_wp2
                  go_ret
                  exact ⟨by rw [HQ2.out]; rfl, H2.below⟩
              · have e1b : (z.r == q.r) = false := by simpa using e1
                have HQ2 := Lib.hid (show decide (x = y) = false by rw [HQ.out, decide_eq_false]; exact HN.out (fun h => e1 (HZ.out.1 h).1))
                clear e1
                go_wp2
                (refine wp_region_ext (by kernel_rfl) (by kernel_rfl) ?_; (repeat (quiet_step (first | fail))); refine wpQuiet_nil ?_; rintro _ ⟨⟨w1, hw1⟩, rfl⟩)
                have H2 := HS.of_below hw1
                clear hG hG2 hL F
                go_wp2
                go_ret
                exact ⟨by rw [HQ2.out]; rfl, H2.below⟩
            · obtain rfl : k = x.c.length := by omega
              have HQ2 := Lib.hid (show decide (x = y) = true by
                have := HK.out
                rw [List.take_length, HM.out, List.take_length] at this
                rw [HQ.out, this]; simp)
              go_wp2
              go_ret
              exact ⟨by rw [HQ2.out]; rfl, HS.below⟩
    · have hb2 : ((x.c.length : Int) != (y.c.length : Int)) = true := by simp; omega
      have HQ := Lib.hid (show decide (x = y) = false by rw [HE.out, show decide (x.c = y.c) = false by rw [decide_eq_false]; intro h; exact hm (by rw [h])]; simp)
      clear hm hsz
      go_enter Tryz.func46, Tryz.ntmps46
      go_wp2
      go_ret
      exact ⟨by rw [HQ.out]; rfl, HS.below⟩
  · have hb1 : ((x.l.length : Int) != (y.l.length : Int)) = true := by simp; omega
    have HQ := Lib.hid (show decide (x = y) = false by rw [HE.out, show decide (x.l = y.l) = false by rw [decide_eq_false]; intro h; exact hl (by rw [h])]; rfl)
    clear hl hsz
    go_enter Tryz.func46, Tryz.ntmps46
    go_wp2
    go_ret
    exact ⟨by rw [HQ.out]; rfl, HS.below⟩
theorem jR_dots {a b : St} (h : jOk a b = true) : ∀ z ∈ (jR a b).l, dotIn z := by
  have h' := h
  unfold jOk at h
  simp only [Bool.and_eq_true] at h
  intro z hz
  have hj : (jR a b).l = joinL a b := by unfold jR; rw [if_pos h']
  rw [hj] at hz
  have hk : ∀ (s : St), stOk s = true → z ∈ s.l → dotIn z := fun s hs hm => okLeaf_dot (stOk_ctx' hs) (stOk_leaf hs z hm)
  rcases List.mem_append.1 ((joinL_ok h.1 h.2.1).2.mem_iff.1 hz) with hm | hm
  · exact hk a h.1 (List.mem_filter.1 hm).1
  · exact hk b h.2.1 (List.mem_filter.1 hm).1
theorem jOk_dots {a b : St} (h : jOk a b = true) : ∀ z ∈ b.l, dotIn z := by
  unfold jOk at h
  simp only [Bool.and_eq_true] at h
  exact fun z hz => okLeaf_dot (stOk_ctx' h.2.1) (stOk_leaf h.2.1 z hz)
set_option maxHeartbeats 2000000 in
theorem implAtMost (a b : St) (va vac vb vbc : Value) (w : World) (h1 : Rd w va a.l) (h2 : Rd w vac a.c) (h3 : Rd w vb b.l) (h4 : Rd w vbc b.c) (hwa : ∀ y ∈ a.l, LfW y) (hwb : ∀ y ∈ b.l, LfW y) (hca : a.c.length ≤ 1048576) (hcb : b.c.length ≤ 1048576) :
    Calls Tryz.prog 23 #[.agg #[va, vac], .agg #[vb, vbc]] w fun e w' => e = .returned (.bool (amB a b)) ∧ Below w.heap.size w w' := by
  obtain ⟨A1, c1, rfl, _, _⟩ := h1.val
  obtain ⟨A2, c2, rfl, _, _⟩ := h2.val
  obtain ⟨B1, d1, rfl, _, _⟩ := h3.val
  obtain ⟨B2, d2, rfl, _, _⟩ := h4.val
  have HWA := Lib.hid hwa
  have HWB := Lib.hid hwb
  clear hwa hwb
  have HS := ((Own.start w).box [.slice A1 a.l.length c1, .slice A2 a.c.length c2] 36).box (b := w.heap.size + 1) [.slice B1 b.l.length d1, .slice B2 b.c.length d2] 36
  have hI := fun w0 (HS : Own w [.box (w.heap.size + 1) 36 [.slice B1 b.l.length d1, .slice B2 b.c.length d2], .box w.heap.size 36 [.slice A1 a.l.length c1, .slice A2 a.c.length c2]] w0) => implJoin a b _ _ _ _ w0 (HS.old h1) (HS.old h2) (HS.old h3) (HS.old h4) HWA.out HWB.out hca hcb
  obtain ⟨q, hq⟩ : ∃ q, jR a b = q := ⟨_, rfl⟩
  obtain ⟨ok, hok⟩ : ∃ ok, jOk a b = ok := ⟨_, rfl⟩
  have HJ := Lib.hid (show amB a b = (ok && decide (q = b)) by unfold amB; rw [hq, hok])
  have HD := Lib.hid (show ok = true → (∀ z ∈ q.l, dotIn z) ∧ ∀ z ∈ b.l, dotIn z from fun h => ⟨by rw [← hq]; exact jR_dots (hok.trans h), jOk_dots (hok.trans h)⟩)
  simp only [hq, hok] at hI
  have HI := Lib.hid hI
  clear hI hq hok
  go_enter Tryz.func23, Tryz.ntmps23
  go_wp2_with fail
  refine (HI.out _ HS).mono ?_
  rintro e w1 ⟨G1, y1, G2, y2, rfl, hs⟩
  replace HS := (HS.call2 hs).box (b := w1.heap.size) [.slice G1 q.l.length y1, .slice G2 q.c.length y2] 36
  clear hs HI
  have F := HS.facts; simp only [Own.Facts, Own.Cells, World.size_alloc, List.cons_append, List.nil_append, List.eraseIdx_cons_succ, List.eraseIdx_cons_zero, List.eraseIdx_zero, List.tail_cons, Nat.zero_add] at F
  cases ok
  · have HQ := Lib.hid (show amB a b = false by rw [HJ.out]; rfl)
    go_wp2
    go_ret
    exact ⟨by rw [HQ.out]; rfl, HS.below⟩
  · obtain ⟨hd1, hd2⟩ := HD.out rfl
    have HD1 := Lib.hid hd1
    have HD2 := Lib.hid hd2
    clear hd1 hd2
    go_wp2_with fail
    refine (sameState q b _ _ _ _ _ (HS.rd 1 rfl) (HS.rd 2 rfl) (HS.old h3) (HS.old h4) HD1.out HD2.out).mono ?_; rintro e w2 ⟨rfl, hb⟩; (first | have H' := HS.of_below hb | have H' := HS.drew.of_below hb | have H' := (HS.box0 [_] _).of_below hb | have H' := ((HS.box0 [_] _).box0 [_] _).of_below hb | have H' := (HS.alloc _).of_below hb | have H' := ((HS.alloc _).alloc _).of_below hb); clear HS; have HS := H'; clear H'; have F := HS.facts; simp only [Own.Facts, Own.Cells, World.size_alloc, List.cons_append, List.nil_append, List.eraseIdx_cons_succ, List.eraseIdx_cons_zero, List.eraseIdx_zero, List.tail_cons, Nat.zero_add] at F
    cases he : decide (q = b)
    all_goals
      have HQ := Lib.hid (show amB a b = decide (q = b) by rw [HJ.out]; rfl)
      have HQ2 := Lib.hid (HQ.out.trans he)
      clear he
      go_wp2
      go_ret
      exact ⟨by rw [HQ2.out]; rfl, HS.below⟩
set_option maxHeartbeats 2000000 in
theorem specAtMost (a b : St) (va vac vb vbc : Value) (w : World) (h1 : Rd w va a.l) (h2 : Rd w vac a.c) (h3 : Rd w vb b.l) (h4 : Rd w vbc b.c) (hwa : ∀ y ∈ a.l, LfW y) (hwb : ∀ y ∈ b.l, LfW y) :
    Calls Tryz.prog 21 #[.agg #[va, vac], .agg #[vb, vbc]] w fun e w' => e = .returned (.bool (amB a b)) ∧ Below w.heap.size w w' := by
  obtain ⟨A1, c1, rfl, _, _⟩ := h1.val
  obtain ⟨A2, c2, rfl, _, _⟩ := h2.val
  obtain ⟨B1, d1, rfl, _, _⟩ := h3.val
  obtain ⟨B2, d2, rfl, _, _⟩ := h4.val
  have HWA := Lib.hid hwa
  have HWB := Lib.hid hwb
  clear hwa hwb
  have HS := ((Own.start w).box [.slice A1 a.l.length c1, .slice A2 a.c.length c2] 36).box (b := w.heap.size + 1) [.slice B1 b.l.length d1, .slice B2 b.c.length d2] 36
  have hI := fun w0 (HS : Own w [.box (w.heap.size + 1) 36 [.slice B1 b.l.length d1, .slice B2 b.c.length d2], .box w.heap.size 36 [.slice A1 a.l.length c1, .slice A2 a.c.length c2]] w0) => specJoin a b _ _ _ _ w0 (HS.old h1) (HS.old h2) (HS.old h3) (HS.old h4) HWA.out HWB.out
  obtain ⟨q, hq⟩ : ∃ q, jR a b = q := ⟨_, rfl⟩
  obtain ⟨ok, hok⟩ : ∃ ok, jOk a b = ok := ⟨_, rfl⟩
  have HJ := Lib.hid (show amB a b = (ok && decide (q = b)) by unfold amB; rw [hq, hok])
  simp only [hq, hok] at hI
  have HI := Lib.hid hI
  clear hI hq hok
  go_enter Tryz.func21, Tryz.ntmps21
  go_wp2_with fail
  refine (HI.out _ HS).mono ?_
  rintro e w1 ⟨G1, y1, G2, y2, rfl, hs⟩
  replace HS := (HS.call2 hs).box (b := w1.heap.size) [.slice G1 q.l.length y1, .slice G2 q.c.length y2] 36
  clear hs HI
  have F := HS.facts; simp only [Own.Facts, Own.Cells, World.size_alloc, List.cons_append, List.nil_append, List.eraseIdx_cons_succ, List.eraseIdx_cons_zero, List.eraseIdx_zero, List.tail_cons, Nat.zero_add] at F
  cases ok
  · have HQ := Lib.hid (show amB a b = false by rw [HJ.out]; rfl)
    go_wp2
    go_ret
    exact ⟨by rw [HQ.out]; rfl, HS.below⟩
  · go_wp2_with fail
    refine (l3EqualG q b _ _ _ _ _ (HS.rd 1 rfl) (HS.rd 2 rfl) (HS.old h3) (HS.old h4)).mono ?_; rintro e w2 ⟨rfl, hb⟩; (first | have H' := HS.of_below hb | have H' := HS.drew.of_below hb | have H' := (HS.box0 [_] _).of_below hb | have H' := ((HS.box0 [_] _).box0 [_] _).of_below hb | have H' := (HS.alloc _).of_below hb | have H' := ((HS.alloc _).alloc _).of_below hb); clear HS; have HS := H'; clear H'; have F := HS.facts; simp only [Own.Facts, Own.Cells, World.size_alloc, List.cons_append, List.nil_append, List.eraseIdx_cons_succ, List.eraseIdx_cons_zero, List.eraseIdx_zero, List.tail_cons, Nat.zero_add] at F
    cases he : decide (q = b)
    all_goals
      have HQ := Lib.hid (show amB a b = decide (q = b) by rw [HJ.out]; rfl)
      have HQ2 := Lib.hid (HQ.out.trans he)
      clear he
      go_wp2
      go_ret
      exact ⟨by rw [HQ2.out]; rfl, HS.below⟩
end Go.Proofs.YtohgelmkagcimaaGreat
