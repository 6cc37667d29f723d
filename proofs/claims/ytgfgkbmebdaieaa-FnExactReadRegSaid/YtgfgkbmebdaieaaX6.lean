/- ReadReg: both sides. -/
import Derived.Test.YtgfgkbmebdaieaaX5
import Derived.Test.YtgfgkbmebdaieaaQ2
namespace Go.Proofs.Ytgfgkbmebdaieaa
set_option linter.unusedSimpArgs false
set_option linter.unusedVariables false
open Go.RowKit Go.Ow
attribute [local irreducible] wpQuiet
set_option maxRecDepth 100000
def regAt (p : List ByteArray) (x : Lf) : Bool := !x.fl && decide (x.p = p)
def regs (l : List Lf) (p : List ByteArray) : List ByteArray := (l.filter (regAt p)).map (·.v)
def rrOk (s : St) (p : List ByteArray) : Bool := stOk s && pathOk p
def rr (s : St) (p : List ByteArray) : List ByteArray := if rrOk s p = true then onceF [] (regs s.l p) else []
theorem regs_no {l : List Lf} {p : List ByteArray} {k : Nat} {out T : List ByteArray} (h : k < l.length) (hT : out ++ regs (l.drop k) p = T) (hr : regAt p l[k] = false) : out ++ regs (l.drop (k + 1)) p = T := by
  rw [← hT, List.drop_eq_getElem_cons h, regs, regs, List.filter_cons_of_neg (by simp [hr])]
theorem regs_yes {l : List Lf} {p : List ByteArray} {k : Nat} {out T : List ByteArray} (h : k < l.length) (hT : out ++ regs (l.drop k) p = T) (hr : regAt p l[k] = true) : (out ++ [l[k].v]) ++ regs (l.drop (k + 1)) p = T := by
  rw [← hT, List.drop_eq_getElem_cons h, regs, regs, List.filter_cons_of_pos (by simp [hr])]; simp
set_option maxHeartbeats 4000000 in
theorem implReadReg (s : St) (p : List ByteArray) (vl vc vP : Value) (w : World) (h1 : Rd w vl s.l) (h2 : Rd w vc s.c) (hP : Rd w vP p) (hw : ∀ y ∈ s.l, LfW y) (hwp : ∀ x ∈ p, x.size ≤ 140737488351232) (hc : s.c.length ≤ 1048576) (hn : s.l.length ≤ 1048576) :
    Calls Try.prog 45 #[.agg #[vl, vc], vP] w fun e w' => ∃ v', e = .returned (.tuple #[v', .bool (rrOk s p)]) ∧ Own w [.own v' (rr s p)] w' := by
  obtain ⟨A, c, rfl, _, hl⟩ := h1.val
  obtain ⟨A2, d2, rfl, _, hl2⟩ := h2.val
  obtain ⟨A3, d3, rfl, _, hl3⟩ := hP.val
  have HW := Lib.hid hw
  have HWP := Lib.hid hwp
  clear hw hwp
  have HS := ((Own.start w).box [.slice A s.l.length c, .slice A2 s.c.length d2] 35)
  cases hs : stOk s
  · have HQ := Lib.hid (show rrOk s p = false ∧ rr s p = [] by simp [rr, rrOk, hs])
    go_enter Try.func45, Try.ntmps45
    go_wp2_with fail
    refine (implStateOk s _ _ _ (HS.old h1) (HS.old h2) HW.out hc).mono ?_; rintro e w1 ⟨rfl, hb⟩; (first | have H' := HS.of_below hb | have H' := HS.drew.of_below hb | have H' := (HS.box0 [_] _).of_below hb | have H' := ((HS.box0 [_] _).box0 [_] _).of_below hb | have H' := (HS.alloc _).of_below hb | have H' := ((HS.alloc _).alloc _).of_below hb); clear HS; have HS := H'; clear H'; have F := HS.facts; simp only [Own.Facts, Own.Cells, World.size_alloc, List.cons_append, List.nil_append, List.eraseIdx_cons_succ, List.eraseIdx_cons_zero, List.eraseIdx_zero, List.tail_cons, Nat.zero_add] at F
    rw [hs]
    clear hs
    go_wp2
    go_ret2
    exact ⟨_, by rw [HQ.out.1]; rfl, by rw [HQ.out.2]; exact HS.drop.nil⟩
  · cases hp : pathOk p
    · have HQ := Lib.hid (show rrOk s p = false ∧ rr s p = [] by simp [rr, rrOk, hp])
      go_enter Try.func45, Try.ntmps45
      go_wp2_with fail
      refine (implStateOk s _ _ _ (HS.old h1) (HS.old h2) HW.out hc).mono ?_; rintro e w1 ⟨rfl, hb⟩; (first | have H' := HS.of_below hb | have H' := HS.drew.of_below hb | have H' := (HS.box0 [_] _).of_below hb | have H' := ((HS.box0 [_] _).box0 [_] _).of_below hb | have H' := (HS.alloc _).of_below hb | have H' := ((HS.alloc _).alloc _).of_below hb); clear HS; have HS := H'; clear H'; have F := HS.facts; simp only [Own.Facts, Own.Cells, World.size_alloc, List.cons_append, List.nil_append, List.eraseIdx_cons_succ, List.eraseIdx_cons_zero, List.eraseIdx_zero, List.tail_cons, Nat.zero_add] at F
      rw [hs]
      clear hs
      go_wp2_with fail
      refine (implPathOk p _ _ (HS.old hP) HWP.out).mono ?_; rintro e w2 ⟨rfl, hb⟩; (first | have H' := HS.of_below hb | have H' := HS.drew.of_below hb | have H' := (HS.box0 [_] _).of_below hb | have H' := ((HS.box0 [_] _).box0 [_] _).of_below hb | have H' := (HS.alloc _).of_below hb | have H' := ((HS.alloc _).alloc _).of_below hb); clear HS; have HS := H'; clear H'; have F := HS.facts; simp only [Own.Facts, Own.Cells, World.size_alloc, List.cons_append, List.nil_append, List.eraseIdx_cons_succ, List.eraseIdx_cons_zero, List.eraseIdx_zero, List.tail_cons, Nat.zero_add] at F
      rw [hp]
      clear hp
      go_wp2
      go_ret2
      exact ⟨_, by rw [HQ.out.1]; rfl, by rw [HQ.out.2]; exact HS.drop.nil⟩
    · have HQ := Lib.hid (show rrOk s p = true ∧ rr s p = onceF [] (regs s.l p) by simp [rr, rrOk, hs, hp])
      go_enter Try.func45, Try.ntmps45
      go_wp2_with fail
      refine (implStateOk s _ _ _ (HS.old h1) (HS.old h2) HW.out hc).mono ?_; rintro e w1 ⟨rfl, hb⟩; (first | have H' := HS.of_below hb | have H' := HS.drew.of_below hb | have H' := (HS.box0 [_] _).of_below hb | have H' := ((HS.box0 [_] _).box0 [_] _).of_below hb | have H' := (HS.alloc _).of_below hb | have H' := ((HS.alloc _).alloc _).of_below hb); clear HS; have HS := H'; clear H'; have F := HS.facts; simp only [Own.Facts, Own.Cells, World.size_alloc, List.cons_append, List.nil_append, List.eraseIdx_cons_succ, List.eraseIdx_cons_zero, List.eraseIdx_zero, List.tail_cons, Nat.zero_add] at F
      rw [hs]
      clear hs
      go_wp2_with fail
      refine (implPathOk p _ _ (HS.old hP) HWP.out).mono ?_; rintro e w2 ⟨rfl, hb⟩; (first | have H' := HS.of_below hb | have H' := HS.drew.of_below hb | have H' := (HS.box0 [_] _).of_below hb | have H' := ((HS.box0 [_] _).box0 [_] _).of_below hb | have H' := (HS.alloc _).of_below hb | have H' := ((HS.alloc _).alloc _).of_below hb); clear HS; have HS := H'; clear H'; have F := HS.facts; simp only [Own.Facts, Own.Cells, World.size_alloc, List.cons_append, List.nil_append, List.eraseIdx_cons_succ, List.eraseIdx_cons_zero, List.eraseIdx_zero, List.tail_cons, Nat.zero_add] at F
      rw [hp]
      clear hp
      have HL := (HS.lit ([] : List ByteArray) #[] 9 rfl rfl (by simp)).pick 1 rfl
      replace HL := HL.drop
      go_wp2
      go_loopw [6, 21] (fun q i wr => ∃ (k : Nat) (out : List ByteArray) (g cap : Nat), k ≤ s.l.length ∧ i = .int .i64 k ∧ q = .slice (some ⟨g, 0, none⟩) out.length cap ∧ out.length ≤ k ∧ Hid (out ++ regs (s.l.drop k) p = regs s.l p) ∧ Own w [.own (.slice (some ⟨g, 0, none⟩) out.length cap) out] wr) (fun _ i _ => s.l.length - (intOf i).toNat)
      case atStart => exact ⟨0, [], _, 0, by omega, rfl, rfl, by simp, Lib.hid rfl, HL⟩
      case round =>
        obtain ⟨k, out, g, cap, hk, rfl, rfl, hol, HO, HS'⟩ := hrel
        clear HS HL F
        by_cases hlt : k < s.l.length
        · obtain ⟨b, o, rfl⟩ := h1.fix (by omega)
          obtain ⟨vp, hx⟩ := Lf.rd (HS'.old h1) k hlt
          obtain ⟨hpx, c0, c1, c2, c3, c4⟩ := hx wr (Below.refl _ _)
          have hpq := fun (cs : Array Value) (t : TypeId) => (hx (wr.alloc (.cells cs t)) ((Below.refl wr.heap.size wr).alloc (Nat.le_refl _) _)).1
          clear hx
          have HN := Lib.hid (regs_no hlt HO.out)
          have HY := Lib.hid (regs_yes hlt HO.out)
          obtain ⟨x, hxx⟩ : ∃ x, s.l[k] = x := ⟨_, rfl⟩
          simp only [hxx] at hpx hpq c1 c2 c3 c4 HN HY
          clear hxx HO
          obtain ⟨xp, xf, xr, xs, xv⟩ := x
          simp only at hpx hpq c1 c2 c3 c4 HN HY
          obtain ⟨A4, c5, rfl, _, _⟩ := hpx.val
          have HB := HS'.box [.slice A4 xp.length c5, .bool xf, .int .i64 xr, .int .i64 xs, .string xv] 78
          cases xf
          · have HS := HB
            have F := HS.facts; simp only [Own.Facts, Own.Cells, World.size_alloc, List.cons_append, List.nil_append, List.eraseIdx_cons_succ, List.eraseIdx_cons_zero, List.eraseIdx_zero, List.tail_cons, Nat.zero_add] at F
            have hdec : regAt p ⟨xp, false, xr, xs, xv⟩ = decide (xp = p) := rfl
            rw [hdec] at HN HY
            clear hdec
            go_wp2_with fail
            refine (slicesEqualS _ _ _ _ _ (hpq _ _) (HS.old hP)).mono ?_; rintro e w3 ⟨rfl, hb⟩; (first | have H' := HS.of_below hb | have H' := HS.drew.of_below hb | have H' := (HS.box0 [_] _).of_below hb | have H' := ((HS.box0 [_] _).box0 [_] _).of_below hb | have H' := (HS.alloc _).of_below hb | have H' := ((HS.alloc _).alloc _).of_below hb); clear HS; have HS := H'; clear H'; have F := HS.facts; simp only [Own.Facts, Own.Cells, World.size_alloc, List.cons_append, List.nil_append, List.eraseIdx_cons_succ, List.eraseIdx_cons_zero, List.eraseIdx_zero, List.tail_cons, Nat.zero_add] at F
            by_cases he : xp = p
            · have HZ := Lib.hid (HY.out (by simp [he]))
              rw [show decide (xp = p) = true by simp [he]]
              clear HN HY he
              have HL := (HS.lit [xv] #[.string xv] 9 rfl rfl (by simp)).pick 2 rfl
              go_wp2_with (refine wp_app2 (α := ByteArray) rfl _ _ 39 rfl (by kernel_rfl) _ _ HL rfl _ _ rfl (HL.rd 1 rfl) (by show (_ + 1) * 16 ≤ _; omega) (by show _ + 1 ≤ _; omega) ?_; intro v7 q7 w7 hq7 hl7 H7)
              have H8 := ((H7.pick 1 rfl).drop.pick 1 rfl).drop
              obtain ⟨A7, c7, rfl, _, _⟩ := (H8.rd 0 rfl).val
              have hq7l : q7.length = out.length + 1 := by rw [hq7.out]; simp
              obtain ⟨g7, rfl⟩ := H8.fix (by omega)
              go_roundw
              case rel => exact ⟨k + 1, q7, g7, c7, by omega, by go_num, rfl, by omega, Lib.hid (by rw [hq7.out]; exact HZ.out), H8⟩
              case measure => simp [intOf]; omega
            · have HZ := Lib.hid (HN.out (by simp [he]))
              rw [show decide (xp = p) = false by simp [he]]
              clear HN HY he
              go_wp2
              go_roundw
              case rel => exact ⟨k + 1, out, g, cap, by omega, by go_num, rfl, by omega, HZ, HS.drop⟩
              case measure => simp [intOf]; omega
          · have HN := Lib.hid (HN.out rfl)
            clear HY
            go_wp2
            go_roundw
            case rel => exact ⟨k + 1, out, g, cap, by omega, by go_num, rfl, by omega, HN, HB.drop⟩
            case measure => simp [intOf]; omega
        · have HO2 := Lib.hid (show out = regs s.l p by have := HO.out; rw [show s.l.drop k = [] from List.drop_eq_nil_of_le (by omega)] at this; rw [← this]; simp [regs])
          go_wp2_with fail
          refine (sortStrings out g cap HS').mono ?_
          rintro e w5 ⟨rfl, H5⟩
          go_wp2_with fail
          refine (compactStrings out g cap H5).mono ?_
          rintro e w6 ⟨rfl, H6⟩
          rw [HO2.out] at H6 ⊢
          go_wp2
          go_ret2
          exact ⟨_, by rw [HQ.out.1]; rfl, by rw [HQ.out.2]; exact H6⟩
set_option maxHeartbeats 4000000 in
theorem specReadReg (s : St) (p : List ByteArray) (vl vc vP : Value) (w : World) (h1 : Rd w vl s.l) (h2 : Rd w vc s.c) (hP : Rd w vP p) (hw : ∀ y ∈ s.l, LfW y) (hwp : ∀ x ∈ p, x.size ≤ 140737488351232) (hn : s.l.length ≤ 1048576) :
    Calls Try.prog 44 #[.agg #[vl, vc], vP] w fun e w' => ∃ v', e = .returned (.tuple #[v', .bool (rrOk s p)]) ∧ Own w [.own v' (rr s p)] w' := by
  obtain ⟨A, c, rfl, _, hl⟩ := h1.val
  obtain ⟨A2, d2, rfl, _, hl2⟩ := h2.val
  obtain ⟨A3, d3, rfl, _, hl3⟩ := hP.val
  have HW := Lib.hid hw
  have HWP := Lib.hid hwp
  clear hw hwp
  have HS := (((Own.start w).box [.slice A s.l.length c, .slice A2 s.c.length d2] 35).lit ([] : List ByteArray) #[] 9 rfl rfl (by simp)).pick 1 rfl
  simp only [World.size_alloc] at HS
  cases hs : stOk s
  · have HQ := Lib.hid (show rrOk s p = false ∧ rr s p = [] by simp [rr, rrOk, hs])
    go_enter Try.func44, Try.ntmps44
    go_wp2_with fail
    refine (specStateOk s _ _ _ (HS.old h1) (HS.old h2) HW.out).mono ?_; rintro e w1 ⟨rfl, hb⟩; (first | have H' := HS.of_below hb | have H' := HS.drew.of_below hb | have H' := (HS.box0 [_] _).of_below hb | have H' := ((HS.box0 [_] _).box0 [_] _).of_below hb | have H' := (HS.alloc _).of_below hb | have H' := ((HS.alloc _).alloc _).of_below hb); clear HS; have HS := H'; clear H'; have F := HS.facts; simp only [Own.Facts, Own.Cells, World.size_alloc, List.cons_append, List.nil_append, List.eraseIdx_cons_succ, List.eraseIdx_cons_zero, List.eraseIdx_zero, List.tail_cons, Nat.zero_add] at F
    rw [hs]
    clear hs
    go_wp2
    go_ret2
    exact ⟨_, by rw [HQ.out.1]; rfl, by rw [HQ.out.2]; exact HS.drop⟩
  · cases hp : pathOk p
    · have HQ := Lib.hid (show rrOk s p = false ∧ rr s p = [] by simp [rr, rrOk, hp])
      go_enter Try.func44, Try.ntmps44
      go_wp2_with fail
      refine (specStateOk s _ _ _ (HS.old h1) (HS.old h2) HW.out).mono ?_; rintro e w1 ⟨rfl, hb⟩; (first | have H' := HS.of_below hb | have H' := HS.drew.of_below hb | have H' := (HS.box0 [_] _).of_below hb | have H' := ((HS.box0 [_] _).box0 [_] _).of_below hb | have H' := (HS.alloc _).of_below hb | have H' := ((HS.alloc _).alloc _).of_below hb); clear HS; have HS := H'; clear H'; have F := HS.facts; simp only [Own.Facts, Own.Cells, World.size_alloc, List.cons_append, List.nil_append, List.eraseIdx_cons_succ, List.eraseIdx_cons_zero, List.eraseIdx_zero, List.tail_cons, Nat.zero_add] at F
      rw [hs]
      clear hs
      go_wp2_with fail
      refine (l3PathOk p _ _ (HS.old hP) HWP.out).mono ?_; rintro e w2 ⟨rfl, hb⟩; (first | have H' := HS.of_below hb | have H' := HS.drew.of_below hb | have H' := (HS.box0 [_] _).of_below hb | have H' := ((HS.box0 [_] _).box0 [_] _).of_below hb | have H' := (HS.alloc _).of_below hb | have H' := ((HS.alloc _).alloc _).of_below hb); clear HS; have HS := H'; clear H'; have F := HS.facts; simp only [Own.Facts, Own.Cells, World.size_alloc, List.cons_append, List.nil_append, List.eraseIdx_cons_succ, List.eraseIdx_cons_zero, List.eraseIdx_zero, List.tail_cons, Nat.zero_add] at F
      rw [hp]
      clear hp
      go_wp2
      go_ret2
      exact ⟨_, by rw [HQ.out.1]; rfl, by rw [HQ.out.2]; exact HS.drop⟩
    · have HQ := Lib.hid (show rrOk s p = true ∧ rr s p = onceF [] (regs s.l p) by simp [rr, rrOk, hs, hp])
      obtain ⟨bs, hbs⟩ : ∃ n, w.heap.size = n := ⟨_, rfl⟩
      go_enter Try.func44, Try.ntmps44
      go_wp2_with fail
      refine (specStateOk s _ _ _ (HS.old h1) (HS.old h2) HW.out).mono ?_; rintro e w1 ⟨rfl, hb⟩; (first | have H' := HS.of_below hb | have H' := HS.drew.of_below hb | have H' := (HS.box0 [_] _).of_below hb | have H' := ((HS.box0 [_] _).box0 [_] _).of_below hb | have H' := (HS.alloc _).of_below hb | have H' := ((HS.alloc _).alloc _).of_below hb); clear HS; have HS := H'; clear H'; have F := HS.facts; simp only [Own.Facts, Own.Cells, World.size_alloc, List.cons_append, List.nil_append, List.eraseIdx_cons_succ, List.eraseIdx_cons_zero, List.eraseIdx_zero, List.tail_cons, Nat.zero_add] at F
      rw [hs]
      clear hs
      go_wp2_with fail
      refine (l3PathOk p _ _ (HS.old hP) HWP.out).mono ?_; rintro e w2 ⟨rfl, hb⟩; (first | have H' := HS.of_below hb | have H' := HS.drew.of_below hb | have H' := (HS.box0 [_] _).of_below hb | have H' := ((HS.box0 [_] _).box0 [_] _).of_below hb | have H' := (HS.alloc _).of_below hb | have H' := ((HS.alloc _).alloc _).of_below hb); clear HS; have HS := H'; clear H'; have F := HS.facts; simp only [Own.Facts, Own.Cells, World.size_alloc, List.cons_append, List.nil_append, List.eraseIdx_cons_succ, List.eraseIdx_cons_zero, List.eraseIdx_zero, List.tail_cons, Nat.zero_add] at F
      rw [hp]
      clear hp
      have HL := HS.pick 1 rfl
      simp only [World.size_alloc, hbs, List.eraseIdx_cons_succ, List.eraseIdx_cons_zero] at HL
      go_wp2
      go_loopw [6, 7] (fun q i wr => ∃ (k : Nat) (out : List ByteArray) (g cap : Nat), k ≤ s.l.length ∧ i = .int .i64 k ∧ q = .slice (some ⟨g, 0, none⟩) out.length cap ∧ out.length ≤ k ∧ Hid (out ++ regs (s.l.drop k) p = regs s.l p) ∧ Own w [.own (.slice (some ⟨g, 0, none⟩) out.length cap) out, .box bs 35 [.slice A s.l.length c, .slice A2 s.c.length d2]] wr) (fun _ i _ => s.l.length - (intOf i).toNat)
      case atStart => exact ⟨0, [], _, 0, by omega, rfl, rfl, by simp, Lib.hid rfl, HL⟩
      case round =>
        obtain ⟨k, out, g, cap, hk, rfl, rfl, hol, HO, HS'⟩ := hrel
        clear HS HL F hbs
        have HS := HS'
        have F := HS.facts; simp only [Own.Facts, Own.Cells, World.size_alloc, List.cons_append, List.nil_append, List.eraseIdx_cons_succ, List.eraseIdx_cons_zero, List.eraseIdx_zero, List.tail_cons, Nat.zero_add] at F
        by_cases hlt : k < s.l.length
        · obtain ⟨b, o, rfl⟩ := h1.fix (by omega)
          obtain ⟨vp, hx⟩ := Lf.rd (HS'.old h1) k hlt
          obtain ⟨hpx, c0, c1, c2, c3, c4⟩ := hx wr (Below.refl _ _)
          have hq4 := fun w' (hb : Below wr.heap.size wr w') => (hx w' hb).2.2.2.2.2
          clear hx
          have HN := Lib.hid (regs_no hlt HO.out)
          have HY := Lib.hid (regs_yes hlt HO.out)
          obtain ⟨x, hxx⟩ : ∃ x, s.l[k] = x := ⟨_, rfl⟩
          simp only [hxx] at hpx hq4 c1 c2 c3 c4 HN HY
          clear hxx HO
          obtain ⟨xp, xf, xr, xs, xv⟩ := x
          simp only at hpx hq4 c1 c2 c3 c4 HN HY
          obtain ⟨A4, c5, rfl, _, _⟩ := hpx.val
          have HQ4 := Lib.hid hq4
          clear hq4
          cases xf
          · have hdec : regAt p ⟨xp, false, xr, xs, xv⟩ = decide (xp = p) := rfl
            rw [hdec] at HN HY
            clear hdec
            go_wp2_with fail
            refine (l3Cmp xp p _ _ _ hpx (HS.old hP)).mono ?_; rintro e w3 ⟨rfl, hb⟩; (first | have H' := HS.of_below hb | have H' := HS.drew.of_below hb | have H' := (HS.box0 [_] _).of_below hb | have H' := ((HS.box0 [_] _).box0 [_] _).of_below hb | have H' := (HS.alloc _).of_below hb | have H' := ((HS.alloc _).alloc _).of_below hb); clear HS; have HS := H'; clear H'; have F := HS.facts; simp only [Own.Facts, Own.Cells, World.size_alloc, List.cons_append, List.nil_append, List.eraseIdx_cons_succ, List.eraseIdx_cons_zero, List.eraseIdx_zero, List.tail_cons, Nat.zero_add] at F
            by_cases he : cmpP xp p = 0
            · have HZ := Lib.hid (HY.out (by simp [(cmpP_eq xp p).1 he]))
              have c9 := HQ4.out _ hb
              rw [he]
              clear HN HY he
              have HL := (HS.lit [xv] #[.string xv] 9 rfl rfl (by simp)).pick 1 rfl
              go_wp2_with (refine wp_app2 (α := ByteArray) rfl _ _ 39 rfl (by kernel_rfl) _ _ HL rfl _ _ rfl (HL.rd 1 rfl) (by show (_ + 1) * 16 ≤ _; omega) (by show _ + 1 ≤ _; omega) ?_; intro v7 q7 w7 hq7 hl7 H7)
              have H8 := ((H7.pick 1 rfl).drop)
              obtain ⟨A7, c7, rfl, _, _⟩ := (H8.rd 0 rfl).val
              have hq7l : q7.length = out.length + 1 := by rw [hq7.out]; simp
              obtain ⟨g7, rfl⟩ := H8.fix (by omega)
              go_roundw
              case rel => exact ⟨k + 1, q7, g7, c7, by omega, by go_num, rfl, by omega, Lib.hid (by rw [hq7.out]; exact HZ.out), H8⟩
              case measure => simp [intOf]; omega
            · have HZ := Lib.hid (HN.out (by rw [decide_eq_false]; exact fun h => he ((cmpP_eq xp p).2 h)))
              have heb : (cmpP xp p == 0) = false := by simpa using he
              clear HN HY he
              go_wp2
              go_roundw
              case rel => exact ⟨k + 1, out, g, cap, by omega, by go_num, rfl, by omega, HZ, HS⟩
              case measure => simp [intOf]; omega
          · have HN := Lib.hid (HN.out rfl)
            clear HY
            go_wp2
            go_roundw
            case rel => exact ⟨k + 1, out, g, cap, by omega, by go_num, rfl, by omega, HN, HS'⟩
            case measure => simp [intOf]; omega
        · have HO2 := Lib.hid (show out = regs s.l p by have := HO.out; rw [show s.l.drop k = [] from List.drop_eq_nil_of_le (by omega)] at this; rw [← this]; simp [regs])
          go_wp2_with fail
          refine (l3Once out _ _ (HS.rd 0 rfl) (by omega)).mono ?_; rintro e w5 ⟨v6, rfl, hs⟩; (first | have H' := HS.call1 hs | have H' := HS.drew.call1 hs | have H' := (HS.box0 [_] _).call1 hs | have H' := ((HS.box0 [_] _).box0 [_] _).call1 hs | have H' := (HS.alloc _).call1 hs | have H' := ((HS.alloc _).alloc _).call1 hs); clear HS; have HS := H'; clear H'; have F := HS.facts; simp only [Own.Facts, Own.Cells, World.size_alloc, List.cons_append, List.nil_append, List.eraseIdx_cons_succ, List.eraseIdx_cons_zero, List.eraseIdx_zero, List.tail_cons, Nat.zero_add] at F
          have H6 := ((HS.pick 1 rfl).drop.pick 1 rfl).drop
          rw [HO2.out] at H6
          go_wp2
          go_ret2
          exact ⟨_, by rw [HQ.out.1]; rfl, by rw [HQ.out.2]; exact H6⟩
end Go.Proofs.Ytgfgkbmebdaieaa
