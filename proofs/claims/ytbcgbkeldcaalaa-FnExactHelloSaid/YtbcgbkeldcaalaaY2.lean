/- The reference's kinds and groups of leaves. -/
import Derived.Test.YtbcgbkeldcaalaaY1
import Derived.Test.YtbcgbkeldcaalaaH5
import Derived.Test.YtbcgbkeldcaalaaH2
namespace Go.Proofs.Ytbcgbkeldcaalaa
set_option linter.unusedSimpArgs false
set_option linter.unusedVariables false
open Go.RowKit Go.Ow
attribute [local irreducible] wpQuiet
set_option maxRecDepth 100000
def lfV (vp : Value) (x : Lf) : Value := .agg #[vp, .bool x.fl, .int .i64 x.dr, .int .i64 x.ds, .string x.v]
theorem l4Kind (x : Lf) (A : Option Addr) (c d : Nat) (w : World) (hd : d ≤ 100) (hl : x.p.length ≤ 140737488355328) : Calls Try.prog 100 #[.agg #[.slice A x.p.length c, .bool x.fl, .int .i64 x.dr, .int .i64 x.ds, .string x.v], .int .i64 d] w fun e w' => e = .returned (.int .i64 (kdAt x d)) ∧ Below w.heap.size w w' := by
  have HS := (Own.start w).box [.slice A x.p.length c, .bool x.fl, .int .i64 x.dr, .int .i64 x.ds, .string x.v] 91
  obtain ⟨xp, xf, xr, xs, xv⟩ := x
  simp only at HS hl ⊢
  by_cases h1 : d + 1 < xp.length
  · have HK := Lib.hid (show kdAt ⟨xp, xf, xr, xs, xv⟩ d = 3 by simp [kdAt, h1])
    have h2 : decide ((d : Int) + 1 < (xp.length : Int)) = true := by simp; omega
    go_enter Try.func100, Try.ntmps100
    go_wp2
    go_ret
    exact ⟨by rw [HK.out]; rfl, HS.below⟩
  · cases xf
    · have HK := Lib.hid (show kdAt ⟨xp, false, xr, xs, xv⟩ d = 1 by simp [kdAt, h1])
      go_enter Try.func100, Try.ntmps100
      go_wp2
      go_ret
      exact ⟨by rw [HK.out]; rfl, HS.below⟩
    · have HK := Lib.hid (show kdAt ⟨xp, true, xr, xs, xv⟩ d = 2 by simp [kdAt, h1])
      go_enter Try.func100, Try.ntmps100
      go_wp2
      go_ret
      exact ⟨by rw [HK.out]; rfl, HS.below⟩
theorem kindAt (x : Lf) (A : Option Addr) (c d : Nat) (w : World) (hd : d ≤ 100) (hl : x.p.length ≤ 140737488355328) : Calls Try.prog 61 #[.agg #[.slice A x.p.length c, .bool x.fl, .int .i64 x.dr, .int .i64 x.ds, .string x.v], .int .i64 d] w fun e w' => e = .returned (.int .i64 (kdAt x d)) ∧ Below w.heap.size w w' := by
  have HS := (Own.start w).box [.slice A x.p.length c, .bool x.fl, .int .i64 x.dr, .int .i64 x.ds, .string x.v] 91
  obtain ⟨xp, xf, xr, xs, xv⟩ := x
  simp only at HS hl ⊢
  by_cases h1 : d + 1 < xp.length
  · have HK := Lib.hid (show kdAt ⟨xp, xf, xr, xs, xv⟩ d = 3 by simp [kdAt, h1])
    go_enter Try.func61, Try.ntmps61
    go_wp2
    go_ret
    exact ⟨by rw [HK.out]; rfl, HS.below⟩
  · cases xf
    · have HK := Lib.hid (show kdAt ⟨xp, false, xr, xs, xv⟩ d = 1 by simp [kdAt, h1])
      go_enter Try.func61, Try.ntmps61
      go_wp2
      go_ret
      exact ⟨by rw [HK.out]; rfl, HS.below⟩
    · have HK := Lib.hid (show kdAt ⟨xp, true, xr, xs, xv⟩ d = 2 by simp [kdAt, h1])
      go_enter Try.func61, Try.ntmps61
      go_wp2
      go_ret
      exact ⟨by rw [HK.out]; rfl, HS.below⟩
theorem tw_stop {α : Type} (p : α → Bool) (l : List α) (j : Nat) (hj : j ≤ l.length) (h : ∀ y ∈ l.take j, p y = true) (h2 : ∀ hlt : j < l.length, p l[j] = false) : (l.takeWhile p).length = j := by
  have e : l.takeWhile p = l.take j := by
    conv => lhs; rw [← List.take_append_drop j l, List.takeWhile_append]
    rw [(tw_all p _ h).1, if_pos rfl]
    by_cases hlt : j < l.length
    · rw [List.drop_eq_getElem_cons hlt, List.takeWhile_cons_of_neg (by simp [h2 hlt]), List.append_nil]
    · rw [List.drop_eq_nil_of_le (by omega)]; simp
  rw [e, List.length_take]; omega
set_option maxHeartbeats 2000000 in
theorem l4Group (ls : List Lf) (v : Value) (d : Nat) (w : World) (hv : Rd w v ls) (h0 : 0 < ls.length) (hp : ∀ l ∈ ls, d < l.p.length) (hd : d ≤ 100) :
    Calls Try.prog 99 #[v, .int .i64 d] w fun e w' => e = .returned (.int .i64 ((ls.takeWhile (fun y => decide (keyAt d y = keyAt d ls[0]))).length : Nat)) ∧ Below w.heap.size w w' := by
  obtain ⟨b, o, c, rfl, hcc⟩ := hv.some h0
  obtain ⟨_, _, _, _, hl⟩ := hv.val
  obtain ⟨N, hN⟩ : ∃ N, (ls.takeWhile (fun y => decide (keyAt d y = keyAt d ls[0]))).length = N := ⟨_, rfl⟩
  have HN := Lib.hid hN
  rw [hN]
  clear hN
  have HS := Own.start w
  go_enter Try.func99, Try.ntmps99
  go_wp2
  go_loopw [5] (fun i wr => ∃ j : Nat, j ≤ ls.length ∧ i = .int .i64 j ∧ Own w [] wr ∧ Hid (∀ y ∈ ls.take j, keyAt d y = keyAt d ls[0])) (fun i _ => ls.length - (intOf i).toNat)
  case atStart => exact ⟨0, by omega, rfl, HS, Lib.hid (by simp)⟩
  case round =>
    obtain ⟨j, hj, rfl, HS', HJ⟩ := hrel
    clear HS
    by_cases hlt : j < ls.length
    · obtain ⟨vp, hX⟩ := Lf.rd (HS'.old hv) j hlt
      obtain ⟨up, hY⟩ := Lf.rd (HS'.old hv) 0 h0
      have hpj := hp _ (List.getElem_mem hlt)
      have hp0 := hp _ (List.getElem_mem h0)
      have hstop := Lib.hid (tw_stop (fun y => decide (keyAt d y = keyAt d ls[0])) ls j hj (fun y hy => by simpa using HJ.out y hy))
      have hgo : Hid (keyAt d ls[j] = keyAt d ls[0] → ∀ y ∈ ls.take (j + 1), keyAt d y = keyAt d ls[0]) := Lib.hid fun h y hy => by
        rw [List.take_succ_eq_append_getElem hlt] at hy
        rcases List.mem_append.1 hy with hy | hy
        · exact HJ.out y hy
        · rw [List.mem_singleton] at hy; rw [hy]; exact h
      have hstop2 : Hid (keyAt d ls[j] ≠ keyAt d ls[0] → N = j) := Lib.hid fun h => by rw [← HN.out]; exact hstop.out fun _ => by simp [h]
      clear hstop
      obtain ⟨y, hy⟩ : ∃ y, ls[j] = y := ⟨_, rfl⟩
      obtain ⟨x, hx⟩ : ∃ x, ls[0] = x := ⟨_, rfl⟩
      simp only [hy, hx] at hX hY hpj hp0 hgo hstop2 HJ
      clear hy
      have HX := Lib.hid hx
      clear hx
      obtain ⟨A1, c1, rfl, _, hl1⟩ := (hX wr (Below.refl _ _)).1.val
      obtain ⟨A2, c2, rfl, _, hl2⟩ := (hY wr (Below.refl _ _)).1.val
      obtain ⟨b1, o1, rfl⟩ := (hX wr (Below.refl _ _)).1.fix (by omega)
      obtain ⟨b2, o2, rfl⟩ := (hY wr (Below.refl _ _)).1.fix (by omega)
      have hF : ∀ p : Ext wr, _ := fun p => (hX p.to p.h).2
      have hG : ∀ p : Ext wr, _ := fun p => (hY p.to p.h).2
      simp only [Nat.zero_mul, Nat.add_zero] at hG
      have hP : ∀ p : Ext wr, p.to.cell? ⟨b1, o1 + d, none⟩ = some (.string (nmAt y d)) := fun p => by
        have := Sg.rd (hX p.to p.h).1 d hpj
        rw [this]; unfold nmAt; rw [List.getElem?_eq_getElem hpj]; rfl
      have hR : ∀ p : Ext wr, p.to.cell? ⟨b2, o2 + d, none⟩ = some (.string (nmAt x d)) := fun p => by
        have := Sg.rd (hY p.to p.h).1 d hp0
        rw [this]; unfold nmAt; rw [List.getElem?_eq_getElem hp0]; rfl
      clear hX hY
      have hgd : decide ((j : Int) < (ls.length : Int)) = true := by simp; omega
      by_cases n1 : nmAt y d = nmAt x d
      · have n2 : ((nmAt y d).toList == (nmAt x d).toList) = true := by rw [str_eq]; simp [n1]
        by_cases k1 : kdAt y d = kdAt x d
        · have k2 : ((kdAt y d : Int) == (kdAt x d : Int)) = true := by simp [k1]
          have HG := Lib.hid (hgo.out (by unfold keyAt; rw [n1, k1]))
          clear n1 k1 hgo hstop2
          go_wp2
          (refine wp_region_ext (by kernel_rfl) (by kernel_rfl) ?_; (repeat (quiet_step (first | exact q_call (l4Kind _ _ _ _ _ hd (by omega))))); refine wpQuiet_nil ?_; rintro _ ⟨⟨w1, hw1⟩, rfl⟩)
          have H2 := HS'.of_below hw1
          clear hF hG hP hR
          go_wp2
          go_roundw
          case rel => exact ⟨j + 1, by omega, by go_num, H2, Lib.hid (by rw [HX.out]; exact HG.out)⟩
          case measure => simp [intOf]; omega
        · have k2 : ((kdAt y d : Int) == (kdAt x d : Int)) = false := by simp; omega
          have HG := Lib.hid (hstop2.out (by unfold keyAt; intro h; exact k1 (congrArg Prod.snd h)))
          clear n1 k1 hgo hstop2
          go_wp2
          (refine wp_region_ext (by kernel_rfl) (by kernel_rfl) ?_; (repeat (quiet_step (first | exact q_call (l4Kind _ _ _ _ _ hd (by omega))))); refine wpQuiet_nil ?_; rintro _ ⟨⟨w1, hw1⟩, rfl⟩)
          have H2 := HS'.of_below hw1
          clear hF hG hP hR
          go_wp2
          go_ret
          exact ⟨by rw [HG.out]; rfl, H2.below⟩
      · have n2 : ((nmAt y d).toList == (nmAt x d).toList) = false := by rw [str_eq]; simp [n1]
        have HG := Lib.hid (hstop2.out (by unfold keyAt; intro h; exact n1 (congrArg Prod.fst h)))
        clear n1 hgo hstop2
        go_wp2
        (refine wp_region_ext (by kernel_rfl) (by kernel_rfl) ?_; (repeat (quiet_step (first | exact q_call (l4Kind _ _ _ _ _ hd (by omega))))); refine wpQuiet_nil ?_; rintro _ ⟨⟨w1, hw1⟩, rfl⟩)
        have H2 := HS'.of_below hw1
        clear hF hG hP hR
        go_wp2
        go_ret
        exact ⟨by rw [HG.out]; rfl, H2.below⟩
    · have hgd : decide ((j : Int) < (ls.length : Int)) = false := by simp; omega
      have HG := Lib.hid (show N = j by rw [← HN.out]; exact tw_stop (fun y => decide (keyAt d y = keyAt d ls[0])) ls j hj (fun y hy => by simpa using HJ.out y hy) (fun h => absurd h hlt))
      go_wp2
      (refine wp_region_ext (by kernel_rfl) (by kernel_rfl) ?_; (repeat (quiet_step (first | fail))); refine wpQuiet_nil ?_; rintro _ ⟨⟨w1, hw1⟩, rfl⟩)
      have H2 := HS'.of_below hw1
      go_wp2
      go_ret
      exact ⟨by rw [HG.out]; rfl, H2.below⟩
end Go.Proofs.Ytbcgbkeldcaalaa
