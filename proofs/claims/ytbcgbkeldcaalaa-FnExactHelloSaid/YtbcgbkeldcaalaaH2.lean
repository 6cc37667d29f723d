/- States: equality of leaves' lists and of states. -/
import Derived.Test.YtbcgbkeldcaalaaH1
namespace Go.Proofs.Ytbcgbkeldcaalaa
set_option linter.unusedSimpArgs false
set_option linter.unusedVariables false
open Go.RowKit Go.Ow
attribute [local irreducible] wpQuiet
set_option maxRecDepth 100000
theorem eqLeafS (xs ys : List Lf) (v u : Value) (w : World) (hv : Rd w v xs) (hu : Rd w u ys) : Calls Try.prog 50 #[v, u] w fun e w' => e = .returned (.bool (decide (xs = ys))) ∧ Below w.heap.size w w' := by
  obtain ⟨A, c, rfl, hc, hl⟩ := hv.val
  obtain ⟨B, d, rfl, hd, hm⟩ := hu.val
  have HS := Own.start w
  by_cases hn : xs.length = ys.length
  · have hb2 : ((xs.length : Int) != (ys.length : Int)) = false := by simp; omega
    have hb3 : ((xs.length : Int) == (ys.length : Int)) = true := by simp; omega
    have HN := Lib.hid hn
    clear hn
    go_enter Try.func50, Try.ntmps50
    go_wp2
    go_loopw [5] (fun i wr => ∃ k : Nat, k ≤ xs.length ∧ i = .int .i64 k ∧ Own w [] wr ∧ xs.take k = ys.take k) (fun i _ => xs.length - (intOf i).toNat)
    case atStart => exact ⟨0, by omega, rfl, HS, rfl⟩
    case round =>
      obtain ⟨k, hk, rfl, HS', hok⟩ := hrel
      have HOK := Lib.hid hok
      clear hok
      by_cases hlt : k < xs.length
      · have hlt2 : k < ys.length := by have := HN.out; omega
        obtain ⟨b, o, rfl⟩ := hv.fix (by omega)
        obtain ⟨b2, o2, rfl⟩ := hu.fix (by omega)
        obtain ⟨vp, hX⟩ := Lf.rd (HS'.old hv) k hlt
        obtain ⟨up, hY⟩ := Lf.rd (HS'.old hu) k hlt2
        have hF : ∀ p : Ext wr, _ := fun p => (hX p.to p.h).2
        have hG : ∀ p : Ext wr, _ := fun p => (hY p.to p.h).2
        have hP : ∀ p : Ext wr, Rd p.to vp xs[k].p := fun p => (hX p.to p.h).1
        have hR : ∀ p : Ext wr, Rd p.to up ys[k].p := fun p => (hY p.to p.h).1
        have HPR := Lib.hid (And.intro hP hR)
        have hone1 : vp.oneCell' = true := (hP ⟨wr, Below.refl _ _⟩).oneCell
        have hone2 : up.oneCell' = true := (hR ⟨wr, Below.refl _ _⟩).oneCell
        clear hX hY hP hR
        by_cases h1 : xs[k] = ys[k]
        · have h1b : decide (xs[k] = ys[k]) = true := by simp [h1]
          have H1 := Lib.hid h1
          clear h1
          go_wp2
          (refine wp_region_ext (by kernel_rfl) (by kernel_rfl) ?_; (repeat (quiet_step (first | exact q_call (eqLeaf xs[k] ys[k] _ _ _ (HPR.out.1 _) (HPR.out.2 _))))); refine wpQuiet_nil ?_; rintro _ ⟨⟨w1, hw1⟩, rfl⟩)
          have H2 := HS'.of_below hw1
          clear hF hG
          go_wp2
          go_roundw
          case rel => exact ⟨k + 1, by omega, by go_num, H2, by rw [List.take_succ_eq_append_getElem hlt, List.take_succ_eq_append_getElem hlt2, HOK.out, H1.out]⟩
          case measure => simp [intOf]; omega
        · have h1b : decide (xs[k] = ys[k]) = false := by simp [h1]
          have hne : xs ≠ ys := fun h => h1 (by simp [h])
          have H1 := Lib.hid hne
          clear h1 hne
          go_wp2
          (refine wp_region_ext (by kernel_rfl) (by kernel_rfl) ?_; (repeat (quiet_step (first | exact q_call (eqLeaf xs[k] ys[k] _ _ _ (HPR.out.1 _) (HPR.out.2 _))))); refine wpQuiet_nil ?_; rintro _ ⟨⟨w1, hw1⟩, rfl⟩)
          have H2 := HS'.of_below hw1
          clear hF hG
          go_wp2
          go_ret
          exact ⟨by simp [H1.out], H2.below⟩
      · go_wp2
        go_ret
        obtain rfl : k = xs.length := by omega
        have h := HOK.out
        rw [List.take_length, HN.out, List.take_length] at h
        exact ⟨by simp [h], HS'.below⟩
  · have hb2 : ((xs.length : Int) != (ys.length : Int)) = true := by simp; omega
    have hb3 : ((xs.length : Int) == (ys.length : Int)) = false := by simp; omega
    have hne : xs ≠ ys := fun h => hn (by rw [h])
    have H1 := Lib.hid hne
    clear hne
    go_enter Try.func50, Try.ntmps50
    go_wp2
    go_ret
    exact ⟨by simp [H1.out], HS.below⟩
end Go.Proofs.Ytbcgbkeldcaalaa
