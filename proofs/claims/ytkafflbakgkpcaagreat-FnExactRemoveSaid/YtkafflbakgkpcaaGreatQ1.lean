/- ReadFlag: the program's side. -/
import Derived.Test.YtkafflbakgkpcaaGreatJ4
/-FD-/
namespace Go.Proofs.YtkafflbakgkpcaaGreat
set_option linter.unusedSimpArgs false
set_option linter.unusedVariables false
open Go.RowKit Go.Ow
attribute [local irreducible] wpQuiet
set_option maxRecDepth 100000
theorem slicesEqualS (xs ys : List ByteArray) (v u : Value) (w : World) (hv : Rd w v xs) (hu : Rd w u ys) : Calls Tryz.prog 67 #[v, u] w fun e w' => e = .returned (.bool (decide (xs = ys))) ∧ Below w.heap.size w w' := by
  obtain ⟨A, c, rfl, hc, hl⟩ := hv.val
  obtain ⟨B, d, rfl, hd, hm⟩ := hu.val
  have HS := Own.start w
  by_cases hn : xs.length = ys.length
  · have hb2 : ((xs.length : Int) != (ys.length : Int)) = false := by simp; omega
    have hb3 : ((xs.length : Int) == (ys.length : Int)) = true := by simp; omega
    have HN := Lib.hid hn
    clear hn
    go_enter Tryz.func67, Tryz.ntmps67
    go_wp2
    go_loopw [13] (fun i wr => ∃ k : Nat, k ≤ xs.length ∧ i = .int .i64 k ∧ Own w [] wr ∧ xs.take k = ys.take k) (fun i _ => xs.length - (intOf i).toNat)
    case atStart => exact ⟨0, by omega, rfl, HS, rfl⟩
    case round =>
      obtain ⟨k, hk, rfl, HS', hok⟩ := hrel
      have HOK := Lib.hid hok
      clear hok
      by_cases hlt : k < xs.length
      · have hlt2 : k < ys.length := by have := HN.out; omega
        obtain ⟨b, o, rfl⟩ := hv.fix (by omega)
        obtain ⟨b2, o2, rfl⟩ := hu.fix (by omega)
        have hF : ∀ p : Ext wr, _ := fun p => Sg.rd ((HS'.of_below p.h).old hv) k hlt
        have hG : ∀ p : Ext wr, _ := fun p => Sg.rd ((HS'.of_below p.h).old hu) k hlt2
        by_cases h1 : xs[k] = ys[k]
        · rw [h1] at hF
          have H1 := Lib.hid h1
          clear h1
          generalize ys[k] = m at hF hG
          go_wp2
          (refine wp_region_ext (by kernel_rfl) (by kernel_rfl) ?_; (repeat (quiet_step (first | fail))); refine wpQuiet_nil ?_; rintro _ ⟨⟨w1, hw1⟩, rfl⟩)
          have H2 := HS'.of_below hw1
          clear hF hG
          go_wp2
          go_roundw
          case rel => exact ⟨k + 1, by omega, by go_num, H2, by rw [List.take_succ_eq_append_getElem hlt, List.take_succ_eq_append_getElem hlt2, HOK.out, H1.out]⟩
          case measure => simp [intOf]; omega
        · have hne : xs ≠ ys := fun h => h1 (by simp [h])
          have H1 := Lib.hid hne
          have h1b : (xs[k].toList == ys[k].toList) = false := by rw [str_eq]; simp [h1]
          clear hne h1
          generalize xs[k] = m at hF h1b
          generalize ys[k] = m' at hG h1b
          go_wp2
          (refine wp_region_ext (by kernel_rfl) (by kernel_rfl) ?_; (repeat (quiet_step (first | fail))); refine wpQuiet_nil ?_; rintro _ ⟨⟨w1, hw1⟩, rfl⟩)
          have H2 := HS'.of_below hw1
          clear hF hG
          go_wp2
          go_ret
          exact ⟨by simp [H1.out], H2.below⟩
      · go_wp2
        go_ret
        obtain rfl : k = xs.length := by omega
        have h := HOK.out
        rw [List.take_length, HN.out, List.take_length] at h
        exact ⟨by simp [h], HS'.below⟩
  · have hb2 : ((xs.length : Int) != (ys.length : Int)) = true := by simp; omega
    have hb3 : ((xs.length : Int) == (ys.length : Int)) = false := by simp; omega
    have hne : xs ≠ ys := fun h => hn (by rw [h])
    have H1 := Lib.hid hne
    clear hne
    go_enter Tryz.func67, Tryz.ntmps67
    go_wp2
    go_ret
    exact ⟨by simp [H1.out], HS.below⟩
def isFlag (p : List ByteArray) (x : Lf) : Bool := x.fl && decide (x.p = p)
def readFlag (s : St) (p : List ByteArray) : Bool := stOk s && (pathOk p && s.l.any (isFlag p))
end Go.Proofs.YtkafflbakgkpcaaGreat
