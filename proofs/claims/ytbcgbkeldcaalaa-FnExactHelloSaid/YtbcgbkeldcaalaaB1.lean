/- Byte slices: the law's own helpers. -/
import Derived.Test.YtbcgbkeldcaalaaTy
import Derived.Outline
namespace Go.Proofs.Ytbcgbkeldcaalaa
set_option linter.unusedSimpArgs false
set_option linter.unusedVariables false
open Go.RowKit Go.Ow
attribute [local irreducible] wpQuiet

/-- The bytes k, k + 1, .. -/
def bmarks (n k : Nat) : List UInt8 := (List.range n).map fun i => UInt8.ofNat (k + i)
theorem bmarks_len (n k : Nat) : (bmarks n k).length = n := by simp [bmarks]
theorem bmarks_at (n k i : Nat) (h : i < n) : (bmarks n k)[i]'(by simp [bmarks, h]) = UInt8.ofNat (k + i) := by simp [bmarks]
theorem bmarks_set (xs : List UInt8) (k i : Nat) (h : i < xs.length) : (bmarks i k ++ xs.drop i).set i (UInt8.ofNat (k + i)) = bmarks (i + 1) k ++ xs.drop (i + 1) := by
  rw [List.set_append_right _ _ (by simp [bmarks])]
  rw [bmarks_len, Nat.sub_self, List.drop_eq_getElem_cons h, List.set_cons_zero]
  simp [bmarks, List.range_succ]

theorem markByteS {W : World} {R : List Ds} (xs : List UInt8) (v : Value) (k : Nat) (w : World) (HS : Own W (.own v xs :: R) w) (hk : k ≤ 4611686018427387904) : Calls Try.prog 20 #[v, .int .i64 k] w fun e w' => e = .returned (.int .i64 ((k + xs.length : Nat) : Int)) ∧ Own W (.own v (bmarks xs.length k) :: R) w' := by
  have hv := HS.rd 0 rfl
  obtain ⟨A, c, rfl, hc, hl⟩ := hv.val
  go_enter Try.func20, Try.ntmps20
  go_wp2
  go_loopw [1, 5] (fun kk i wr => ∃ j : Nat, j ≤ xs.length ∧ i = .int .i64 j ∧ kk = .int .i64 ((k + j : Nat) : Int) ∧ Own W (.own (.slice A xs.length c) (bmarks j k ++ xs.drop j) :: R) wr) (fun _ i _ => xs.length - (intOf i).toNat)
  case atStart => exact ⟨0, by omega, rfl, rfl, by simpa [bmarks] using HS⟩
  case round =>
    obtain ⟨j, hj, rfl, rfl, HS'⟩ := hrel
    by_cases hlt : j < xs.length
    · have hl2 : (bmarks j k ++ xs.drop j).length = xs.length := by simp [bmarks_len]; omega
      obtain ⟨g, rfl⟩ := HS'.fix (by omega)
      obtain ⟨r0, hfr⟩ := By.row HS' j (by omega)
      generalize hu : ((bmarks j k ++ xs.drop j)[j]'(by omega)) = u at r0
      have HP := By.put HS' j (by omega) (UInt8.ofNat (k + j))
      rw [bmarks_set xs k j hlt, ← u8_of] at HP
      clear hu hl2
      go_wp2
      go_roundw
      case rel => exact ⟨j + 1, by omega, by go_num, by go_num, HP⟩
      case measure => simp [intOf]; omega
    · go_wp2
      go_ret
      obtain rfl : j = xs.length := by omega
      exact ⟨by go_num, by simpa using HS'⟩

theorem heldByteS {W : World} {R : List Ds} (xs : List UInt8) (v : Value) (k : Nat) (w : World) (HS : Own W (.own v (bmarks xs.length k) :: R) w) (hk : k ≤ 4611686018427387904) (hx : xs.length ≤ 140737488355328) : Calls Try.prog 21 #[v, .int .i64 k] w fun e w' => e = .returned (.int .i64 ((k + xs.length : Nat) : Int)) ∧ Below w.heap.size w w' := by
  have hv : Rd w v (bmarks xs.length k) := HS.rd 0 rfl
  clear HS
  obtain ⟨A, c, rfl, hc, hl⟩ := hv.val
  have HL := Lib.hid (bmarks_len xs.length k)
  obtain ⟨zs, hz⟩ : ∃ zs, bmarks xs.length k = zs := ⟨_, rfl⟩
  rw [hz] at hv HL hc hl ⊢
  have HS := Own.start w
  have HE : ∀ i (h : i < zs.length), zs[i] = UInt8.ofNat (k + i) := by
    subst hz; intro i h; exact bmarks_at _ _ _ (by simpa [bmarks_len] using h)
  clear hz
  go_enter Try.func21, Try.ntmps21
  go_wp2
  go_loopw [1, 5] (fun kk i wr => ∃ j : Nat, j ≤ zs.length ∧ i = .int .i64 j ∧ kk = .int .i64 ((k + j : Nat) : Int) ∧ Own w [] wr) (fun _ i _ => zs.length - (intOf i).toNat)
  case atStart => exact ⟨0, by omega, rfl, rfl, HS⟩
  case round =>
    obtain ⟨j, hj, rfl, rfl, HS'⟩ := hrel
    by_cases hlt : j < zs.length
    · obtain ⟨b, o, rfl⟩ := hv.fix (by omega)
      have r0 := By.rd (HS'.old hv) j (by omega)
      rw [HE j hlt, ← u8_of] at r0
      clear HE
      go_wp2
      go_roundw
      case rel => exact ⟨j + 1, by omega, by go_num, by go_num, HS'⟩
      case measure => simp [intOf]; omega
    · clear HE
      go_wp2
      go_ret
      obtain rfl : j = zs.length := by omega
      exact ⟨by rw [HL.out]; rfl, HS'.below⟩
theorem eqByteS (xs ys : List UInt8) (v u : Value) (w : World) (hv : Rd w v xs) (hu : Rd w u ys) : Calls Try.prog 17 #[v, u] w fun e w' => e = .returned (.bool (decide (xs = ys))) ∧ Below w.heap.size w w' := by
  obtain ⟨A, c, rfl, hc, hl⟩ := hv.val
  obtain ⟨B, d, rfl, hd, hm⟩ := hu.val
  have HS := Own.start w
  by_cases hn : xs.length = ys.length
  · have hb2 : ((xs.length : Int) != (ys.length : Int)) = false := by simp; omega
    have hb3 : ((xs.length : Int) == (ys.length : Int)) = true := by simp; omega
    have HN := Lib.hid hn
    clear hn
    go_enter Try.func17, Try.ntmps17
    go_wp2
    go_loopw [5] (fun i wr => ∃ k : Nat, k ≤ xs.length ∧ i = .int .i64 k ∧ Own w [] wr ∧ xs.take k = ys.take k) (fun i _ => xs.length - (intOf i).toNat)
    case atStart => exact ⟨0, by omega, rfl, HS, rfl⟩
    case round =>
      obtain ⟨k, hk, rfl, HS', hok⟩ := hrel
      have HOK := Lib.hid hok
      clear hok
      by_cases hlt : k < xs.length
      · have hlt2 : k < ys.length := by have := HN.out; omega
        obtain ⟨b, o, rfl⟩ := hv.fix (by omega)
        obtain ⟨b2, o2, rfl⟩ := hu.fix (by omega)
        have hF : ∀ p : Ext wr, _ := fun p => By.rd ((HS'.of_below p.h).old hv) k hlt
        have hG : ∀ p : Ext wr, _ := fun p => By.rd ((HS'.of_below p.h).old hu) k hlt2
        by_cases h1 : xs[k] = ys[k]
        · rw [h1] at hF
          have H1 := Lib.hid h1
          clear h1
          generalize (ys[k].toNat : Int) = m at hF hG
          go_wp2
          (refine wp_region_ext (by kernel_rfl) (by kernel_rfl) ?_; (repeat (quiet_step (first | fail))); refine wpQuiet_nil ?_; rintro _ ⟨⟨w1, hw1⟩, rfl⟩)
          have H2 := HS'.of_below hw1
          clear hF hG
          go_wp2
          go_roundw
          case rel => exact ⟨k + 1, by omega, by go_num, H2, by rw [List.take_succ_eq_append_getElem hlt, List.take_succ_eq_append_getElem hlt2, HOK.out, H1.out]⟩
          case measure => simp [intOf]; omega
        · have hne : xs ≠ ys := fun h => h1 (by simp [h])
          have hq : ¬ ((xs[k].toNat : Int) = (ys[k].toNat : Int)) := fun h => h1 (UInt8.toNat_inj.1 (by omega))
          have H1 := Lib.hid hne
          clear h1 hne
          generalize (xs[k].toNat : Int) = m at hF hq
          generalize (ys[k].toNat : Int) = m' at hG hq
          have hq2 : (m == m') = false := by simpa using hq
          have hq3 : (m != m') = true := by simpa using hq
          go_wp2
          (refine wp_region_ext (by kernel_rfl) (by kernel_rfl) ?_; (repeat (quiet_step (first | fail))); refine wpQuiet_nil ?_; rintro _ ⟨⟨w1, hw1⟩, rfl⟩)
          have H2 := HS'.of_below hw1
          clear hF hG
          go_wp2
          go_ret
          exact ⟨by simp [H1.out], H2.below⟩
      · go_wp2
        go_ret
        obtain rfl : k = xs.length := by omega
        have h := HOK.out
        rw [List.take_length, HN.out, List.take_length] at h
        exact ⟨by simp [h], HS'.below⟩
  · have hb1 : (xs.length == ys.length) = false := by simp [hn]
    have hb2 : ((xs.length : Int) != (ys.length : Int)) = true := by simp; omega
    have hb3 : ((xs.length : Int) == (ys.length : Int)) = false := by simp; omega
    have hne : xs ≠ ys := fun h => hn (by rw [h])
    have H1 := Lib.hid hne
    clear hne
    go_enter Try.func17, Try.ntmps17
    go_wp2
    go_ret
    exact ⟨by simp [H1.out], HS.below⟩
end Go.Proofs.Ytbcgbkeldcaalaa
