/- Reading numbers, in plain Lean. -/
import Derived.Test.YtonkdmjhlaikhaaDoorPu
import Derived.Laws.BitsAllLaws
namespace Go.Ow
set_option linter.unusedSimpArgs false
set_option linter.unusedVariables false
open Go.RowKit
/-- The number at the front: its value, the bytes that it takes, the code. -/
def rdNum : List UInt8 → Nat → Nat → Nat × Nat × Nat
  | [], i, _ => (0, i, 1)
  | x :: l, i, v => if i = 9 ∧ 1 < x.toNat then (0, 0, 2) else if x.toNat < 128 then (if x.toNat = 0 ∧ 0 < i then (0, 0, 3) else (v + x.toNat * 128 ^ i, i + 1, 0)) else rdNum l (i + 1) (v + (x.toNat % 128) * 128 ^ i)
theorem pow_le : ∀ i, i ≤ 9 → 128 ^ i ≤ 9223372036854775808 := by
  intro i h
  exact Nat.le_trans (Nat.pow_le_pow_right (by omega) h) (by decide)
theorem rdNum_code : ∀ (l : List UInt8) (i v : Nat), (rdNum l i v).2.2 ≤ 3
  | [], _, _ => by simp [rdNum]
  | x :: l, i, v => by
    rw [rdNum]
    split
    · simp
    · split
      · split <;> simp
      · exact rdNum_code l _ _
theorem rdNum_len : ∀ (l : List UInt8) (i v : Nat), (rdNum l i v).2.2 = 0 → (rdNum l i v).2.1 ≤ i + l.length
  | [], _, _ => by simp [rdNum]
  | x :: l, i, v => by
    rw [rdNum]
    split
    · simp
    · split
      · split <;> simp
      · intro h
        have := rdNum_len l _ _ h
        simp only [List.length_cons]; omega
theorem rdNum_lt : ∀ (l : List UInt8) (i v : Nat), i ≤ 9 → v < 128 ^ i → (rdNum l i v).1 < 18446744073709551616
  | [], _, _, _, _ => by simp [rdNum]
  | x :: l, i, v, hi, hv => by
    have hp := pow_le i hi
    have hx := UInt8.toNat_lt x
    rw [rdNum]
    split
    · simp
    · rename_i h9
      split
      · split
        · simp
        · simp only
          by_cases h : i = 9
          · have : x.toNat ≤ 1 := by omega
            have h2 : x.toNat * 128 ^ i ≤ 1 * 128 ^ i := Nat.mul_le_mul_right _ this
            omega
          · have h8 : 128 ^ i ≤ 72057594037927936 := Nat.le_trans (Nat.pow_le_pow_right (by omega) (show i ≤ 8 by omega)) (by decide)
            have h2 : x.toNat * 128 ^ i ≤ 127 * 128 ^ i := Nat.mul_le_mul_right _ (by omega)
            omega
      · have h : i ≠ 9 := by rintro rfl; omega
        refine rdNum_lt l (i + 1) _ (by omega) ?_
        have h2 : x.toNat % 128 * 128 ^ i ≤ 127 * 128 ^ i := Nat.mul_le_mul_right _ (by omega)
        rw [Nat.pow_succ]; omega
theorem or_add (v m i : Nat) (hv : v < 128 ^ i) : v ||| (m * 128 ^ i) = v + m * 128 ^ i := by
  have e : 128 ^ i = 2 ^ (7 * i) := by rw [show (128 : Nat) = 2 ^ 7 by rfl, ← Nat.pow_mul]
  rw [e] at hv ⊢
  rw [Nat.or_comm, Nat.mul_comm m, ← Nat.two_pow_add_eq_or_of_lt hv, Nat.add_comm]
theorem and127 (y : Nat) (h : y < 256) : Go.bits .and .u8 (y : Int) 127 = ((y % 128 : Nat) : Int) := by
  have : ∀ m : Fin 256, Go.bits .and .u8 (m.val : Int) 127 = ((m.val % 128 : Nat) : Int) := by decide +kernel
  exact this ⟨y, h⟩
theorem wrap64u (n : Nat) (h : n < 18446744073709551616) : IntKind.u64.wrap (n : Int) = (n : Int) := by simp [IntKind.wrap, IntKind.bits, IntKind.signed]; omega
theorem or_step (m y k : Nat) (hy : y < 256) (hk : k ≤ 9) (h9 : k = 9 → y ≤ 1) (hm : m < 128 ^ k) :
    Go.bits .or .u64 (m : Int) (IntKind.u64.wrap (IntKind.u64.wrap (Go.bits .and .u8 (y : Int) 127) * 2 ^ (7 * k))) = ((m + y % 128 * 128 ^ k : Nat) : Int) := by
  have hp := pow_le k hk
  have hq : y % 128 * 128 ^ k < 18446744073709551616 := by
    by_cases h : k = 9
    · have := h9 h
      have h2 : y % 128 * 128 ^ k ≤ 1 * 128 ^ k := Nat.mul_le_mul_right _ (by omega)
      omega
    · have h8 : 128 ^ k ≤ 72057594037927936 := Nat.le_trans (Nat.pow_le_pow_right (by omega) (show k ≤ 8 by omega)) (by decide)
      have h2 : y % 128 * 128 ^ k ≤ 127 * 128 ^ k := Nat.mul_le_mul_right _ (by omega)
      omega
  have e : ((y % 128 : Nat) : Int) * 2 ^ (7 * k) = ((y % 128 * 128 ^ k : Nat) : Int) := by
    rw [Int.pow_mul, show (2 : Int) ^ 7 = ((128 : Nat) : Int) by rfl]
    simp only [Int.natCast_mul, Int.natCast_pow]
  rw [and127 y hy, wrap64u _ (by omega), e, wrap64u _ hq, u64_or_nat m _ (by omega) hq, or_add _ _ _ hm]
/-! The reference: the bytes are counted first. -/
def cntB : List UInt8 → Nat → Nat
  | [], n => n
  | x :: l, n => if n < 9 ∧ 128 ≤ x.toNat then cntB l (n + 1) else n
def sumB : List UInt8 → Nat → Nat → Nat
  | x :: l, i, n + 1 => x.toNat % 128 * 128 ^ i + sumB l (i + 1) n
  | _, _, _ => 0
def finB (l : List UInt8) (i v j : Nat) : Nat × Nat × Nat :=
  match l[j - i]? with
  | none => (0, j, 1)
  | some x => if j = 9 ∧ 1 < x.toNat then (0, 0, 2) else if 0 < j ∧ x.toNat = 0 then (0, 0, 3) else (v + sumB l i (j + 1 - i), j + 1, 0)
theorem cntB_ge : ∀ (l : List UInt8) (i : Nat), i ≤ cntB l i
  | [], _ => by simp [cntB]
  | x :: l, i => by
    rw [cntB]
    split
    · have := cntB_ge l (i + 1); omega
    · exact Nat.le_refl _
theorem cntB_le : ∀ (l : List UInt8) (i : Nat), i ≤ 9 → cntB l i ≤ 9
  | [], _, h => by simpa [cntB] using h
  | x :: l, i, h => by
    rw [cntB]
    split
    · exact cntB_le l (i + 1) (by omega)
    · exact h
theorem rdNum_cnt : ∀ (l : List UInt8) (i v : Nat), i ≤ 9 → rdNum l i v = finB l i v (cntB l i)
  | [], i, v, _ => by simp [rdNum, cntB, finB]
  | x :: l, i, v, hi => by
    rw [cntB]
    by_cases h : i < 9 ∧ 128 ≤ x.toNat
    · rw [if_pos h, rdNum, if_neg (by omega), if_neg (by omega), rdNum_cnt l (i + 1) _ (by omega)]
      have hg := cntB_ge l (i + 1)
      unfold finB
      have e : (x :: l)[cntB l (i + 1) - i]? = l[cntB l (i + 1) - (i + 1)]? := by
        rw [show cntB l (i + 1) - i = (cntB l (i + 1) - (i + 1)) + 1 by omega, List.getElem?_cons_succ]
      rw [e]
      have e2 : sumB (x :: l) i (cntB l (i + 1) + 1 - i) = x.toNat % 128 * 128 ^ i + sumB l (i + 1) (cntB l (i + 1) + 1 - (i + 1)) := by
        rw [show cntB l (i + 1) + 1 - i = (cntB l (i + 1) + 1 - (i + 1)) + 1 by omega]; rfl
      rw [e2]
      cases l[cntB l (i + 1) - (i + 1)]? with
      | none => rfl
      | some y => simp only [Nat.add_assoc]
    · rw [if_neg h, rdNum]
      unfold finB
      simp only [Nat.sub_self, List.getElem?_cons_zero]
      have e2 : sumB (x :: l) i (i + 1 - i) = x.toNat % 128 * 128 ^ i := by
        rw [show i + 1 - i = 1 by omega]
        cases l <;> simp [sumB]
      rw [e2]
      by_cases h1 : i = 9 ∧ 1 < x.toNat
      · rw [if_pos h1, if_pos h1]
      · rw [if_neg h1, if_neg h1, if_pos (by omega)]
        have hm : x.toNat % 128 = x.toNat := by omega
        rw [hm]
        by_cases h2 : x.toNat = 0 ∧ 0 < i
        · rw [if_pos h2, if_pos (by omega)]
        · rw [if_neg h2, if_neg (by omega)]
end Go.Ow
