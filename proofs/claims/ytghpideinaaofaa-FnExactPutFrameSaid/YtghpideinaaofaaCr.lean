/- The sum of 32 bits, in plain numbers. -/
import Derived.Laws.BitsAllLaws
namespace Go.Ow
def cstep (v : Nat) : Nat := if v % 2 = 1 then v / 2 ^^^ 3988292384 else v / 2
def cfold : Nat → Nat → Nat
  | 0, v => v
  | k + 1, v => cfold k (cstep v)
theorem cstep_xor (a b : Nat) : cstep (a ^^^ b) = cstep a ^^^ cstep b := by
  unfold cstep
  rw [Nat.xor_div_two]
  have h := Nat.xor_mod_two_eq_one (a := a) (b := b)
  by_cases ha : a % 2 = 1 <;> by_cases hb : b % 2 = 1 <;> simp [ha, hb] at h ⊢
  · rw [Nat.xor_assoc, Nat.xor_comm 3988292384, Nat.xor_assoc, Nat.xor_self, Nat.xor_zero]
  · rw [Nat.xor_assoc, Nat.xor_comm _ 3988292384, ← Nat.xor_assoc]
  · rw [Nat.xor_assoc]
theorem cfold_xor : ∀ (k a b : Nat), cfold k (a ^^^ b) = cfold k a ^^^ cfold k b
  | 0, _, _ => rfl
  | k + 1, a, b => by rw [cfold, cstep_xor, cfold_xor k]; rfl
theorem cfold_two : ∀ (k m : Nat), cfold k (2 ^ k * m) = m
  | 0, m => by simp [cfold]
  | k + 1, m => by
    have e : 2 ^ (k + 1) * m = 2 * (2 ^ k * m) := by rw [Nat.pow_succ, Nat.mul_comm (2 ^ k) 2, Nat.mul_assoc]
    have h : cstep (2 ^ (k + 1) * m) = 2 ^ k * m := by unfold cstep; rw [e, if_neg (by omega)]; omega
    rw [cfold, h, cfold_two k m]
theorem split256 (u : Nat) : u = (u % 256) ^^^ (2 ^ 8 * (u / 256)) := by
  apply Nat.eq_of_testBit_eq
  intro i
  rw [Nat.testBit_xor, show (256 : Nat) = 2 ^ 8 by rfl, Nat.testBit_mod_two_pow, Nat.testBit_two_pow_mul, Nat.testBit_div_two_pow]
  by_cases h : i < 8
  · simp [h, show ¬ 8 ≤ i by omega]
  · have : 8 ≤ i := by omega
    simp [h, this]
theorem cfold_split (u : Nat) : cfold 8 u = cfold 8 (u % 256) ^^^ u / 256 := by
  conv => lhs; rw [split256 u]
  rw [cfold_xor, cfold_two]
theorem xor_div256 (v x : Nat) (hx : x < 256) : (v ^^^ x) / 256 = v / 256 := by
  rw [show (256 : Nat) = 2 ^ 8 by rfl, Nat.xor_div_two_pow, Nat.div_eq_of_lt (a := x) (by omega), Nat.xor_zero]
theorem cspec (v x : Nat) (hx : x < 256) : cfold 8 ((v ^^^ x) % 256) ^^^ v / 256 = cfold 8 (v ^^^ x) := by
  rw [cfold_split (v ^^^ x), xor_div256 v x hx]
theorem cstep_lt (v : Nat) (h : v < 4294967296) : cstep v < 4294967296 := by
  unfold cstep
  split
  · exact Nat.xor_lt_two_pow (n := 32) (by omega) (by omega)
  · omega
theorem cfold_lt : ∀ (k v : Nat), v < 4294967296 → cfold k v < 4294967296
  | 0, _, h => h
  | k + 1, v, h => cfold_lt k _ (cstep_lt v h)
/-- The sum so far. -/
def crun : List UInt8 → Nat → Nat
  | [], v => v
  | x :: l, v => crun l (cfold 8 (v ^^^ x.toNat))
theorem xor_top (v : Nat) (h : v < 4294967296) : v ^^^ 4294967295 = 4294967295 - v := by
  have := Nat.xor_lt_two_pow (x := v) (y := 4294967295) (n := 32) (by omega) (by omega)
  apply Nat.eq_of_testBit_eq
  intro i
  rw [show (4294967295 : Nat) - v = 2 ^ 32 - (v + 1) by omega, Nat.testBit_two_pow_sub_succ (by omega), Nat.testBit_xor, show (4294967295 : Nat) = 2 ^ 32 - 1 by rfl, Nat.testBit_two_pow_sub_one]
  by_cases h2 : i < 32
  · simp [h2]
  · simp [h2]
    exact Nat.testBit_lt_two_pow (by have := Nat.pow_le_pow_right (n := 2) (by omega) (show 32 ≤ i by omega); omega)
end Go.Ow
