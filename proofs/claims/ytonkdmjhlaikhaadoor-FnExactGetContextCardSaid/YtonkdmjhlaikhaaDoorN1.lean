/- Numbers: what is written is read, and what is read was written. -/
import Derived.Test.YtonkdmjhlaikhaaDoorB2
import Derived.Test.YtonkdmjhlaikhaaDoorRn1
namespace Go.Proofs.YtonkdmjhlaikhaaDoor
set_option linter.unusedSimpArgs false
set_option linter.unusedVariables false
open Go.RowKit Go.Ow
theorem uv_lo {n : Nat} (h : n < 128) : uv n = [UInt8.ofNat n] := by rw [uv, dif_pos h]
theorem uv_hi {n : Nat} (h : ¬ n < 128) : uv n = UInt8.ofNat (128 + n % 128) :: uv (n / 128) := by rw [uv, dif_neg h]
theorem uv_pos (n : Nat) : 0 < (uv n).length := by
  by_cases h : n < 128
  · simp [uv_lo h]
  · simp [uv_hi h]
theorem rd_put (l : List UInt8) : ∀ (n i v : Nat), n * 128 ^ i < 18446744073709551616 → i ≤ 9 → (0 < i → 0 < n) → rdNum (uv n ++ l) i v = (v + n * 128 ^ i, i + (uv n).length, 0) := by
  intro n
  induction n using Nat.strongRecOn with
  | _ n ih =>
    intro i v hn hi h0
    by_cases h : n < 128
    · have e : (UInt8.ofNat n).toNat = n := by simp; omega
      have h9 : ¬ (i = 9 ∧ 1 < n) := by
        rintro ⟨rfl, h1⟩
        have : 2 * 128 ^ 9 ≤ n * 128 ^ 9 := Nat.mul_le_mul_right _ h1
        have e2 : 2 * 128 ^ 9 = 18446744073709551616 := by decide
        omega
      rw [uv_lo h, List.cons_append, List.nil_append, rdNum, e, if_neg h9, if_pos h, if_neg (by omega)]
      rfl
    · have e : (UInt8.ofNat (128 + n % 128)).toNat = 128 + n % 128 := by simp; omega
      have h8 : i ≠ 9 := by
        rintro rfl
        have : 128 * 128 ^ 9 ≤ n * 128 ^ 9 := Nat.mul_le_mul_right _ (by omega)
        have e2 : 128 * 128 ^ 9 = 1180591620717411303424 := by decide
        omega
      have hs : n / 128 * 128 ^ (i + 1) + n % 128 * 128 ^ i = n * 128 ^ i := by
        rw [Nat.pow_succ, Nat.mul_comm (128 ^ i) 128, ← Nat.mul_assoc, ← Nat.add_mul]
        congr 1; omega
      rw [uv_hi h, List.cons_append, rdNum, e, if_neg (by omega), if_neg (by omega), ih (n / 128) (by omega) (i + 1) _ (by omega) (by omega) (by omega)]
      have e3 : (128 + n % 128) % 128 = n % 128 := by omega
      rw [e3, List.length_cons]
      refine Prod.ext ?_ (Prod.ext ?_ rfl)
      · show v + n % 128 * 128 ^ i + n / 128 * 128 ^ (i + 1) = v + n * 128 ^ i
        omega
      · show i + 1 + _ = i + (_ + 1)
        omega
theorem rd_uv (n : Nat) (l : List UInt8) (h : n < 18446744073709551616) : rdNum (uv n ++ l) 0 0 = (n, (uv n).length, 0) := by
  rw [rd_put l n 0 0 (by omega) (by omega) (by omega)]; simp
theorem put_rd : ∀ (l : List UInt8) (i v : Nat), i ≤ 9 → (rdNum l i v).2.2 = 0 → ∃ n, (rdNum l i v).1 = v + n * 128 ^ i ∧ (rdNum l i v).2.1 = i + (uv n).length ∧ l.take (uv n).length = uv n ∧ (0 < i → 0 < n)
  | [], _, _, _, h => by simp [rdNum] at h
  | x :: l, i, v, hi, h => by
    rw [rdNum] at h ⊢
    split at h
    · cases h
    · rename_i h9
      rw [if_neg h9]
      split at h
      · rename_i h128
        rw [if_pos h128]
        split at h
        · cases h
        · rename_i h0
          rw [if_neg h0]
          refine ⟨x.toNat, rfl, by rw [uv_lo h128]; rfl, by rw [uv_lo h128]; simp, fun hi0 => by omega⟩
      · rename_i h128
        rw [if_neg h128]
        have hx := UInt8.toNat_lt x
        obtain ⟨n, e1, e2, e3, e4⟩ := put_rd l (i + 1) _ (by omega) h
        have hn0 := e4 (by omega)
        have hq : ¬ (x.toNat % 128 + n * 128) < 128 := by omega
        have hu : uv (x.toNat % 128 + n * 128) = x :: uv n := by
          rw [uv_hi hq]
          congr 1
          · apply UInt8.toNat_inj.1
            simp; omega
          · congr 1; omega
        refine ⟨x.toNat % 128 + n * 128, ?_, by rw [e2, hu, List.length_cons]; omega, by rw [hu, List.length_cons, List.take_succ_cons, e3], fun _ => by omega⟩
        rw [e1, Nat.pow_succ, Nat.add_mul, Nat.mul_assoc n 128, Nat.mul_comm 128 (128 ^ i)]
        omega
theorem rd_is_uv (l : List UInt8) (h : (rdNum l 0 0).2.2 = 0) : (rdNum l 0 0).2.1 = (uv (rdNum l 0 0).1).length ∧ l.take (uv (rdNum l 0 0).1).length = uv (rdNum l 0 0).1 := by
  obtain ⟨n, e1, e2, e3, _⟩ := put_rd l 0 0 (by omega) h
  have : (rdNum l 0 0).1 = n := by rw [e1]; simp
  rw [this]
  exact ⟨by omega, e3⟩
end Go.Proofs.YtonkdmjhlaikhaaDoor
