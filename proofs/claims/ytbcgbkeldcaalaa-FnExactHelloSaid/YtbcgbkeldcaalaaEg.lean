/- Eight bytes of a number, as the reference writes them. -/
import Derived.Test.YtbcgbkeldcaalaaDg
namespace Go.Proofs.Ytbcgbkeldcaalaa
set_option linter.unusedSimpArgs false
set_option linter.unusedVariables false
open Go.RowKit Go.Ow
attribute [local irreducible] wpQuiet
set_option maxRecDepth 100000
def e8 (n : Nat) : Nat → List UInt8
  | 0 => []
  | k + 1 => UInt8.ofNat (n / 256 ^ k % 256) :: e8 n k
theorem e8_len (n : Nat) : ∀ k, (e8 n k).length = k
  | 0 => rfl
  | k + 1 => by simp [e8, e8_len n k]
theorem l6Eight (n : Nat) (hn : n < 18446744073709551616) (w : World) : Calls Try.prog 54 #[.int .u64 n] w fun e w' => ∃ v, e = .returned v ∧ Own w [.own v (e8 n 8)] w' := by
  have HS := (Own.start w).lit ([] : List UInt8) #[] 5 rfl rfl (by simp)
  have HN := Lib.hid hn
  clear hn
  go_enter Try.func54, Try.ntmps54
  go_wp2
  go_loopw [0, 3, 4] (fun v s i wr => ∃ (k m : Nat), k ≤ 8 ∧ i = .int .i64 k ∧ v = .int .u64 m ∧ m < 18446744073709551616 ∧ Hid (m = n / 256 ^ k) ∧ Own w [.own s (e8 n k)] wr) (fun _ _ i _ => 8 - (intOf i).toNat)
  case atStart => exact ⟨0, n, by omega, rfl, rfl, HN.out, Lib.hid (by simp), HS⟩
  case round =>
    obtain ⟨k, m, hk, rfl, rfl, hm, HM, HS'⟩ := hrel
    clear HS
    have HL8 := Lib.hid (e8_len n k)
    by_cases hlt : k < 8
    · have HL := HS'.lit [UInt8.ofNat (m % 256)] #[.int .u8 ((m : Int) % 256)] 5 rfl (by show [_] = [_]; congr 1; simp) (by simp)
      have hw : IntKind.u8.wrap ((m : Int) % 256) = (m : Int) % 256 := by simp [IntKind.wrap, IntKind.bits, IntKind.signed]
      have hd : IntKind.u64.wrap ((m : Int) / 256) = ((m / 256 : Nat) : Int) := by simp [IntKind.wrap, IntKind.bits, IntKind.signed]; omega
      have HX := Lib.hid (show [UInt8.ofNat (m % 256)] ++ e8 n k = e8 n (k + 1) by rw [e8, HM.out]; simp)
      have HY := Lib.hid (show m / 256 = n / 256 ^ (k + 1) by rw [HM.out, Nat.div_div_eq_div_mul, Nat.pow_succ])
      go_wp2_with (refine wp_app (α := UInt8) rfl _ _ 44 rfl (by kernel_rfl) _ _ HL rfl _ _ rfl (HL.rd 1 rfl) (by rw [HL8.out]; exact (by omega : (1 + k) * 1 ≤ 140737488355328)) (by rw [HL8.out]; show 1 + _ ≤ _; omega) ?_; clear HL; intro v2 w2 HL)
      have HS2 := (HL.pick 1 rfl).drop
      rw [HX.out] at HS2
      obtain ⟨A, c, rfl, _, _⟩ := (HS2.rd 0 rfl).val
      go_roundw
      case rel => exact ⟨k + 1, m / 256, by omega, by go_num, by go_num, by omega, Lib.hid HY.out, HS2⟩
      case measure => simp [intOf]; omega
    · obtain rfl : k = 8 := by omega
      obtain ⟨A, c, rfl, _, _⟩ := (HS'.rd 0 rfl).val
      go_wp2
      go_ret
      exact ⟨_, rfl, HS'⟩
end Go.Proofs.Ytbcgbkeldcaalaa
