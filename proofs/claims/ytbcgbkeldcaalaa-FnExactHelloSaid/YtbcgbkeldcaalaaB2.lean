/- PutUvarint, PutText: the program's and the reference's. -/
import Derived.Test.YtbcgbkeldcaalaaB1
import Derived.Outline
import Derived.Test.YtbcgbkeldcaalaaL1
namespace Go.Proofs.Ytbcgbkeldcaalaa
set_option linter.unusedSimpArgs false
set_option linter.unusedVariables false
open Go.RowKit Go.Ow
attribute [local irreducible] wpQuiet
set_option maxRecDepth 100000

def uv (n : Nat) : List UInt8 := if h : n < 128 then [UInt8.ofNat n] else UInt8.ofNat (128 + n % 128) :: uv (n / 128)
termination_by n
decreasing_by omega
theorem uv_len : ∀ (k n : Nat), n < 128 ^ (k + 1) → (uv n).length ≤ k + 1
  | 0, n, h => by rw [uv, dif_pos (by simpa using h)]; simp
  | k + 1, n, h => by
    rw [uv]
    split
    · simp
    · have := uv_len k (n / 128) (by rw [Nat.pow_succ] at h; omega)
      simp; omega
theorem uv_len10 (n : Nat) (h : n < 18446744073709551616) : (uv n).length ≤ 10 := uv_len 9 n (by omega)

theorem specPutUvarint (n : Nat) (w : World) (hn : n < 18446744073709551616) : Calls Try.prog 116 #[.int .u64 n] w fun e w' => ∃ v', e = .returned v' ∧ Own w [.own v' (uv n)] w' := by
  induction n using Nat.strongRecOn generalizing w with
  | ind n ih =>
    have HS := Own.start w
    have IH := Lib.hid ih
    have HN := Lib.hid hn
    clear ih hn
    by_cases h : n < 128
    · rw [uv, dif_pos h]
      have hw : IntKind.u8.wrap (n : Int) = (n : Int) := by have := u8_of n; rw [this]; simp; omega
      go_enter Try.func116, Try.ntmps116
      go_wp2
      go_ret
      exact ⟨_, rfl, HS.lit [UInt8.ofNat n] _ _ rfl (by show [_] = [_]; congr 1; simp; omega) (by simp)⟩
    · rw [uv, dif_neg h]
      have hd : IntKind.u64.wrap ((n : Int) / 128) = ((n / 128 : Nat) : Int) := by have := HN.out; simp [IntKind.wrap, IntKind.bits, IntKind.signed]; omega
      go_enter Try.func116, Try.ntmps116
      go_wp2_with fail
      refine (IH.out (n / 128) (by omega) _ (by have := HN.out; omega)).mono ?_
      rintro e w1 ⟨v', rfl, hs⟩
      have HS1 := ((HS.lit [UInt8.ofNat (128 + n % 128)] #[.int .u8 (128 + (n : Int) % 128)] 5 rfl (by show [_] = [_]; congr 1; simp; omega) (by simp)).call hs).pick 1 rfl
      have hl := uv_len10 (n / 128) (by have := HN.out; omega)
      go_wp2_with (refine wp_app (α := UInt8) rfl _ _ 44 rfl (by kernel_rfl) _ _ HS1 rfl _ _ rfl (HS1.rd 1 rfl) (by show (1 + _) * 1 ≤ _; omega) (by show 1 + _ ≤ _; omega) ?_; clear HS1; intro v2 w2 HS1)
      have HS2 := (HS1.pick 1 rfl).drop
      obtain ⟨A, c, rfl, _, _⟩ := (HS2.rd 0 rfl).val
      go_ret
      exact ⟨_, rfl, HS2⟩
theorem or128 (m : Nat) : Go.bits .or .u8 ((m : Int) % 256) 128 = ((UInt8.ofNat (128 + m % 128)).toNat : Int) := by
  have : ∀ m : Fin 256, Go.bits .or .u8 (m.val : Int) 128 = 128 + (m.val : Int) % 128 := by decide +kernel
  have h := this ⟨m % 256, by omega⟩
  simp only at h
  rw [show ((m : Int) % 256) = ((m % 256 : Nat) : Int) by omega, h]
  simp; omega
theorem implPutUvarint (n : Nat) (w : World) (hn : n < 18446744073709551616) : Calls Try.prog 108 #[.int .u64 n] w fun e w' => ∃ v', e = .returned v' ∧ Own w [.own v' (uv n)] w' := by
  have HS := (Own.start w).lit ([] : List UInt8) #[] 5 rfl rfl (by simp)
  have HN := Lib.hid hn
  have HN2 := Lib.hid (uv_len10 n hn)
  clear hn
  go_enter Try.func108, Try.ntmps108
  go_wp2
  go_loopw [0, 3] (fun x v wr => ∃ (xs : List UInt8) (m : Nat), x = .int .u64 m ∧ uv n = xs ++ uv m ∧ m ≤ n ∧ Own w [.own v xs] wr) (fun x _ _ => (intOf x).toNat)
  case atStart => exact ⟨[], n, rfl, rfl, by omega, HS⟩
  case round =>
    obtain ⟨xs, m, rfl, he, hm, HS'⟩ := hrel
    have HE := Lib.hid he
    clear he HS
    have hl : xs.length ≤ 10 := by have := HN2.out; rw [HE.out] at this; simp at this; omega
    by_cases h : m < 128
    · have HL := (HS'.lit [UInt8.ofNat m] #[.int .u8 (m : Int)] 5 rfl (by show [_] = [_]; congr 1; simp; omega) (by simp)).pick 1 rfl
      have hw : IntKind.u8.wrap (m : Int) = (m : Int) := by have := u8_of m; rw [this]; simp; omega
      have H2 := Lib.hid (show uv m = [UInt8.ofNat m] by rw [uv, dif_pos h])
      go_wp2_with (refine wp_app (α := UInt8) rfl _ _ 44 rfl (by kernel_rfl) _ _ HL rfl _ _ rfl (HL.rd 1 rfl) (by show (_ + 1) * 1 ≤ _; omega) (by show _ + 1 ≤ _; omega) ?_; clear HL; intro v2 w2 HL)
      have HS2 := (HL.pick 1 rfl).drop
      obtain ⟨A, c, rfl, _, _⟩ := (HS2.rd 0 rfl).val
      go_ret
      exact ⟨_, rfl, by rw [HE.out, H2.out]; exact HS2⟩
    · have H2 := Lib.hid (show uv m = UInt8.ofNat (128 + m % 128) :: uv (m / 128) by rw [uv, dif_neg h])
      have HL := (HS'.lit [UInt8.ofNat (128 + m % 128)] #[.int .u8 (Go.bits .or .u8 ((m : Int) % 256) 128)] 5 rfl (by rw [or128]; rfl) (by simp)).pick 1 rfl
      go_wp2_with (refine wp_app (α := UInt8) rfl _ _ 44 rfl (by kernel_rfl) _ _ HL rfl _ _ rfl (HL.rd 1 rfl) (by show (_ + 1) * 1 ≤ _; omega) (by show _ + 1 ≤ _; omega) ?_; clear HL; intro v2 w2 HL)
      have HS2 := (HL.pick 1 rfl).drop
      go_roundw
      case rel => exact ⟨xs ++ [UInt8.ofNat (128 + m % 128)], m / 128, by go_num, by rw [HE.out, H2.out]; simp, by omega, HS2⟩
      case measure => simp [intOf]; omega
def txt (s : ByteArray) : List UInt8 := uv s.size ++ s.data.toList
theorem specPutText (s : ByteArray) (w : World) (hs : s.size ≤ 140737488351232) : Calls Try.prog 101 #[.string s] w fun e w' => ∃ v', e = .returned v' ∧ Own w [.own v' (txt s)] w' := by
  have hl := uv_len10 s.size (by omega)
  have HZ := Lib.hid (size_list s)
  go_enter Try.func101, Try.ntmps101
  go_wp2_with fail
  refine (specPutUvarint s.size w (by omega)).mono ?_
  rintro e w1 ⟨v', rfl, HS⟩
  go_wp2_with (first | (refine wp_conv_bytes (by rfl) _ _ _ (by rfl) Try.underlying9 Try.underlying44 Try.underlying5 HS s rfl (by omega) ?_; clear HS; intro A c w2 HS hb hy) | (refine wp_app (α := UInt8) rfl _ _ 44 rfl (by kernel_rfl) _ _ HS rfl _ _ rfl hy (by rw [HZ.out]; show _ * 1 ≤ _; omega) (by rw [HZ.out]; omega) ?_; clear HS; intro v2 w3 HS))
  obtain ⟨A, c, rfl, _, _⟩ := (HS.rd 0 rfl).val
  go_ret
  exact ⟨_, rfl, HS⟩
theorem implPutText (s : ByteArray) (w : World) (hs : s.size ≤ 140737488351232) : Calls Try.prog 82 #[.string s] w fun e w' => ∃ v', e = .returned v' ∧ Own w [.own v' (txt s)] w' := by
  have hl := uv_len10 s.size (by omega)
  go_enter Try.func82, Try.ntmps82
  go_wp2_with fail
  refine (implPutUvarint s.size w (by omega)).mono ?_
  rintro e w1 ⟨v', rfl, HS⟩
  go_wp2_with (refine wp_app_str rfl _ _ 44 9 rfl Try.underlying44 Try.underlying9 (by kernel_rfl) _ _ HS rfl s rfl (by omega) ?_; clear HS; intro v2 w3 HS)
  obtain ⟨A, c, rfl, _, _⟩ := (HS.rd 0 rfl).val
  go_ret
  exact ⟨_, rfl, HS⟩
end Go.Proofs.Ytbcgbkeldcaalaa
