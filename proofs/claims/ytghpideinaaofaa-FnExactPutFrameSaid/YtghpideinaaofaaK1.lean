/- The sum of 32 bits: the program's and the reference's. -/
import Derived.Test.YtghpideinaaofaaB1
import Derived.Test.YtghpideinaaofaaCr
import Derived.Outline
namespace Go.Proofs.Ytghpideinaaofaa
open Go.RowKit Go.Ow
attribute [local irreducible] wpQuiet
set_option maxRecDepth 100000

theorem wrap32 (n : Int) (h : 0 ≤ n) (h2 : n < 4294967296) : IntKind.u32.wrap n = n := by simp [IntKind.wrap, IntKind.bits, IntKind.signed]; omega
theorem xor32 (a b : Nat) (ha : a < 4294967296) (hb : b < 4294967296) : bits .xor .u32 (a : Int) (b : Int) = ((a ^^^ b : Nat) : Int) := u32_xor_nat a b ha hb
theorem l1Fold (v : Nat) (w : World) (hv : v < 4294967296) : Calls Try.prog 106 #[.int .u32 v] w fun e w' => e = .returned (.int .u32 (cfold 8 v : Nat)) ∧ Below w.heap.size w w' := by
  have HS := Own.start w
  go_enter Try.func106, Try.ntmps106
  go_wp2
  go_loopw [0, 3] (fun x i wr => ∃ k m : Nat, k ≤ 8 ∧ m < 4294967296 ∧ i = .int .i64 k ∧ x = .int .u32 m ∧ cfold 8 v = cfold (8 - k) m ∧ Own w [] wr) (fun _ i _ => 8 - (intOf i).toNat)
  case atStart => exact ⟨0, v, by omega, hv, rfl, rfl, rfl, HS⟩
  case round =>
    obtain ⟨k, m, hk, hm, rfl, rfl, he, HS'⟩ := hrel
    have HE := Lib.hid he
    clear he HS
    by_cases hlt : k < 8
    · have hs : cfold (8 - k) m = cfold (8 - (k + 1)) (cstep m) := by rw [show 8 - k = (8 - (k + 1)) + 1 by omega]; rfl
      have H2 := Lib.hid hs
      have hc := cstep_lt m hm
      clear hs
      have hw : IntKind.u32.wrap ((m : Int) / 2) = ((m / 2 : Nat) : Int) := wrap32 _ (by omega) (by omega)
      by_cases h : m % 2 = 1
      · have hi : (m : Int) % 2 = 1 := by omega
        have hx : bits .xor .u32 ((m / 2 : Nat) : Int) 3988292384 = ((m / 2 ^^^ 3988292384 : Nat) : Int) := xor32 _ 3988292384 (by omega) (by omega)
        have H3 := Lib.hid (show cstep m = m / 2 ^^^ 3988292384 by unfold cstep; rw [if_pos h])
        go_wp2
        go_roundw
        case rel => exact ⟨k + 1, cstep m, by omega, hc, by go_num, by rw [H3.out, ← hx]; go_num, by rw [HE.out, H2.out], HS'⟩
        case measure => simp [intOf]; omega
      · have hi : (m : Int) % 2 = 0 := by omega
        have H3 := Lib.hid (show cstep m = m / 2 by unfold cstep; rw [if_neg h])
        go_wp2
        go_roundw
        case rel => exact ⟨k + 1, cstep m, by omega, hc, by go_num, by rw [H3.out]; go_num, by rw [HE.out, H2.out], HS'⟩
        case measure => simp [intOf]; omega
    · go_wp2
      go_ret
      obtain rfl : k = 8 := by omega
      exact ⟨by rw [HE.out]; rfl, HS'.below⟩
theorem specCrc (xs : List UInt8) (v : Value) (w : World) (hv : Rd w v xs) : Calls Try.prog 36 #[v] w fun e w' => e = .returned (.int .u32 (crun xs 4294967295 ^^^ 4294967295 : Nat)) ∧ Below w.heap.size w w' := by
  obtain ⟨A, c, rfl, hc, hl⟩ := hv.val
  have HS := Own.start w
  go_enter Try.func36, Try.ntmps36
  go_wp2
  go_loopw [3, 4] (fun x i wr => ∃ k m : Nat, k ≤ xs.length ∧ m < 4294967296 ∧ i = .int .i64 k ∧ x = .int .u32 m ∧ crun xs 4294967295 = crun (xs.drop k) m ∧ Own w [] wr) (fun _ i _ => xs.length - (intOf i).toNat)
  case atStart => exact ⟨0, 4294967295, by omega, by omega, rfl, rfl, rfl, HS⟩
  case round =>
    obtain ⟨k, m, hk, hm, rfl, rfl, he, HS'⟩ := hrel
    have HE := Lib.hid he
    clear he HS
    by_cases hlt : k < xs.length
    · obtain ⟨b, o, rfl⟩ := hv.fix (by omega)
      have r0 := By.rd (HS'.old hv) k hlt
      have hb : xs[k].toNat < 256 := UInt8.toNat_lt _
      have hs : crun (xs.drop k) m = crun (xs.drop (k + 1)) (cfold 8 ((m ^^^ xs[k].toNat) % 256) ^^^ m / 256) := by
        rw [List.drop_eq_getElem_cons hlt, crun, cspec _ _ hb]
      have H2 := Lib.hid hs
      have hx : bits .xor .u32 (m : Int) (xs[k].toNat : Int) = ((m ^^^ xs[k].toNat : Nat) : Int) := xor32 _ _ hm (by omega)
      have hc : cfold 8 ((m ^^^ xs[k].toNat) % 256) < 4294967296 := cfold_lt _ _ (by omega)
      have hy : bits .xor .u32 ((cfold 8 ((m ^^^ xs[k].toNat) % 256) : Nat) : Int) ((m / 256 : Nat) : Int) = ((cfold 8 ((m ^^^ xs[k].toNat) % 256) ^^^ m / 256 : Nat) : Int) := xor32 _ _ hc (by omega)
      have hz : cfold 8 ((m ^^^ xs[k].toNat) % 256) ^^^ m / 256 < 4294967296 := Nat.xor_lt_two_pow (n := 32) (by omega) (by omega)
      have hw : IntKind.u32.wrap ((m : Int) / 256) = ((m / 256 : Nat) : Int) := wrap32 _ (by omega) (by omega)
      clear hs
      go_wp2_with (go_at_call 106; refine (l1Fold ((m ^^^ xs[k].toNat) % 256) _ (by omega)).mono ?_; rintro e w2 ⟨rfl, hb2⟩; have HS2 := HS'.of_below hb2)
      go_roundw
      case rel => exact ⟨k + 1, _, by omega, hz, by go_num, by rw [← hy]; go_num, by rw [HE.out, H2.out], HS2⟩
      case measure => simp [intOf]; omega
    · have hy : bits .xor .u32 (m : Int) 4294967295 = ((m ^^^ 4294967295 : Nat) : Int) := xor32 _ 4294967295 hm (by omega)
      go_wp2
      go_ret
      obtain rfl : k = xs.length := by omega
      exact ⟨by rw [HE.out, List.drop_length]; rfl, HS'.below⟩
theorem implCrc (xs : List UInt8) (v : Value) (w : World) (hv : Rd w v xs) : Calls Try.prog 37 #[v] w fun e w' => e = .returned (.int .u32 (crun xs 4294967295 ^^^ 4294967295 : Nat)) ∧ Below w.heap.size w w' := by
  obtain ⟨A, c, rfl, hc, hl⟩ := hv.val
  have HS := Own.start w
  go_enter Try.func37, Try.ntmps37
  go_wp2
  go_loopw [3, 9] (fun x i wr => ∃ k m : Nat, k ≤ xs.length ∧ m < 4294967296 ∧ i = .int .i64 k ∧ x = .int .u32 m ∧ crun xs 4294967295 = crun (xs.drop k) m ∧ Own w [] wr) (fun _ i _ => xs.length - (intOf i).toNat)
  case atStart => exact ⟨0, 4294967295, by omega, by omega, rfl, rfl, rfl, HS⟩
  case round =>
    obtain ⟨k, m, hk, hm, rfl, rfl, he, HS'⟩ := hrel
    have HE := Lib.hid he
    clear he HS
    by_cases hlt : k < xs.length
    · obtain ⟨b, o, rfl⟩ := hv.fix (by omega)
      have r0 := By.rd (HS'.old hv) k hlt
      have hb : xs[k].toNat < 256 := UInt8.toNat_lt _
      have hs : crun (xs.drop k) m = crun (xs.drop (k + 1)) (cfold 8 (m ^^^ xs[k].toNat)) := by
        rw [List.drop_eq_getElem_cons hlt, crun]
      have H2 := Lib.hid hs
      have hx : bits .xor .u32 (m : Int) (xs[k].toNat : Int) = ((m ^^^ xs[k].toNat : Nat) : Int) := xor32 _ _ hm (by omega)
      have hz : m ^^^ xs[k].toNat < 4294967296 := Nat.xor_lt_two_pow (n := 32) (by omega) (by omega)
      clear hs
      go_wp2
      have hz0 := Lib.hid hz
      clear hz hx
      obtain ⟨q, hq⟩ : ∃ q, m ^^^ xs[k].toNat = q := ⟨_, rfl⟩
      have hqz : q < 4294967296 := by rw [← hq]; exact hz0.out
      rw [hq] at H2 ⊢
      clear hz0
      go_loopw [3, 17] (fun x i wr => ∃ j p : Nat, j ≤ 8 ∧ p < 4294967296 ∧ i = .int .i64 j ∧ x = .int .u32 p ∧ cfold 8 q = cfold (8 - j) p ∧ Own w [] wr) (fun _ i _ => 8 - (intOf i).toNat)
      case atStart => exact ⟨0, q, by omega, hqz, rfl, rfl, rfl, HS'⟩
      case round =>
        obtain ⟨j, p, hj, hp, rfl, rfl, he, HS2⟩ := hrel
        have HE2 := Lib.hid he
        clear he HS' r0
        by_cases hj8 : j < 8
        · have hs : cfold (8 - j) p = cfold (8 - (j + 1)) (cstep p) := by rw [show 8 - j = (8 - (j + 1)) + 1 by omega]; rfl
          have H3 := Lib.hid hs
          have hc := cstep_lt p hp
          clear hs
          have ha : bits .and .u32 (p : Int) 1 = ((p % 2 : Nat) : Int) := by
            rw [show (1 : Int) = ((1 : Nat) : Int) by rfl, u32_and_nat p 1 hp (by omega), Nat.and_one_is_mod]
          by_cases h : p % 2 = 1
          · have hi : (p : Int) % 2 = 1 := by omega
            have hx : bits .xor .u32 ((p / 2 : Nat) : Int) 3988292384 = ((p / 2 ^^^ 3988292384 : Nat) : Int) := xor32 _ 3988292384 (by omega) (by omega)
            have H4 := Lib.hid (show cstep p = p / 2 ^^^ 3988292384 by unfold cstep; rw [if_pos h])
            go_wp2
            go_roundw
            case rel => exact ⟨j + 1, cstep p, by omega, hc, by go_num, by rw [H4.out, ← hx]; go_num, by rw [HE2.out, H3.out], HS2⟩
            case measure => simp [intOf]; omega
          · have hi : (p : Int) % 2 = 0 := by omega
            have H4 := Lib.hid (show cstep p = p / 2 by unfold cstep; rw [if_neg h])
            go_wp2
            go_roundw
            case rel => exact ⟨j + 1, cstep p, by omega, hc, by go_num, by rw [H4.out]; go_num, by rw [HE2.out, H3.out], HS2⟩
            case measure => simp [intOf]; omega
        · go_wp2
          go_roundw
          obtain rfl : j = 8 := by omega
          case rel => exact ⟨k + 1, p, by omega, hp, by go_num, by go_num, by rw [HE.out, H2.out, HE2.out]; rfl, HS2⟩
          case measure => simp [intOf]; omega
    · have hy : bits .xor .u32 (m : Int) 4294967295 = ((m ^^^ 4294967295 : Nat) : Int) := xor32 _ 4294967295 hm (by omega)
      go_wp2
      go_ret
      obtain rfl : k = xs.length := by omega
      exact ⟨by rw [HE.out, List.drop_length, show crun [] m = m by rfl, Nat.xor_comm, ← xor32 4294967295 m (by omega) hm]; rfl, HS'.below⟩
end Go.Proofs.Ytghpideinaaofaa
