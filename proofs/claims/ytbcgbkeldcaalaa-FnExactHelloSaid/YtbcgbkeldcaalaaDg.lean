/- Digest: the program's and the reference's. -/
import Derived.Test.YtbcgbkeldcaalaaB2
namespace Go.Proofs.Ytbcgbkeldcaalaa
set_option linter.unusedSimpArgs false
set_option linter.unusedVariables false
open Go.RowKit Go.Ow
attribute [local irreducible] wpQuiet
set_option maxRecDepth 100000
def dg1 (v : Int) (x : UInt8) : Int := IntKind.u64.wrap (Go.bits .xor .u64 v (IntKind.u64.wrap (x.toNat : Int)) * 1099511628211)
def dgs (xs : List UInt8) : Int := xs.foldl dg1 14695981039346656037
theorem u64_range (v : Int) : 0 ≤ IntKind.u64.wrap v ∧ IntKind.u64.wrap v < 18446744073709551616 := by
  simp only [IntKind.wrap, IntKind.bits, IntKind.signed]
  simp; omega
theorem dgs_range (xs : List UInt8) : 0 ≤ dgs xs ∧ dgs xs < 18446744073709551616 := by
  unfold dgs
  have : ∀ (l : List UInt8) (v : Int), 0 ≤ v ∧ v < 18446744073709551616 → 0 ≤ l.foldl dg1 v ∧ l.foldl dg1 v < 18446744073709551616 := by
    intro l
    induction l with
    | nil => intro v h; exact h
    | cons x l ih => intro v _; exact ih _ (u64_range _)
  exact this xs _ ⟨by decide, by decide⟩
theorem dg_snoc (xs : List UInt8) (k : Nat) (h : k < xs.length) : (xs.take (k + 1)).foldl dg1 14695981039346656037 = dg1 ((xs.take k).foldl dg1 14695981039346656037) xs[k] := by
  rw [List.take_succ_eq_append_getElem h, List.foldl_append]; rfl
theorem implDigest (xs : List UInt8) (v : Value) (w : World) (hv : Rd w v xs) : Calls Try.prog 56 #[v] w fun e w' => e = .returned (.int .u64 (dgs xs)) ∧ Below w.heap.size w w' := by
  obtain ⟨A, c, rfl, hc, hl⟩ := hv.val
  have HS := Own.start w
  go_enter Try.func56, Try.ntmps56
  go_wp2
  go_loopw [3, 8] (fun u i wr => ∃ (k : Nat) (z : Int), k ≤ xs.length ∧ i = .int .i64 k ∧ u = .int .u64 z ∧ Hid (z = (xs.take k).foldl dg1 14695981039346656037) ∧ Own w [] wr) (fun _ i _ => xs.length - (intOf i).toNat)
  case atStart => exact ⟨0, _, by omega, rfl, rfl, Lib.hid (by simp only [List.take_zero, List.foldl_nil]), HS⟩
  case round =>
    obtain ⟨k, z, hk, rfl, rfl, HZ, HS'⟩ := hrel
    by_cases hlt : k < xs.length
    · obtain ⟨b, o, rfl⟩ := hv.fix (by omega)
      have r0 := By.rd (HS'.old hv) k hlt
      have HN := Lib.hid (dg_snoc xs k hlt)
      obtain ⟨x, hx⟩ : ∃ x, xs[k] = x := ⟨_, rfl⟩
      rw [hx] at r0 HN
      clear hx
      go_wp2
      go_roundw
      case rel => exact ⟨k + 1, dg1 z x, by omega, by go_num, rfl, Lib.hid (by rw [HN.out, HZ.out]), HS'⟩
      case measure => simp [intOf]; omega
    · obtain rfl : k = xs.length := by omega
      have HQ := Lib.hid (show dgs xs = z by unfold dgs; rw [HZ.out, List.take_length])
      go_wp2
      go_ret
      exact ⟨by rw [HQ.out]; rfl, HS'.below⟩
theorem specDigest (xs : List UInt8) (v : Value) (w : World) (hv : Rd w v xs) : Calls Try.prog 86 #[v] w fun e w' => e = .returned (.int .u64 (dgs xs)) ∧ Below w.heap.size w w' := by
  obtain ⟨A, c, rfl, hc, hl⟩ := hv.val
  have HS := Own.start w
  go_enter Try.func86, Try.ntmps86
  go_wp2
  go_loopw [3, 4] (fun u i wr => ∃ (k : Nat) (z : Int), k ≤ xs.length ∧ i = .int .i64 k ∧ u = .int .u64 z ∧ Hid (z = (xs.take k).foldl dg1 14695981039346656037) ∧ Own w [] wr) (fun _ i _ => xs.length - (intOf i).toNat)
  case atStart => exact ⟨0, _, by omega, rfl, rfl, Lib.hid (by simp only [List.take_zero, List.foldl_nil]), HS⟩
  case round =>
    obtain ⟨k, z, hk, rfl, rfl, HZ, HS'⟩ := hrel
    by_cases hlt : k < xs.length
    · obtain ⟨b, o, rfl⟩ := hv.fix (by omega)
      have r0 := By.rd (HS'.old hv) k hlt
      have HN := Lib.hid (dg_snoc xs k hlt)
      obtain ⟨x, hx⟩ : ∃ x, xs[k] = x := ⟨_, rfl⟩
      rw [hx] at r0 HN
      clear hx
      go_wp2
      go_roundw
      case rel => exact ⟨k + 1, dg1 z x, by omega, by go_num, rfl, Lib.hid (by rw [HN.out, HZ.out]), HS'⟩
      case measure => simp [intOf]; omega
    · obtain rfl : k = xs.length := by omega
      have HQ := Lib.hid (show dgs xs = z by unfold dgs; rw [HZ.out, List.take_length])
      go_wp2
      go_ret
      exact ⟨by rw [HQ.out]; rfl, HS'.below⟩
end Go.Proofs.Ytbcgbkeldcaalaa
