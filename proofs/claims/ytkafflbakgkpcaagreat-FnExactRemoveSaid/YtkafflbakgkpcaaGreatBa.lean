/- Byte slices: the law's own helpers. PutUvarint, PutText: the program's and the reference's. Numbers put behind bytes. The sum of 32 bits: the program's and the reference's. Frames: what the law and both sides compute. -/
import Derived.Test.YtkafflbakgkpcaaGreatTy
import Derived.Outline
import Derived.Test.YtkafflbakgkpcaaGreatL1
import Derived.Test.YtkafflbakgkpcaaGreatCa
namespace Go.Proofs.YtkafflbakgkpcaaGreat
set_option linter.unusedSimpArgs false
set_option linter.unusedVariables false
open Go.RowKit Go.Ow
attribute [local irreducible] wpQuiet

/-- The bytes k, k + 1, .. -/
def bmarks (n k : Nat) : List UInt8 := (List.range n).map fun i => UInt8.ofNat (k + i)
theorem bmarks_len (n k : Nat) : (bmarks n k).length = n := by simp [bmarks]
theorem bmarks_at (n k i : Nat) (h : i < n) : (bmarks n k)[i]'(by simp [bmarks, h]) = UInt8.ofNat (k + i) := by simp [bmarks]
theorem bmarks_set (xs : List UInt8) (k i : Nat) (h : i < xs.length) : (bmarks i k ++ xs.drop i).set i (UInt8.ofNat (k + i)) = bmarks (i + 1) k ++ xs.drop (i + 1) := by
  rw [List.set_append_right _ _ (by simp [bmarks])]
  rw [bmarks_len, Nat.sub_self, List.drop_eq_getElem_cons h, List.set_cons_zero]
  simp [bmarks, List.range_succ]

end Go.Proofs.YtkafflbakgkpcaaGreat
namespace Go.Proofs.YtkafflbakgkpcaaGreat
set_option linter.unusedSimpArgs false
set_option linter.unusedVariables false
open Go.RowKit Go.Ow
attribute [local irreducible] wpQuiet
set_option maxRecDepth 100000

def uv (n : Nat) : List UInt8 := if h : n < 128 then [UInt8.ofNat n] else UInt8.ofNat (128 + n % 128) :: uv (n / 128)
termination_by n
decreasing_by omega
theorem uv_len : ∀ (k n : Nat), n < 128 ^ (k + 1) → (uv n).length ≤ k + 1
  | 0, n, h => by rw [uv, dif_pos (by simpa using h)]; simp
  | k + 1, n, h => by
    rw [uv]
    split
    · simp
    · have := uv_len k (n / 128) (by rw [Nat.pow_succ] at h; omega)
      simp; omega
theorem uv_len10 (n : Nat) (h : n < 18446744073709551616) : (uv n).length ≤ 10 := uv_len 9 n (by omega)

theorem or128 (m : Nat) : Go.bits .or .u8 ((m : Int) % 256) 128 = ((UInt8.ofNat (128 + m % 128)).toNat : Int) := by
  have : ∀ m : Fin 256, Go.bits .or .u8 (m.val : Int) 128 = 128 + (m.val : Int) % 128 := by decide +kernel
  have h := this ⟨m % 256, by omega⟩
  simp only at h
  rw [show ((m : Int) % 256) = ((m % 256 : Nat) : Int) by omega, h]
  simp; omega
def txt (s : ByteArray) : List UInt8 := uv s.size ++ s.data.toList
end Go.Proofs.YtkafflbakgkpcaaGreat
namespace Go.Proofs.YtkafflbakgkpcaaGreat
set_option linter.unusedSimpArgs false
set_option linter.unusedVariables false
open Go.RowKit Go.Ow
attribute [local irreducible] wpQuiet
set_option maxRecDepth 100000

end Go.Proofs.YtkafflbakgkpcaaGreat
namespace Go.Proofs.YtkafflbakgkpcaaGreat
set_option linter.unusedSimpArgs false
set_option linter.unusedVariables false
open Go.RowKit Go.Ow
attribute [local irreducible] wpQuiet
set_option maxRecDepth 100000

theorem wrap32 (n : Int) (h : 0 ≤ n) (h2 : n < 4294967296) : IntKind.u32.wrap n = n := by simp [IntKind.wrap, IntKind.bits, IntKind.signed]; omega
theorem xor32 (a b : Nat) (ha : a < 4294967296) (hb : b < 4294967296) : bits .xor .u32 (a : Int) (b : Int) = ((a ^^^ b : Nat) : Int) := u32_xor_nat a b ha hb
end Go.Proofs.YtkafflbakgkpcaaGreat
namespace Go.Proofs.YtkafflbakgkpcaaGreat
set_option linter.unusedSimpArgs false
set_option linter.unusedVariables false
open Go.RowKit Go.Ow
attribute [local irreducible] wpQuiet
set_option maxRecDepth 100000

end Go.Proofs.YtkafflbakgkpcaaGreat
