/- FnNumbers: what is read of what is put. -/
import Derived.Test.YtonkdmjhlaikhaaDoorN1
import Derived.Test.YtonkdmjhlaikhaaDoorE10
namespace Go.Proofs.YtonkdmjhlaikhaaDoor
set_option linter.unusedSimpArgs false
set_option linter.unusedVariables false
open Go.RowKit Go.Ow
theorem uv_lt64 {n : Nat} (h : n < 18446744073709551616) : (uv n).length ≤ 10 := uv_len10 n h
theorem getUv_put (hd : List UInt8) (n : Nat) (hn : n < 18446744073709551616) : getUv (hd ++ uv n) (hd.length : Int) = (n, ((hd ++ uv n).length : Int), 0) := by
  have e : rdNum ((hd ++ uv n).drop hd.length) 0 0 = (n, (uv n).length, 0) := by
    rw [List.drop_left]
    have := rd_uv n [] hn
    rwa [List.append_nil] at this
  unfold getUv
  rw [if_neg (by rw [List.length_append]; omega), Int.toNat_natCast, e, if_pos rfl, List.length_append]
  simp
theorem rdTxt_put (hd : List UInt8) (s : ByteArray) (hs : s.size < 18446744073709551616) (most : Int) :
    rdTxt (hd ++ txt s) hd.length most = if most < (s.size : Int) then (ByteArray.empty, 0, 4) else (s, (hd ++ txt s).length, 0) := by
  have hz := size_list s
  have e : rdNum ((hd ++ txt s).drop hd.length) 0 0 = (s.size, (uv s.size).length, 0) := by
    rw [List.drop_left]; exact rd_uv s.size _ hs
  have hl : (hd ++ txt s).length = hd.length + ((uv s.size).length + s.size) := by simp [txt, hz]
  unfold rdTxt
  rw [e]
  simp only [if_true]
  by_cases h : most < (s.size : Int)
  · rw [if_pos h, if_pos (.inr h)]
  · rw [if_neg h, if_neg (by omega), if_neg (by rw [hl]; omega)]
    refine Prod.ext ?_ (Prod.ext ?_ rfl)
    · show (⟨((( hd ++ txt s).drop (hd.length + (uv s.size).length)).take s.size).toArray⟩ : ByteArray) = s
      have e2 : (hd ++ txt s).drop (hd.length + (uv s.size).length) = s.data.toList := by
        rw [← List.drop_drop, List.drop_left]; unfold txt; rw [List.drop_left]
      rw [e2, List.take_of_length_le (by rw [hz]; exact Nat.le_refl _)]

    · show hd.length + (uv s.size).length + s.size = (hd ++ txt s).length
      rw [hl]; omega
theorem getTx_put (hd : List UInt8) (s : ByteArray) (hs : s.size < 18446744073709551616) : getTx (hd ++ txt s) (hd.length : Int) (s.size : Int) = (s, ((hd ++ txt s).length : Int), 0) := by
  unfold getTx
  have e := rdTxt_put hd s hs (s.size : Int)
  rw [if_neg (by omega)] at e
  rw [if_neg (by rw [List.length_append]; omega), Int.toNat_natCast, e]
  rfl
theorem getTx_short (hd : List UInt8) (s : ByteArray) (hs : s.size < 18446744073709551616) : getTx (hd ++ txt s) (hd.length : Int) ((s.size : Int) - 1) = (ByteArray.empty, (hd.length : Int), 4) := by
  unfold getTx
  have e := rdTxt_put hd s hs ((s.size : Int) - 1)
  rw [if_pos (by omega)] at e
  rw [if_neg (by rw [List.length_append]; omega), Int.toNat_natCast, e]
  rfl
theorem getUv_is_put (bs : List UInt8) (pos : Int) (h : (getUv bs pos).2.2 = 0) :
    ∃ p q : Nat, pos = p ∧ (getUv bs pos).2.1 = q ∧ p ≤ q ∧ q ≤ bs.length ∧ (getUv bs pos).1 < 18446744073709551616 ∧ (bs.drop p).take (q - p) = uv (getUv bs pos).1 := by
  unfold getUv at h ⊢
  split at h
  · cases h
  · rename_i h1
    rw [if_neg h1]
    split at h
    · rename_i h2
      rw [if_pos h2]
      obtain ⟨e1, e2⟩ := rd_is_uv _ h2
      have hl := rdNum_len _ 0 0 h2
      rw [List.length_drop] at hl
      refine ⟨pos.toNat, pos.toNat + (rdNum (bs.drop pos.toNat) 0 0).2.1, by omega, by show pos + _ = _; omega, by omega, by omega, rdNum_lt _ 0 0 (by omega) (by simp), ?_⟩
      rw [Nat.add_sub_cancel_left, e1]; exact e2
    · rename_i h2
      exact absurd h h2
end Go.Proofs.YtonkdmjhlaikhaaDoor
