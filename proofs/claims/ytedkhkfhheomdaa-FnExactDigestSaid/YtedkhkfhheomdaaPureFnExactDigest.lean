/- FnExactDigest of the seat: the plain statement behind the row: the program's Digest and the reference's are the same fold. No condition. -/
import Derived.Test.YtedkhkfhheomdaaPFnExactDigestx1
namespace Go.Proofs.Ytedkhkfhheomdaa.Pure
open Go.RowKit Go.Proofs.Ytedkhkfhheomdaa.PFnExactDigest Go.Proofs.YtedkhkfhheomdaaW.PrintWords Go.Proofs.YtedkhkfhheomdaaW.PrintLast

theorem wrap_up {i : Int} {n : Nat} (h0 : 0 ≤ i) (h : i < (n : Int)) (hn : n ≤ 140737488355328) : wrap64 (i + 1) = i + 1 := by
  unfold wrap64; omega

theorem eq_self (l : List Int) (hn : l.length ≤ 140737488355328) (d : Nat) : ∀ (k : Nat) (i : Int), 0 ≤ i → (l.length : Int) - i = d → d < k →
    laws_eqByteS.l0 k l l i = some true := by
  induction d with
  | zero =>
    intro k i h0 hd hk
    obtain ⟨k, rfl⟩ : ∃ m, k = m + 1 := ⟨k - 1, by omega⟩
    simp only [laws_eqByteS.l0]; rw [if_neg (by omega)]
  | succ d ih =>
    intro k i h0 hd hk
    obtain ⟨k, rfl⟩ : ∃ m, k = m + 1 := ⟨k - 1, by omega⟩
    simp only [laws_eqByteS.l0]; rw [if_pos (by omega), if_pos h0, if_pos (by omega), if_pos trivial, wrap_up h0 (by omega) hn]
    exact ih k (i + 1) (by omega) (by omega) (by omega)

theorem rd_eq (l : List Int) (i : Nat) (h : i < l.length) : rd l (i : Int) = l[i] := by
  simp [rd, h]

theorem to_self (l : List Int) (hn : l.length ≤ 140737488355328) (d : Nat) : ∀ (k i : Nat), l.length - i = d → i ≤ l.length → d < k →
    laws_toByteS.l0 k l (l.take i ++ List.replicate (l.length - i) 0) (i : Int) = some l := by
  induction d with
  | zero =>
    intro k i hd hi hk
    obtain ⟨k, rfl⟩ : ∃ m, k = m + 1 := ⟨k - 1, by omega⟩
    have : i = l.length := by omega
    subst this
    simp [laws_toByteS.l0]
  | succ d ih =>
    intro k i hd hi hk
    obtain ⟨k, rfl⟩ : ∃ m, k = m + 1 := ⟨k - 1, by omega⟩
    simp only [laws_toByteS.l0]
    rw [if_pos (by omega), if_pos (by omega), if_pos (by simp; omega), wrap_up (by omega) (n := l.length) (by omega) hn, rd_eq l i (by omega)]
    have e : (l.take i ++ List.replicate (l.length - i) (0 : Int)).set ((i : Int)).toNat l[i] = l.take (i + 1) ++ List.replicate (l.length - (i + 1)) 0 := by
      have hr : l.length - i = (l.length - (i + 1)) + 1 := by omega
      rw [hr, List.replicate_succ, List.set_append_right _ _ (by simp; omega), List.take_succ_eq_append_getElem (by omega)]
      have : ((i : Int)).toNat - (l.take i).length = 0 := by simp; omega
      rw [this, List.set_cons_zero, List.append_assoc]; rfl
    rw [e]
    exact ih k (i + 1) (by omega) (by omega) (by omega)

theorem to_f (l : List Int) (hn : l.length ≤ 140737488351232) (k : Nat) (hk : l.length < k) : laws_toByteS.f k l = some l := by
  unfold laws_toByteS.f
  rw [if_pos (by omega), if_pos (by omega)]
  have := to_self l (by omega) l.length k 0 (by omega) (by omega) hk
  simpa using this

theorem spec_fold (l : List Int) (hn : l.length ≤ 140737488355328) (d : Nat) : ∀ (k : Nat) (i v : Int), 0 ≤ i → (l.length : Int) - i = d → d < k →
    ∃ r, spec_Digest.l0 k l v i = some r ∧ impl_Digest.l0 k v l (l.length : Int) i = some r := by
  induction d with
  | zero =>
    intro k i v h0 hd hk
    obtain ⟨k, rfl⟩ : ∃ m, k = m + 1 := ⟨k - 1, by omega⟩
    refine ⟨v, ?_, ?_⟩
    · simp only [spec_Digest.l0]; rw [if_neg (by omega)]
    · simp only [impl_Digest.l0]; rw [if_neg (by omega)]
  | succ d ih =>
    intro k i v h0 hd hk
    obtain ⟨k, rfl⟩ : ∃ m, k = m + 1 := ⟨k - 1, by omega⟩
    obtain ⟨r, h1, h2⟩ := ih k (i + 1) (IntKind.u64.wrap ((Go.bits .xor .u64 v (IntKind.u64.wrap (rd l i))) * 1099511628211)) (by omega) (by omega) (by omega)
    refine ⟨r, ?_, ?_⟩
    · simp only [spec_Digest.l0]; rw [if_pos (by omega), if_pos h0, wrap_up h0 (by omega) hn]; exact h1
    · simp only [impl_Digest.l0]; rw [if_pos (by omega), if_pos h0, if_pos (by omega), wrap_up h0 (by omega) hn]; exact h2

theorem FnExactDigest : laws_FnExactDigest.Pure := by
  intro l hm hn hw
  refine ⟨l.length + 1, ?_⟩
  have ht := to_f l (by omega) (l.length + 1) (by omega)
  obtain ⟨r, h1, h2⟩ := spec_fold l (by omega) l.length (l.length + 1) 0 14695981039346656037 (by omega) (by omega) (by omega)
  have he := eq_self l (by omega) l.length (l.length + 1) 0 (by omega) (by omega) (by omega)
  have he' : laws_eqByteS.f (l.length + 1) l l = some true := by unfold laws_eqByteS.f; rw [if_pos rfl]; exact he
  have h1' : spec_Digest.f (l.length + 1) l = some r := h1
  have h2' : impl_Digest.f (l.length + 1) l = some r := h2
  unfold laws_FnExactDigest.f
  by_cases c : (l.length : Int) > 1048576
  · rw [if_pos c]
  · rw [if_neg c, ht]; simp only [Option.bind_some]; rw [h1']; simp only [Option.bind_some]; rw [h2']; simp only [Option.bind_some]
    rw [if_pos trivial, he']; simp

end Go.Proofs.Ytedkhkfhheomdaa.Pure
