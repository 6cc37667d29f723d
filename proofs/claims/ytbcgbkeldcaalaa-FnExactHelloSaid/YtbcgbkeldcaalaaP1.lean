/- PutContext in plain Lean. -/
import Derived.Test.YtbcgbkeldcaalaaL2
import Derived.Test.YtbcgbkeldcaalaaB2
namespace Go.Proofs.Ytbcgbkeldcaalaa
set_option linter.unusedSimpArgs false
set_option linter.unusedVariables false
open Go.RowKit Go.Ow
def spanBytes : Int → List Sp → List UInt8
  | _, [] => []
  | last, s :: l => uv (s.f - last - 2).toNat ++ (uv (s.t - s.f).toNat ++ spanBytes s.t l)
def repBytes (rep : Nat) (l : List Sp) : List UInt8 := if l = [] then [] else uv rep ++ (uv l.length ++ spanBytes (-1) l)
def repsFrom (xs : List Rn) : Nat → Nat → List UInt8
  | 0, _ => []
  | n + 1, k => repBytes k (spansOf xs k) ++ repsFrom xs n (k + 1)
def countFrom (xs : List Rn) : Nat → Nat → Nat
  | 0, _ => 0
  | n + 1, k => (if spansOf xs k = [] then 0 else 1) + countFrom xs n (k + 1)
def ctxBytes (xs : List Rn) : List UInt8 := uv (countFrom xs 8 0) ++ repsFrom xs 8 0
def putCtx (xs : List Rn) : List UInt8 := if ctxOk xs then ctxBytes xs else []
theorem spanBytes_len : ∀ (l : List Sp) (last : Int), (∀ s ∈ l, (s.f - last - 2).toNat < 18446744073709551616 ∧ s.f ≤ 1000000000 ∧ -1 ≤ s.t ∧ (s.t - s.f).toNat < 18446744073709551616) → (spanBytes last l).length ≤ 20 * l.length
  | [], _, _ => by simp [spanBytes]
  | s :: l, last, h => by
    have h1 := h s (by simp)
    have h2 := uv_len10 _ h1.1
    have h3 := uv_len10 _ h1.2.2.2
    have ih := spanBytes_len l s.t (fun u hu => by have := h u (by simp [hu]); exact ⟨by omega, this.2⟩)
    simp only [spanBytes, List.length_append, List.length_cons]
    omega
theorem spans_le (xs : List Rn) (rep : Int) : (spansOf xs rep).length ≤ xs.length := by
  unfold spansOf; rw [List.length_map]; exact List.length_filter_le _ _
theorem ctx_span_bound {xs : List Rn} {rep : Int} (h : ctxOk xs = true) : ∀ s ∈ spansOf xs rep, 1 ≤ s.f ∧ s.f ≤ s.t ∧ s.t ≤ 1000000000 := by
  intro s hs
  obtain ⟨r, hr, rfl⟩ := List.mem_map.1 hs
  have := okPre_bound xs none (by unfold ctxOk at h; simp at h; exact h.1) r (List.mem_filter.1 hr).1
  simp only; omega
theorem ctx_len {xs : List Rn} (h : ctxOk xs = true) : xs.length ≤ 1000 := by unfold ctxOk at h; simp at h; exact h.2
theorem repBytes_len {xs : List Rn} (h : ctxOk xs = true) (k : Nat) (hk : k < 1000) : (repBytes k (spansOf xs k)).length ≤ 20 * xs.length + 20 := by
  unfold repBytes
  split
  · simp
  · have h1 := uv_len10 k (by omega)
    have hl := spans_le xs k
    have h0 := ctx_len h
    have h2 := uv_len10 (spansOf xs k).length (by omega)
    have h3 := spanBytes_len (spansOf xs k) (-1) (fun s hs => by have := ctx_span_bound h s hs; exact ⟨by omega, by omega, by omega, by omega⟩)
    simp only [List.length_append]
    omega
theorem repsFrom_len {xs : List Rn} (h : ctxOk xs = true) : ∀ (n k : Nat), k + n ≤ 8 → (repsFrom xs n k).length ≤ n * 20020
  | 0, _, _ => by simp [repsFrom]
  | n + 1, k, hk => by
    have h1 := repBytes_len h k (by omega)
    have h0 := ctx_len h
    have ih := repsFrom_len h n (k + 1) (by omega)
    simp only [repsFrom, List.length_append, Nat.succ_mul]
    omega
theorem countFrom_le (xs : List Rn) : ∀ (n k : Nat), countFrom xs n k ≤ n
  | 0, _ => by simp [countFrom]
  | n + 1, k => by
    have := countFrom_le xs n (k + 1)
    simp only [countFrom]
    split <;> omega
theorem putCtx_len (xs : List Rn) : (putCtx xs).length ≤ 160170 := by
  unfold putCtx
  split
  · rename_i h
    have h1 := uv_len10 (countFrom xs 8 0) (by have := countFrom_le xs 8 0; omega)
    have h2 := repsFrom_len h 8 0 (by omega)
    simp only [ctxBytes, List.length_append]; omega
  · simp
/-! The cloud's keys. -/
theorem cloud_keys : ∀ (xs : List Rn) (g : List (Int × List Sp)), (g.map (·.1)).Nodup → ((cloud g xs).map (·.1)).Nodup ∧ ∀ a, a ∈ (cloud g xs).map (·.1) ↔ a ∈ g.map (·.1) ∨ a ∈ xs.map (·.r)
  | [], g, h => ⟨h, fun a => by simp [cloud]⟩
  | x :: xs, g, h => by
    have h1 := mput_keys x.r (mget g x.r ++ [⟨x.f, x.t⟩]) g h
    obtain ⟨ih1, ih2⟩ := cloud_keys xs _ h1.1
    refine ⟨ih1, fun a => ?_⟩
    rw [cloud, ih2]
    have h3 : a ∈ (mput g x.r (mget g x.r ++ [⟨x.f, x.t⟩])).map (·.1) ↔ a = x.r ∨ a ∈ g.map (·.1) := by
      refine ⟨h1.2 a, fun h' => ?_⟩
      clear ih1 ih2 h1 h
      generalize mget g x.r ++ [⟨x.f, x.t⟩] = ys
      induction g with
      | nil => simpa [mput] using h'
      | cons p g ihg =>
        simp only [mput]
        by_cases hp : p.1 = x.r
        · rw [if_pos hp]
          rcases h' with h' | h'
          · simp [h']
          · simp only [List.map_cons, List.mem_cons] at h' ⊢
            rcases h' with h' | h'
            · exact .inl (by rw [h', hp])
            · exact .inr h'
        · rw [if_neg hp]
          simp only [List.map_cons, List.mem_cons] at h' ⊢
          rcases h' with h' | h' | h'
          · exact .inr (ihg (.inl h'))
          · exact .inl h'
          · exact .inr (ihg (.inr h'))
    rw [h3, List.map_cons, List.mem_cons]
    constructor
    · rintro ((h | h) | h)
      · exact .inr (.inl h)
      · exact .inl h
      · exact .inr (.inr h)
    · rintro (h | h | h)
      · exact .inl (.inr h)
      · exact .inl (.inl h)
      · exact .inr h
theorem spans_nil (xs : List Rn) (k : Int) : spansOf xs k = [] ↔ k ∉ xs.map (·.r) := by
  unfold spansOf
  rw [List.map_eq_nil_iff, List.filter_eq_nil_iff]
  simp
theorem mhas_iff (g : List (Int × List Sp)) (k : Int) : mhas g k = true ↔ k ∈ g.map (·.1) := by
  unfold mhas; simp only [List.any_eq_true, beq_iff_eq, List.mem_map]
theorem mhas_cloud (xs : List Rn) (k : Int) : mhas (cloud [] xs) k = !decide (spansOf xs k = []) := by
  rw [Bool.eq_iff_iff, mhas_iff, (cloud_keys xs [] (by simp)).2]
  simp [spans_nil]
theorem count_nodup : ∀ (n k : Nat) (l : List Int), l.Nodup → (∀ a ∈ l, (k : Int) ≤ a ∧ a < (k + n : Nat)) → l.length = ((List.range n).filter (fun i => decide (((k + i : Nat) : Int) ∈ l))).length
  | n, k, l, hn, hb => by
    have hm : (l.map fun a : Int => (a - (k : Int)).toNat).Perm ((List.range n).filter (fun i => decide (((k + i : Nat) : Int) ∈ l))) := by
      refine (List.perm_ext_iff_of_nodup ?_ (List.nodup_range.sublist List.filter_sublist)).2 fun i => ?_
      · refine List.Pairwise.map _ ?_ (List.Pairwise.and_mem.1 hn)
        rintro a b ⟨ha, hb', hab⟩ he
        have h1 := hb a ha
        have h2 := hb b hb'
        exact hab (by omega)
      · simp only [List.mem_map, List.mem_filter, List.mem_range, decide_eq_true_eq]
        constructor
        · rintro ⟨a, ha, rfl⟩
          have := hb a ha
          refine ⟨by omega, ?_⟩
          rw [show ((k + (a - (k : Int)).toNat : Nat) : Int) = a by omega]; exact ha
        · rintro ⟨hi, ha⟩
          exact ⟨_, ha, by omega⟩
    rw [← hm.length_eq, List.length_map]
theorem countFrom_filter (xs : List Rn) : ∀ (n k : Nat), countFrom xs n k = ((List.range n).filter (fun i => !decide (spansOf xs ((k + i : Nat) : Int) = []))).length
  | 0, _ => by simp [countFrom]
  | n + 1, k => by
    rw [countFrom, countFrom_filter xs n (k + 1), List.range_succ_eq_map, List.filter_cons]
    have e : ((List.range n).map Nat.succ).filter (fun i => !decide (spansOf xs ((k + i : Nat) : Int) = [])) = ((List.range n).filter (fun i => !decide (spansOf xs ((k + 1 + i : Nat) : Int) = []))).map Nat.succ := by
      rw [List.filter_map]
      congr 1
      refine List.filter_congr fun i _ => ?_
      simp only [Function.comp]
      rw [show k + Nat.succ i = k + 1 + i by omega]
    rw [e]
    by_cases h : spansOf xs (k : Int) = []
    · simp [h]
    · simp [h]; omega
theorem cloud_len (xs : List Rn) (h : ctxOk xs = true) : (cloud [] xs).length = countFrom xs 8 0 := by
  have hk := cloud_keys xs [] (by simp)
  have hb : ∀ a ∈ (cloud [] xs).map (·.1), ((0 : Nat) : Int) ≤ a ∧ a < (0 + 8 : Nat) := by
    intro a ha
    have := (hk.2 a).1 ha
    simp only [List.map_nil, List.not_mem_nil, false_or, List.mem_map] at this
    obtain ⟨r, hr, rfl⟩ := this
    have := okPre_bound xs none (by unfold ctxOk at h; simp at h; exact h.1) r hr
    omega
  have := count_nodup 8 0 _ hk.1 hb
  rw [List.length_map] at this
  rw [this, countFrom_filter]
  congr 1
  refine List.filter_congr fun i _ => ?_
  rw [← mhas_cloud, Bool.eq_iff_iff, mhas_iff]
  simp
end Go.Proofs.Ytbcgbkeldcaalaa
