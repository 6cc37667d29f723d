/- PutContext in plain Lean. PutContext: the reference. The bytes of a state, in plain Lean. The reference's kinds and groups of leaves. PutState: the reference's tree of bytes. -/
import Derived.Test.YtkafflbakgkpcaaGreatL2
import Derived.Test.YtkafflbakgkpcaaGreatBa
import Derived.Test.YtkafflbakgkpcaaGreatL1
import Derived.Test.YtkafflbakgkpcaaGreatCa
import Derived.Test.YtkafflbakgkpcaaGreatHa
namespace Go.Proofs.YtkafflbakgkpcaaGreat
set_option linter.unusedSimpArgs false
set_option linter.unusedVariables false
open Go.RowKit Go.Ow
def spanBytes : Int → List Sp → List UInt8
  | _, [] => []
  | last, s :: l => uv (s.f - last - 2).toNat ++ (uv (s.t - s.f).toNat ++ spanBytes s.t l)
def repBytes (rep : Nat) (l : List Sp) : List UInt8 := if l = [] then [] else uv rep ++ (uv l.length ++ spanBytes (-1) l)
def repsFrom (xs : List Rn) : Nat → Nat → List UInt8
  | 0, _ => []
  | n + 1, k => repBytes k (spansOf xs k) ++ repsFrom xs n (k + 1)
def countFrom (xs : List Rn) : Nat → Nat → Nat
  | 0, _ => 0
  | n + 1, k => (if spansOf xs k = [] then 0 else 1) + countFrom xs n (k + 1)
def ctxBytes (xs : List Rn) : List UInt8 := uv (countFrom xs 8 0) ++ repsFrom xs 8 0
def putCtx (xs : List Rn) : List UInt8 := if ctxOk xs then ctxBytes xs else []
theorem spanBytes_len : ∀ (l : List Sp) (last : Int), (∀ s ∈ l, (s.f - last - 2).toNat < 18446744073709551616 ∧ s.f ≤ 1000000000 ∧ -1 ≤ s.t ∧ (s.t - s.f).toNat < 18446744073709551616) → (spanBytes last l).length ≤ 20 * l.length
  | [], _, _ => by simp [spanBytes]
  | s :: l, last, h => by
    have h1 := h s (by simp)
    have h2 := uv_len10 _ h1.1
    have h3 := uv_len10 _ h1.2.2.2
    have ih := spanBytes_len l s.t (fun u hu => by have := h u (by simp [hu]); exact ⟨by omega, this.2⟩)
    simp only [spanBytes, List.length_append, List.length_cons]
    omega
theorem spans_le (xs : List Rn) (rep : Int) : (spansOf xs rep).length ≤ xs.length := by
  unfold spansOf; rw [List.length_map]; exact List.length_filter_le _ _
theorem ctx_span_bound {xs : List Rn} {rep : Int} (h : ctxOk xs = true) : ∀ s ∈ spansOf xs rep, 1 ≤ s.f ∧ s.f ≤ s.t ∧ s.t ≤ 1000000000 := by
  intro s hs
  obtain ⟨r, hr, rfl⟩ := List.mem_map.1 hs
  have := okPre_bound xs none (by unfold ctxOk at h; simp at h; exact h.1) r (List.mem_filter.1 hr).1
  simp only; omega
theorem ctx_len {xs : List Rn} (h : ctxOk xs = true) : xs.length ≤ 1000 := by unfold ctxOk at h; simp at h; exact h.2
theorem repBytes_len {xs : List Rn} (h : ctxOk xs = true) (k : Nat) (hk : k < 1000) : (repBytes k (spansOf xs k)).length ≤ 20 * xs.length + 20 := by
  unfold repBytes
  split
  · simp
  · have h1 := uv_len10 k (by omega)
    have hl := spans_le xs k
    have h0 := ctx_len h
    have h2 := uv_len10 (spansOf xs k).length (by omega)
    have h3 := spanBytes_len (spansOf xs k) (-1) (fun s hs => by have := ctx_span_bound h s hs; exact ⟨by omega, by omega, by omega, by omega⟩)
    simp only [List.length_append]
    omega
theorem repsFrom_len {xs : List Rn} (h : ctxOk xs = true) : ∀ (n k : Nat), k + n ≤ 8 → (repsFrom xs n k).length ≤ n * 20020
  | 0, _, _ => by simp [repsFrom]
  | n + 1, k, hk => by
    have h1 := repBytes_len h k (by omega)
    have h0 := ctx_len h
    have ih := repsFrom_len h n (k + 1) (by omega)
    simp only [repsFrom, List.length_append, Nat.succ_mul]
    omega
theorem countFrom_le (xs : List Rn) : ∀ (n k : Nat), countFrom xs n k ≤ n
  | 0, _ => by simp [countFrom]
  | n + 1, k => by
    have := countFrom_le xs n (k + 1)
    simp only [countFrom]
    split <;> omega
theorem putCtx_len (xs : List Rn) : (putCtx xs).length ≤ 160170 := by
  unfold putCtx
  split
  · rename_i h
    have h1 := uv_len10 (countFrom xs 8 0) (by have := countFrom_le xs 8 0; omega)
    have h2 := repsFrom_len h 8 0 (by omega)
    simp only [ctxBytes, List.length_append]; omega
  · simp
/-! The cloud's keys. -/
theorem cloud_keys : ∀ (xs : List Rn) (g : List (Int × List Sp)), (g.map (·.1)).Nodup → ((cloud g xs).map (·.1)).Nodup ∧ ∀ a, a ∈ (cloud g xs).map (·.1) ↔ a ∈ g.map (·.1) ∨ a ∈ xs.map (·.r)
  | [], g, h => ⟨h, fun a => by simp [cloud]⟩
  | x :: xs, g, h => by
    have h1 := mput_keys x.r (mget g x.r ++ [⟨x.f, x.t⟩]) g h
    obtain ⟨ih1, ih2⟩ := cloud_keys xs _ h1.1
    refine ⟨ih1, fun a => ?_⟩
    rw [cloud, ih2]
    have h3 : a ∈ (mput g x.r (mget g x.r ++ [⟨x.f, x.t⟩])).map (·.1) ↔ a = x.r ∨ a ∈ g.map (·.1) := by
      refine ⟨h1.2 a, fun h' => ?_⟩
      clear ih1 ih2 h1 h
      generalize mget g x.r ++ [⟨x.f, x.t⟩] = ys
      induction g with
      | nil => simpa [mput] using h'
      | cons p g ihg =>
        simp only [mput]
        by_cases hp : p.1 = x.r
        · rw [if_pos hp]
          rcases h' with h' | h'
          · simp [h']
          · simp only [List.map_cons, List.mem_cons] at h' ⊢
            rcases h' with h' | h'
            · exact .inl (by rw [h', hp])
            · exact .inr h'
        · rw [if_neg hp]
          simp only [List.map_cons, List.mem_cons] at h' ⊢
          rcases h' with h' | h' | h'
          · exact .inr (ihg (.inl h'))
          · exact .inl h'
          · exact .inr (ihg (.inr h'))
    rw [h3, List.map_cons, List.mem_cons]
    constructor
    · rintro ((h | h) | h)
      · exact .inr (.inl h)
      · exact .inl h
      · exact .inr (.inr h)
    · rintro (h | h | h)
      · exact .inl (.inr h)
      · exact .inl (.inl h)
      · exact .inr h
theorem spans_nil (xs : List Rn) (k : Int) : spansOf xs k = [] ↔ k ∉ xs.map (·.r) := by
  unfold spansOf
  rw [List.map_eq_nil_iff, List.filter_eq_nil_iff]
  simp
theorem mhas_iff (g : List (Int × List Sp)) (k : Int) : mhas g k = true ↔ k ∈ g.map (·.1) := by
  unfold mhas; simp only [List.any_eq_true, beq_iff_eq, List.mem_map]
theorem mhas_cloud (xs : List Rn) (k : Int) : mhas (cloud [] xs) k = !decide (spansOf xs k = []) := by
  rw [Bool.eq_iff_iff, mhas_iff, (cloud_keys xs [] (by simp)).2]
  simp [spans_nil]
theorem count_nodup : ∀ (n k : Nat) (l : List Int), l.Nodup → (∀ a ∈ l, (k : Int) ≤ a ∧ a < (k + n : Nat)) → l.length = ((List.range n).filter (fun i => decide (((k + i : Nat) : Int) ∈ l))).length
  | n, k, l, hn, hb => by
    have hm : (l.map fun a : Int => (a - (k : Int)).toNat).Perm ((List.range n).filter (fun i => decide (((k + i : Nat) : Int) ∈ l))) := by
      refine (List.perm_ext_iff_of_nodup ?_ (List.nodup_range.sublist List.filter_sublist)).2 fun i => ?_
      · refine List.Pairwise.map _ ?_ (List.Pairwise.and_mem.1 hn)
        rintro a b ⟨ha, hb', hab⟩ he
        have h1 := hb a ha
        have h2 := hb b hb'
        exact hab (by omega)
      · simp only [List.mem_map, List.mem_filter, List.mem_range, decide_eq_true_eq]
        constructor
        · rintro ⟨a, ha, rfl⟩
          have := hb a ha
          refine ⟨by omega, ?_⟩
          rw [show ((k + (a - (k : Int)).toNat : Nat) : Int) = a by omega]; exact ha
        · rintro ⟨hi, ha⟩
          exact ⟨_, ha, by omega⟩
    rw [← hm.length_eq, List.length_map]
theorem countFrom_filter (xs : List Rn) : ∀ (n k : Nat), countFrom xs n k = ((List.range n).filter (fun i => !decide (spansOf xs ((k + i : Nat) : Int) = []))).length
  | 0, _ => by simp [countFrom]
  | n + 1, k => by
    rw [countFrom, countFrom_filter xs n (k + 1), List.range_succ_eq_map, List.filter_cons]
    have e : ((List.range n).map Nat.succ).filter (fun i => !decide (spansOf xs ((k + i : Nat) : Int) = [])) = ((List.range n).filter (fun i => !decide (spansOf xs ((k + 1 + i : Nat) : Int) = []))).map Nat.succ := by
      rw [List.filter_map]
      congr 1
      refine List.filter_congr fun i _ => ?_
      simp only [Function.comp]
      rw [show k + Nat.succ i = k + 1 + i by omega]
    rw [e]
    by_cases h : spansOf xs (k : Int) = []
    · simp [h]
    · simp [h]; omega
theorem cloud_len (xs : List Rn) (h : ctxOk xs = true) : (cloud [] xs).length = countFrom xs 8 0 := by
  have hk := cloud_keys xs [] (by simp)
  have hb : ∀ a ∈ (cloud [] xs).map (·.1), ((0 : Nat) : Int) ≤ a ∧ a < (0 + 8 : Nat) := by
    intro a ha
    have := (hk.2 a).1 ha
    simp only [List.map_nil, List.not_mem_nil, false_or, List.mem_map] at this
    obtain ⟨r, hr, rfl⟩ := this
    have := okPre_bound xs none (by unfold ctxOk at h; simp at h; exact h.1) r hr
    omega
  have := count_nodup 8 0 _ hk.1 hb
  rw [List.length_map] at this
  rw [this, countFrom_filter]
  congr 1
  refine List.filter_congr fun i _ => ?_
  rw [← mhas_cloud, Bool.eq_iff_iff, mhas_iff]
  simp
end Go.Proofs.YtkafflbakgkpcaaGreat
namespace Go.Proofs.YtkafflbakgkpcaaGreat
set_option linter.unusedSimpArgs false
set_option linter.unusedVariables false
open Go.RowKit Go.Ow
attribute [local irreducible] wpQuiet
set_option maxRecDepth 100000
def ofRep (xs : List Rn) (rep : Int) : List Rn := xs.filter (fun r => r.r == rep)
theorem ofRep_spans (xs : List Rn) (rep : Int) : spansOf xs rep = (ofRep xs rep).map fun r => ⟨r.f, r.t⟩ := rfl
end Go.Proofs.YtkafflbakgkpcaaGreat
namespace Go.Proofs.YtkafflbakgkpcaaGreat
set_option linter.unusedSimpArgs false
set_option linter.unusedVariables false
open Go.RowKit Go.Ow
theorem dw_le {α : Type} (p : α → Bool) (l : List α) : (l.dropWhile p).length ≤ l.length := (List.dropWhile_suffix p).length_le
theorem tw_imp {α : Type} (p : α → Bool) : ∀ (l : List α) (y : α), y ∈ l.takeWhile p → p y = true
  | [], y, h => by simp at h
  | x :: l, y, h => by
    cases hx : p x
    · rw [List.takeWhile_cons_of_neg (by simp [hx])] at h; cases h
    · rw [List.takeWhile_cons_of_pos hx] at h
      rcases List.mem_cons.1 h with rfl | h
      · exact hx
      · exact tw_imp p l y h
theorem dw_nil {α : Type} (p : α → Bool) : ∀ (l : List α), l.dropWhile p = [] → ∀ y ∈ l, p y = true
  | [], _, y, hy => by cases hy
  | x :: l, h, y, hy => by
    cases hx : p x
    · rw [List.dropWhile_cons_of_neg (by simp [hx])] at h; cases h
    · rw [List.dropWhile_cons_of_pos hx] at h
      rcases List.mem_cons.1 hy with rfl | hy
      · exact hx
      · exact dw_nil p l h y hy
theorem tw_all {α : Type} (p : α → Bool) : ∀ (l : List α), (∀ y ∈ l, p y = true) → l.takeWhile p = l ∧ l.dropWhile p = []
  | [], _ => ⟨rfl, rfl⟩
  | x :: l, h => by
    obtain ⟨h1, h2⟩ := tw_all p l fun y hy => h y (List.mem_cons_of_mem _ hy)
    rw [List.takeWhile_cons_of_pos (h x (by simp)), List.dropWhile_cons_of_pos (h x (by simp)), h1, h2]
    exact ⟨rfl, rfl⟩
theorem last_app {α : Type} (l m : List α) (h : m ≠ []) : (l ++ m).getLast? = m.getLast? := by
  rw [List.getLast?_append]
  cases hm : m.getLast? with
  | none => exact absurd (List.getLast?_eq_none_iff.1 hm) h
  | some a => rfl
/-- Neighbours of one key. -/
def grps {α : Type} (k : α → ByteArray × Nat) : List α → List (List α)
  | [] => []
  | x :: l => (x :: l.takeWhile (fun y => decide (k y = k x))) :: grps k (l.dropWhile (fun y => decide (k y = k x)))
termination_by l => l.length
decreasing_by
  have := dw_le (fun y => decide (k y = k x)) l
  simp only [List.length_cons]; omega
theorem grps_nil {α : Type} (k : α → ByteArray × Nat) : grps k ([] : List α) = [] := by rw [grps]
theorem grps_cons {α : Type} (k : α → ByteArray × Nat) (x : α) (l : List α) : grps k (x :: l) = (x :: l.takeWhile (fun y => decide (k y = k x))) :: grps k (l.dropWhile (fun y => decide (k y = k x))) := by rw [grps]
theorem grps_flat {α : Type} (k : α → ByteArray × Nat) : ∀ (n : Nat) (l : List α), l.length ≤ n → (grps k l).flatten = l
  | _, [], _ => by rw [grps_nil]; rfl
  | 0, x :: l, h => by simp at h
  | n + 1, x :: l, h => by
    have hd := dw_le (fun y => decide (k y = k x)) l
    rw [grps_cons, List.flatten_cons, grps_flat k n _ (by simp only [List.length_cons] at h; omega), List.cons_append, List.takeWhile_append_dropWhile]
theorem grps_ne {α : Type} (k : α → ByteArray × Nat) : ∀ (n : Nat) (l : List α), l.length ≤ n → ∀ g ∈ grps k l, ∃ x t, g = x :: t ∧ ∀ y ∈ g, k y = k x
  | _, [], _, g, hg => by rw [grps_nil] at hg; cases hg
  | 0, x :: l, h, _, _ => by simp at h
  | n + 1, x :: l, h, g, hg => by
    have hd := dw_le (fun y => decide (k y = k x)) l
    rw [grps_cons] at hg
    rcases List.mem_cons.1 hg with rfl | hg
    · refine ⟨x, _, rfl, fun y hy => ?_⟩
      rcases List.mem_cons.1 hy with rfl | hy
      · rfl
      · have := tw_imp (fun y => decide (k y = k x)) _ _ hy; simpa using this
    · exact grps_ne k n _ (by simp only [List.length_cons] at h; omega) g hg
theorem grps_map {α β : Type} (f : α → β) (k : β → ByteArray × Nat) : ∀ (n : Nat) (l : List α), l.length ≤ n → grps k (l.map f) = (grps (fun x => k (f x)) l).map (List.map f)
  | _, [], _ => by rw [List.map_nil, grps_nil, grps_nil]; rfl
  | 0, x :: l, h => by simp at h
  | n + 1, x :: l, h => by
    have hd := dw_le (fun y => decide (k (f y) = k (f x))) l
    rw [List.map_cons, grps_cons, grps_cons, List.takeWhile_map, List.dropWhile_map, grps_map f k n _ (by simp only [List.length_cons] at h; exact Nat.le_trans hd (by omega))]
    rfl
/-- One element more at the end: of the last key, or not. -/
theorem grps_more {α : Type} (k : α → ByteArray × Nat) (b : α) : ∀ (n : Nat) (l : List α) (a : α), l.length ≤ n → l.getLast? = some a → k b = k a →
    ∃ gs g, grps k l = gs ++ [g] ∧ grps k (l ++ [b]) = gs ++ [g ++ [b]]
  | _, [], _, _, h, _ => by simp at h
  | 0, x :: l, _, h, _, _ => by simp at h
  | n + 1, x :: l, a, h, ha, hk => by
    have hd := dw_le (fun y => decide (k y = k x)) l
    rw [List.cons_append, grps_cons, grps_cons]
    by_cases he : l.dropWhile (fun y => decide (k y = k x)) = []
    · have hall : ∀ y ∈ l, k y = k x := fun y hy => by
        have := dw_nil _ _ he y hy
        simpa using this
      have hax : k a = k x := by
        cases l with
        | nil => simp at ha; rw [ha]
        | cons y t => exact hall a (by rw [List.getLast?_cons_cons] at ha; exact List.mem_of_getLast? ha)
      have ht : l.takeWhile (fun y => decide (k y = k x)) = l := (tw_all _ _ fun y hy => by simp [hall y hy]).1
      obtain ⟨ht2, hd2⟩ := tw_all (fun y => decide (k y = k x)) (l ++ [b]) fun y hy => by
        rcases List.mem_append.1 hy with hy | hy
        · simp [hall y hy]
        · rw [List.mem_singleton] at hy; subst hy; simp [hk, hax]
      exact ⟨[], x :: l, by rw [ht, he, grps_nil]; rfl, by rw [ht2, hd2, grps_nil]; rfl⟩
    · have hlast : (l.dropWhile (fun y => decide (k y = k x))).getLast? = some a := by
        have hl : l ≠ [] := fun h0 => he (by rw [h0]; rfl)
        have e : (x :: l).getLast? = l.getLast? := by
          cases l with
          | nil => exact absurd rfl hl
          | cons y t => rw [List.getLast?_cons_cons]
        rw [e, ← List.takeWhile_append_dropWhile (p := fun y => decide (k y = k x)) (l := l), last_app _ _ he] at ha
        exact ha
      obtain ⟨gs, g, h1, h2⟩ := grps_more k b n _ a (by simp only [List.length_cons] at h; omega) hlast hk
      have ht2 : (l ++ [b]).takeWhile (fun y => decide (k y = k x)) = l.takeWhile (fun y => decide (k y = k x)) := by
        rw [List.takeWhile_append]
        rw [if_neg]
        intro h0
        apply he
        have := List.takeWhile_append_dropWhile (p := fun y => decide (k y = k x)) (l := l)
        have h3 := congrArg List.length this
        rw [List.length_append] at h3
        exact List.eq_nil_of_length_eq_zero (by omega)
      have hd2 : (l ++ [b]).dropWhile (fun y => decide (k y = k x)) = l.dropWhile (fun y => decide (k y = k x)) ++ [b] := by
        rw [List.dropWhile_append]
        rw [if_neg (by simp [List.isEmpty_iff]; simpa using he)]
      exact ⟨_ :: gs, g, by rw [h1]; rfl, by rw [ht2, hd2, h2]; rfl⟩
theorem grps_new {α : Type} (k : α → ByteArray × Nat) (b : α) : ∀ (n : Nat) (l : List α), l.length ≤ n → (∀ a, l.getLast? = some a → k b ≠ k a) → grps k (l ++ [b]) = grps k l ++ [[b]]
  | _, [], _, _ => by rw [List.nil_append, grps_cons, grps_nil]; simp [grps_nil]
  | 0, x :: l, h, _ => by simp at h
  | n + 1, x :: l, h, hk => by
    have hd := dw_le (fun y => decide (k y = k x)) l
    rw [List.cons_append, grps_cons, grps_cons]
    by_cases he : l.dropWhile (fun y => decide (k y = k x)) = []
    · have hall : ∀ y ∈ l, k y = k x := fun y hy => by
        have := dw_nil _ _ he y hy
        simpa using this
      have hbx : k b ≠ k x := by
        cases l with
        | nil => exact hk x rfl
        | cons y t =>
          obtain ⟨a, ha⟩ : ∃ a, (y :: t).getLast? = some a := ⟨_, List.getLast?_eq_some_getLast (by simp)⟩
          have h1 := hk a (by rw [List.getLast?_cons_cons]; exact ha)
          rw [hall a (List.mem_of_getLast? ha)] at h1
          exact h1
      have ht : l.takeWhile (fun y => decide (k y = k x)) = l := (tw_all _ _ fun y hy => by simp [hall y hy]).1
      have ht2 : (l ++ [b]).takeWhile (fun y => decide (k y = k x)) = l := by
        rw [List.takeWhile_append, if_pos (by rw [ht]), List.takeWhile_cons_of_neg (by simp [hbx])]; simp
      have hd2 : (l ++ [b]).dropWhile (fun y => decide (k y = k x)) = [b] := by
        rw [List.dropWhile_append, if_pos (by rw [he]; rfl), List.dropWhile_cons_of_neg (by simp [hbx])]
      rw [ht, he, ht2, hd2, grps_nil, grps_cons, List.takeWhile_nil, List.dropWhile_nil, grps_nil]; rfl
    · have hlast : ∀ a, (l.dropWhile (fun y => decide (k y = k x))).getLast? = some a → k b ≠ k a := fun a ha => by
        refine hk a ?_
        have hl : l ≠ [] := fun h0 => he (by rw [h0]; rfl)
        have e : (x :: l).getLast? = l.getLast? := by
          cases l with
          | nil => exact absurd rfl hl
          | cons y t => rw [List.getLast?_cons_cons]
        rw [e, ← List.takeWhile_append_dropWhile (p := fun y => decide (k y = k x)) (l := l), last_app _ _ he]
        exact ha
      have ih := grps_new k b n _ (by simp only [List.length_cons] at h; omega) hlast
      have ht2 : (l ++ [b]).takeWhile (fun y => decide (k y = k x)) = l.takeWhile (fun y => decide (k y = k x)) := by
        rw [List.takeWhile_append]
        rw [if_neg]
        intro h0
        apply he
        have := List.takeWhile_append_dropWhile (p := fun y => decide (k y = k x)) (l := l)
        have h3 := congrArg List.length this
        rw [List.length_append] at h3
        exact List.eq_nil_of_length_eq_zero (by omega)
      have hd2 : (l ++ [b]).dropWhile (fun y => decide (k y = k x)) = l.dropWhile (fun y => decide (k y = k x)) ++ [b] := by
        rw [List.dropWhile_append]
        rw [if_neg (by simp [List.isEmpty_iff]; simpa using he)]
      rw [ht2, hd2, ih]; rfl
/-! The bytes. -/
def nmAt (l : Lf) (d : Nat) : ByteArray := (l.p[d]?).getD ByteArray.empty
def kdAt (l : Lf) (d : Nat) : Nat := if d + 1 < l.p.length then 3 else if l.fl = true then 2 else 1
def keyAt (d : Nat) (l : Lf) : ByteArray × Nat := (nmAt l d, kdAt l d)
def lfB (k : Nat) (l : Lf) : List UInt8 := uv l.dr.toNat ++ (uv l.ds.toNat ++ (if k = 1 then txt l.v else []))
def lfsB (k : Nat) (g : List Lf) : List UInt8 := (g.map (lfB k)).flatten
def gB (T : List Lf → List UInt8) (d : Nat) : List Lf → List UInt8
  | [] => []
  | x :: t => (txt (nmAt x d) ++ [UInt8.ofNat (kdAt x d)]) ++ (if kdAt x d = 3 then T (x :: t) else uv (t.length + 1) ++ lfsB (kdAt x d) (x :: t))
def treeB : Nat → Nat → List Lf → List UInt8
  | 0, _, _ => []
  | f + 1, d, ls => uv (grps (keyAt d) ls).length ++ ((grps (keyAt d) ls).map (gB (treeB f (d + 1)) d)).flatten
/-- A leaf whose path goes on behind a depth. -/
def LfG (d : Nat) (l : Lf) : Prop := d < l.p.length ∧ l.p.length ≤ 8 ∧ (∀ x ∈ l.p, x.size ≤ 40) ∧ l.v.size ≤ 200 ∧ (0 ≤ l.dr ∧ l.dr ≤ 8) ∧ 0 ≤ l.ds ∧ l.ds ≤ 1000000000
theorem txt_len (s : ByteArray) (n : Nat) (h : s.size ≤ n) (hn : n ≤ 1000000) : (txt s).length ≤ n + 10 := by
  have := uv_len10 s.size (by omega)
  unfold txt; rw [List.length_append, size_list]; omega
theorem nm_size {l : Lf} {d : Nat} (h : LfG d l) : (nmAt l d).size ≤ 40 := by
  unfold nmAt
  rw [List.getElem?_eq_getElem h.1]
  exact h.2.2.1 _ (List.getElem_mem h.1)
theorem lfB_len {l : Lf} {d : Nat} (k : Nat) (h : LfG d l) : (lfB k l).length ≤ 230 := by
  have h1 := uv_len10 l.dr.toNat (by have := h.2.2.2.2.1; omega)
  have h2 := uv_len10 l.ds.toNat (by have := h.2.2.2.2.2; omega)
  have h3 := txt_len l.v 200 h.2.2.2.1 (by omega)
  unfold lfB
  rw [List.length_append, List.length_append]
  split
  · omega
  · simp; omega
theorem lfsB_len (k : Nat) {d : Nat} : ∀ g : List Lf, (∀ l ∈ g, LfG d l) → (lfsB k g).length ≤ g.length * 230
  | [], _ => by simp [lfsB]
  | x :: g, h => by
    have h1 := lfB_len k (h x (by simp))
    have h2 := lfsB_len k g fun l hl => h l (List.mem_cons_of_mem _ hl)
    have e : lfsB k (x :: g) = lfB k x ++ lfsB k g := rfl
    rw [e, List.length_append, List.length_cons, Nat.succ_mul]; omega
theorem kd_deep {l : Lf} {d : Nat} (h : LfG d l) (hk : kdAt l d = 3) : LfG (d + 1) l := by
  unfold kdAt at hk
  split at hk
  · rename_i h1; exact ⟨h1, h.2⟩
  · split at hk <;> cases hk
theorem gB_len {d C : Nat} (T : List Lf → List UInt8) (g : List Lf) (hT : ∀ x t, g = x :: t → kdAt x d = 3 → (T g).length ≤ 10 + g.length * C) (hC : 230 ≤ C) (hg : ∀ l ∈ g, LfG d l) (hn : g.length ≤ 1000) : (gB T d g).length ≤ g.length * (C + 70) := by
  cases g with
  | nil => simp [gB]
  | cons x t =>
    have h1 := txt_len (nmAt x d) 40 (nm_size (hg x (by simp))) (by omega)
    have h2 := uv_len10 (t.length + 1) (by simp only [List.length_cons] at hn; omega)
    have h3 := lfsB_len (kdAt x d) (x :: t) hg
    rw [gB]
    rw [List.length_append, List.length_append, Nat.mul_add]
    have h4 : (t.length + 1) * 230 ≤ (t.length + 1) * C := Nat.mul_le_mul_left _ hC
    simp only [List.length_cons, List.length_nil] at *
    split
    · rename_i hk
      have := hT x t rfl hk
      omega
    · rw [List.length_append]; omega
theorem gBs_len {d C : Nat} (G : List Lf → List UInt8) : ∀ gs : List (List Lf), (∀ g ∈ gs, (G g).length ≤ g.length * C) → ((gs.map G).flatten).length ≤ gs.flatten.length * C
  | [], _ => by simp
  | g :: gs, h => by
    have h1 := h g (by simp)
    have h2 := gBs_len (d := d) G gs fun g' hg' => h g' (List.mem_cons_of_mem _ hg')
    simp only [List.map_cons, List.flatten_cons, List.length_append]
    rw [Nat.add_mul]; omega
theorem mem_len {α : Type} : ∀ (L : List (List α)) (g : List α), g ∈ L → g.length ≤ L.flatten.length
  | [], _, h => by cases h
  | x :: L, g, h => by
    rw [List.flatten_cons, List.length_append]
    rcases List.mem_cons.1 h with rfl | h
    · omega
    · have := mem_len L g h; omega
theorem grps_sub {α : Type} (k : α → ByteArray × Nat) (l : List α) : ∀ g ∈ grps k l, (∀ x ∈ g, x ∈ l) ∧ g.length ≤ l.length := fun g hg => by
  have e := grps_flat k l.length l (Nat.le_refl _)
  constructor
  · intro x hx
    rw [← e]
    exact List.mem_flatten.2 ⟨g, hg, hx⟩
  · have := mem_len (grps k l) g hg
    rw [e] at this
    exact this
theorem grps_count {α : Type} (k : α → ByteArray × Nat) : ∀ (n : Nat) (l : List α), l.length ≤ n → (grps k l).length ≤ l.length
  | _, [], _ => by rw [grps_nil]; exact Nat.le_refl _
  | 0, x :: l, h => by simp at h
  | n + 1, x :: l, h => by
    have hd := dw_le (fun y => decide (k y = k x)) l
    rw [grps_cons, List.length_cons, List.length_cons]
    have := grps_count k n _ (show (l.dropWhile (fun y => decide (k y = k x))).length ≤ n by simp only [List.length_cons] at h; omega)
    omega
theorem treeB_len : ∀ (f d : Nat) (ls : List Lf), (∀ l ∈ ls, LfG d l) → ls.length ≤ 1000 → (treeB f d ls).length ≤ 10 + ls.length * (70 * f + 230)
  | 0, d, ls, _, _ => by simp [treeB]
  | f + 1, d, ls, h, hn => by
    have h1 := uv_len10 (grps (keyAt d) ls).length (by have := grps_count (keyAt d) ls.length ls (Nat.le_refl _); omega)
    have h2 := gBs_len (d := d) (C := 70 * f + 230 + 70) (gB (treeB f (d + 1)) d) (grps (keyAt d) ls) (fun g hg => by
      obtain ⟨hs, hl⟩ := grps_sub (keyAt d) ls g hg
      refine gB_len _ g (fun x t hx hk => ?_) (by omega) (fun l hl => h l (hs l hl)) (by omega)
      refine treeB_len f (d + 1) g (fun l hl => ?_) (by omega)
      obtain ⟨x', t', hx', hall⟩ := grps_ne (keyAt d) ls.length ls (Nat.le_refl _) g hg
      have hxx : x' = x := by rw [hx] at hx'; exact (List.cons.inj hx').1.symm
      subst hxx
      exact kd_deep (h l (hs l hl)) (by have := congrArg Prod.snd (hall l hl); exact this.trans hk))
    rw [grps_flat (keyAt d) ls.length ls (Nat.le_refl _)] at h2
    rw [treeB, List.length_append]
    have e : 70 * (f + 1) + 230 = 70 * f + 230 + 70 := by omega
    rw [e]; omega
end Go.Proofs.YtkafflbakgkpcaaGreat
namespace Go.Proofs.YtkafflbakgkpcaaGreat
set_option linter.unusedSimpArgs false
set_option linter.unusedVariables false
open Go.RowKit Go.Ow
attribute [local irreducible] wpQuiet
set_option maxRecDepth 100000
def lfV (vp : Value) (x : Lf) : Value := .agg #[vp, .bool x.fl, .int .i64 x.dr, .int .i64 x.ds, .string x.v]
theorem tw_stop {α : Type} (p : α → Bool) (l : List α) (j : Nat) (hj : j ≤ l.length) (h : ∀ y ∈ l.take j, p y = true) (h2 : ∀ hlt : j < l.length, p l[j] = false) : (l.takeWhile p).length = j := by
  have e : l.takeWhile p = l.take j := by
    conv => lhs; rw [← List.take_append_drop j l, List.takeWhile_append]
    rw [(tw_all p _ h).1, if_pos rfl]
    by_cases hlt : j < l.length
    · rw [List.drop_eq_getElem_cons hlt, List.takeWhile_cons_of_neg (by simp [h2 hlt]), List.append_nil]
    · rw [List.drop_eq_nil_of_le (by omega)]; simp
  rw [e, List.length_take]; omega
end Go.Proofs.YtkafflbakgkpcaaGreat
namespace Go.Proofs.YtkafflbakgkpcaaGreat
set_option linter.unusedSimpArgs false
set_option linter.unusedVariables false
open Go.RowKit Go.Ow
attribute [local irreducible] wpQuiet
set_option maxRecDepth 100000
def slen : Value → Nat
  | .slice _ n _ => n
  | _ => 0
theorem take_tw {α : Type} (p : α → Bool) : ∀ l : List α, l.take (l.takeWhile p).length = l.takeWhile p
  | [] => rfl
  | x :: l => by
    cases hx : p x
    · rw [List.takeWhile_cons_of_neg (by simp [hx])]; rfl
    · rw [List.takeWhile_cons_of_pos hx, List.length_cons, List.take_succ_cons, take_tw p l]
theorem drop_tw {α : Type} (p : α → Bool) : ∀ l : List α, l.drop (l.takeWhile p).length = l.dropWhile p
  | [] => rfl
  | x :: l => by
    cases hx : p x
    · rw [List.takeWhile_cons_of_neg (by simp [hx]), List.dropWhile_cons_of_neg (by simp [hx])]; rfl
    · rw [List.takeWhile_cons_of_pos hx, List.dropWhile_cons_of_pos hx, List.length_cons, List.drop_succ_cons, drop_tw p l]
theorem u8_kind (k : Nat) (hk : k ≤ 3) : (UInt8.ofNat k).toNat = k := by
  simp; omega
theorem u8_lit (k : Nat) (hk : k ≤ 3) : (#[Value.int .u8 (k : Int)]).toList = ([UInt8.ofNat k].map Fl.fl).flatten := by
  show [Value.int .u8 (k : Int)] = [Value.int .u8 ((UInt8.ofNat k).toNat : Int)]
  rw [u8_kind k hk]
theorem kd_le (x : Lf) (d : Nat) : kdAt x d ≤ 3 ∧ 1 ≤ kdAt x d := by unfold kdAt; split <;> (try split) <;> omega
theorem subL_lo {w : World} {A : Option Addr} {n c : Nat} (k : Nat) (h1 : k ≤ n) (h2 : n ≤ c) :
    (Instr.sliceAt 31 (.slice A n c) none (some (.int .i64 (k : Int))) none).run Tryz.prog w = .ok (sliced A 0 k c 5) w := by
  have := run_subV (P := Tryz.prog) (w := w) (z := 5) Tryz.underlying31 (by kernel_rfl) A n c ((0 : Nat) : Int) (k : Int) (by omega) (by omega) (by omega)
  rw [Int.toNat_natCast, Int.toNat_natCast] at this
  exact this
theorem subL_hi {w : World} {A : Option Addr} {n c : Nat} (k : Nat) (h1 : k ≤ n) (h2 : n ≤ c) :
    (Instr.sliceAt 31 (.slice A n c) (some (.int .i64 (k : Int))) none none).run Tryz.prog w = .ok (sliced A k n c 5) w := by
  have he : Tryz.prog.elem 31 = 57 := by simp [Program.elem, Tryz.underlying31]
  have ht' : Tryz.prog.underlying 31 = some (.slice (Tryz.prog.elem 31)) := by rw [he]; exact Tryz.underlying31
  have hz : (sizeOf 57).run Tryz.prog w = .ok 5 w := by kernel_rfl
  rw [run_sliceAt_slice w 31 _ _ _ _ ht', run_slice_l w 31 A n c ht' .i64 (k : Int) (by omega) (by omega), he, hz]
  simp [Result.andThen]
/-- A row of leaves, cut. -/
theorem subLf {n c : Nat} (A : Option Addr) (l : List Lf) (j : Nat) (hn : n = l.length) (h1 : j ≤ n) (h2 : n ≤ c) :
    ∃ A1 c1 A2 c2, (∀ q, (Instr.sliceAt 31 (.slice A n c) none (some (.int .i64 (j : Int))) none).run Tryz.prog q = .ok (.slice A1 (l.take j).length c1) q) ∧ (∀ q, (Instr.sliceAt 31 (.slice A n c) (some (.int .i64 (j : Int))) none none).run Tryz.prog q = .ok (.slice A2 (l.drop j).length c2) q) ∧
      Hid (∀ w, Rd w (.slice A n c) l → Rd w (.slice A1 (l.take j).length c1) (l.take j) ∧ Rd w (.slice A2 (l.drop j).length c2) (l.drop j)) := by
  subst hn
  have e1 : ∀ (A : Option Addr) lo hi c z, ∃ A' c', sliced A lo hi c z = .slice A' (hi - lo) c' := by
    intro A lo hi c z; unfold sliced; split <;> exact ⟨_, _, rfl⟩
  obtain ⟨A1, c1, h3⟩ := e1 A 0 j c 5
  obtain ⟨A2, c2, h4⟩ := e1 A j l.length c 5
  have l1 : (l.take j).length = j - 0 := by simp; omega
  have l2 : (l.drop j).length = l.length - j := by simp
  refine ⟨A1, c1, A2, c2, fun q => by rw [l1, ← h3]; exact subL_lo j h1 h2, fun q => by rw [l2, ← h4]; exact subL_hi j h1 h2, Lib.hid fun w h => ⟨?_, ?_⟩⟩
  · have := rd_subV h 0 j (by omega) h1
    rw [show Cd.z Lf = 5 from rfl, h3] at this
    rw [l1]; simpa using this
  · have := rd_subV h j l.length h1 (Nat.le_refl _)
    rw [show Cd.z Lf = 5 from rfl, h4] at this
    rw [l2]
    rwa [List.take_of_length_le (by simp)] at this
theorem lfsB_snoc (k : Nat) (a : List Lf) (x : Lf) : lfsB k (a ++ [x]) = lfsB k a ++ lfB k x := by unfold lfsB; simp
theorem gBs_cons (T : List Lf → List UInt8) (d : Nat) (x : Lf) (t : List Lf) : ((grps (keyAt d) (x :: t)).map (gB T d)).flatten = gB T d (x :: t.takeWhile (fun y => decide (keyAt d y = keyAt d x))) ++ ((grps (keyAt d) (t.dropWhile (fun y => decide (keyAt d y = keyAt d x)))).map (gB T d)).flatten := by
  rw [grps_cons]; rfl
end Go.Proofs.YtkafflbakgkpcaaGreat
