/- Setting a register or a flag: what comes out, in plain Lean. -/
import Derived.Test.YtkafflbakgkpcaaGreatKd
import Derived.Test.YtkafflbakgkpcaaGreatM2
import Derived.Test.YtkafflbakgkpcaaGreatLw
namespace Go.Proofs.YtkafflbakgkpcaaGreat
set_option linter.unusedSimpArgs false
set_option linter.unusedVariables false
open Go.RowKit Go.Ow
theorem topOf_ge (rep : Int) : ∀ (xs : List Rn) (m : Int), m ≤ topOf rep xs m ∧ ∀ x ∈ xs, x.r = rep → x.t ≤ topOf rep xs m
  | [], m => ⟨by simp [topOf], by simp⟩
  | y :: xs, m => by
    have ih := topOf_ge rep xs (if y.r = rep ∧ m < y.t then y.t else m)
    unfold topOf
    by_cases hc : y.r = rep ∧ m < y.t
    · rw [if_pos hc] at ih ⊢
      refine ⟨by omega, fun x hx hr => ?_⟩
      rcases List.mem_cons.1 hx with rfl | hx
      · exact ih.1
      · exact ih.2 x hx hr
    · rw [if_neg hc] at ih ⊢
      refine ⟨ih.1, fun x hx hr => ?_⟩
      rcases List.mem_cons.1 hx with rfl | hx
      · have : ¬ m < x.t := fun h => hc ⟨hr, h⟩
        omega
      · exact ih.2 x hx hr
theorem topOf_le (rep M : Int) : ∀ (xs : List Rn) (m : Int), m ≤ M → (∀ x ∈ xs, x.t ≤ M) → topOf rep xs m ≤ M
  | [], m, h, _ => by simpa [topOf] using h
  | y :: xs, m, h, h2 => by
    unfold topOf
    refine topOf_le rep M xs _ ?_ (fun x hx => h2 x (by simp [hx]))
    split
    · exact h2 y (by simp)
    · exact h
theorem nextDot_ok {xs : List Rn} {rep : Int} (h : (nextDot xs rep).2.2 = true) : hasB xs (nextDot xs rep).1 (nextDot xs rep).2.1 = false ∧ (0 ≤ (nextDot xs rep).1 ∧ (nextDot xs rep).1 < 8) ∧ 1 ≤ (nextDot xs rep).2.1 ∧ (nextDot xs rep).2.1 ≤ 1000000000 := by
  unfold nextDot at h ⊢
  split at h
  · rename_i hc
    rw [if_pos hc]
    obtain ⟨h1, h2, h3, h4⟩ := hc
    have h0 : okPre none xs = true := by unfold ctxOk at h1; simp at h1; exact h1.1
    have hb := okPre_bound xs none h0
    have hg := topOf_ge rep xs 0
    have hl := topOf_le rep 1000000000 xs 0 (by omega) (fun x hx => (hb x hx).2.2.2.2)
    refine ⟨?_, ⟨h2, h3⟩, by simp only; omega, by simp only; omega⟩
    unfold hasB
    rw [List.any_eq_false]
    intro x hx
    simp only [Bool.and_eq_true, decide_eq_true_eq, not_and]
    intro e1 e2
    have := hg.2 x hx e1
    omega
  · cases h
def stP (s : St) (rep : Int) (p : List ByteArray) (fl : Bool) (v : ByteArray) : Lf := ⟨p, fl, (nextDot s.c rep).1, (nextDot s.c rep).2.1, v⟩
def stR (s : St) (rep : Int) (p : List ByteArray) (fl on : Bool) (v : ByteArray) : St × St × Int :=
  if stOk s = false then (⟨[], []⟩, ⟨[], []⟩, 1) else if (pathOk p && decide (v.size ≤ 200)) = false then (⟨[], []⟩, ⟨[], []⟩, 2)
  else if (decide (0 ≤ rep ∧ rep < 8) && (!on || (nextDot s.c rep).2.2)) = false then (⟨[], []⟩, ⟨[], []⟩, 3)
  else chR s (setB fl p) (if on then [stP s rep p fl v] else [])
theorem stP_ok {s : St} {rep : Int} {p : List ByteArray} {fl : Bool} {v : ByteArray} (h : (nextDot s.c rep).2.2 = true) : (∀ x ∈ [stP s rep p fl v], hasB s.c x.dr x.ds = false) ∧ ∀ x ∈ [stP s rep p fl v], dotIn x := by
  have := nextDot_ok h
  constructor
  · intro x hx; rw [List.mem_singleton] at hx; subst hx; exact this.1
  · intro x hx; rw [List.mem_singleton] at hx; subst hx; exact this.2
theorem foldl_mem : ∀ (put l : List Lf) (y : Lf), y ∈ put.foldl insL l → y ∈ l ∨ y ∈ put
  | [], l, y, h => .inl h
  | x :: put, l, y, h => by
    rcases foldl_mem put (insL l x) y h with h | h
    · rcases List.mem_cons.1 ((insL_perm l x).mem_iff.1 h) with rfl | h
      · exact .inr (by simp)
      · exact .inl h
    · exact .inr (by simp [h])
theorem chR_bound {s : St} (hs : stOk s = true) (gone : Lf → Bool) (put : List Lf) (hp : ∀ y ∈ put, y.p.length ≤ 8) : msz (chR s gone put).1 ≤ 15000 ∧ msz (chR s gone put).2.1 ≤ 15000 := by
  unfold chR
  split
  · rename_i h
    unfold chOk fits2 at h
    simp only [Bool.and_eq_true, decide_eq_true_eq] at h
    obtain ⟨⟨h1, h2⟩, h3, h4⟩ := h
    have h8 : ∀ y ∈ (chN s gone put).l, y.p.length ≤ 8 := fun y hy => by
      rcases foldl_mem put _ y hy with hm | hm
      · have := stOk_leaf hs y (List.mem_filter.1 hm).1
        unfold okLeaf pathOk at this
        simp only [Bool.and_eq_true, decide_eq_true_eq] at this
        omega
      · exact hp y hm
    have h9 : ∀ y ∈ (chD s gone put).l, y.p.length ≤ 8 := fun y hy => by
      rcases foldl_mem put _ y hy with hm | hm
      · cases hm
      · exact hp y hm
    have b1 := lsz_boundR 8 _ h8
    have b2 := Nat.mul_le_mul_right (8 + 4) h1
    have b3 := lsz_boundR 8 _ h9
    have b4 := Nat.mul_le_mul_right (8 + 4) h3
    unfold msz
    simp only
    exact ⟨by omega, by omega⟩
  · simp [msz, lsz]
theorem stR_bound (s : St) (rep : Int) (p : List ByteArray) (fl on : Bool) (v : ByteArray) : msz (stR s rep p fl on v).1 ≤ 15000 ∧ msz (stR s rep p fl on v).2.1 ≤ 15000 := by
  unfold stR
  split
  · simp [msz, lsz]
  · rename_i hs
    split
    · simp [msz, lsz]
    · rename_i hp
      split
      · simp [msz, lsz]
      · refine chR_bound (by simpa using hs) _ _ ?_
        intro y hy
        have hp8 : p.length ≤ 8 := by
          have : pathOk p = true := by
            have := hp
            simp only [Bool.not_eq_false, Bool.and_eq_true] at this
            exact this.1
          unfold pathOk at this
          simp only [Bool.and_eq_true, decide_eq_true_eq] at this
          omega
        split at hy
        · rw [List.mem_singleton] at hy; subst hy; exact hp8
        · cases hy
end Go.Proofs.YtkafflbakgkpcaaGreat
