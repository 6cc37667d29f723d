/- HasDot and PutContext in plain Lean. -/
import Derived.Test.YtgfgkbmebdaieaaPn
namespace Go.Ow
set_option linter.unusedSimpArgs false
set_option linter.unusedVariables false
open Go.RowKit
/-- A dot lies in one of the runs. -/
def hasB (xs : List Rn) (rep seq : Int) : Bool := xs.any fun x => decide (x.r = rep) && (decide (x.f ≤ seq) && decide (seq ≤ x.t))
def hasDot (xs : List Rn) (rep seq : Int) : Bool := ctxOk xs && hasB xs rep seq
theorem hasB_spans (xs : List Rn) (rep seq : Int) : hasB xs rep seq = (spansOf xs rep).any fun s => decide (s.f ≤ seq) && decide (seq ≤ s.t) := by
  unfold hasB spansOf
  induction xs with
  | nil => rfl
  | cons x xs ih =>
    by_cases h : x.r = rep
    · simp [List.filter_cons, h, ih]
    · simp [List.filter_cons, h, ih]
/-- Spans in order, with a gap between each two. -/
def Spaced : List Sp → Prop
  | [] => True
  | s :: l => (1 ≤ s.f ∧ s.f ≤ s.t ∧ s.t ≤ 1000000000) ∧ (∀ u ∈ l, s.t + 1 < u.f) ∧ Spaced l
theorem spaced_of (rep : Int) : ∀ (xs : List Rn) (p : Option Rn), okPre p xs = true → Spaced (spansOf xs rep)
  | [], _, _ => trivial
  | x :: xs, p, h => by
    have hb := okPre_bound (x :: xs) p h x (by simp)
    have h' : okPre (some x) xs = true := by simp only [okPre, Bool.and_eq_true] at h; exact h.2
    have ih := spaced_of rep xs (some x) h'
    by_cases hx : x.r = rep
    · have e : spansOf (x :: xs) rep = ⟨x.f, x.t⟩ :: spansOf xs rep := by simp [spansOf, List.filter_cons, hx]
      rw [e]
      refine ⟨(show 1 ≤ x.f ∧ x.f ≤ x.t ∧ x.t ≤ 1000000000 from ⟨by omega, by omega, by omega⟩), fun u hu => ?_, ih⟩
      obtain ⟨r, hr, rfl⟩ := List.mem_map.1 hu
      have hr' := List.mem_filter.1 hr
      have := okPre_up xs x h' (by omega) (by omega) r hr'.1
      have h2 : r.r = rep := by simpa using hr'.2
      exact this.2 (by omega)
    · have e : spansOf (x :: xs) rep = spansOf xs rep := by simp [spansOf, List.filter_cons, hx]
      rw [e]; exact ih
theorem spaced_ctx (xs : List Rn) (rep : Int) (h : ctxOk xs = true) : Spaced (spansOf xs rep) :=
  spaced_of rep xs none (by unfold ctxOk at h; simp at h; exact h.1)
theorem Spaced.at_ : ∀ {l : List Sp}, Spaced l → ∀ i (hi : i < l.length), 1 ≤ l[i].f ∧ l[i].f ≤ l[i].t ∧ l[i].t ≤ 1000000000
  | s :: l, h, 0, _ => h.1
  | s :: l, h, i + 1, hi => h.2.2.at_ i (by simpa using hi)
theorem Spaced.lt : ∀ {l : List Sp}, Spaced l → ∀ i j (hi : i < l.length) (hj : j < l.length), i < j → l[i].t + 1 < l[j].f
  | s :: l, h, 0, j + 1, _, hj, _ => h.2.1 _ (List.getElem_mem (by simpa using hj))
  | s :: l, h, i + 1, j + 1, hi, hj, hij => h.2.2.lt i j (by simpa using hi) (by simpa using hj) (by omega)
  | _ :: _, _, _, 0, _, _, h => by omega
  | [], _, _, _, hi, _, _ => by simp at hi
/-- What the search finds, and what it says. -/
theorem search_has {l : List Sp} (h : Spaced l) (seq : Int) (i : Nat) (hle : i ≤ l.length) (hi : 1 ≤ seq → ∀ j (hj : j < l.length), (j < i → l[j].t < seq) ∧ (i ≤ j → seq ≤ l[j].t)) :
    (l.any fun s => decide (s.f ≤ seq) && decide (seq ≤ s.t)) = (if h : i < l.length then decide (l[i].f ≤ seq) else false) := by
  rw [Bool.eq_iff_iff, List.any_eq_true]
  constructor
  · rintro ⟨s, hs, hb⟩
    obtain ⟨k, hk, rfl⟩ := List.getElem_of_mem hs
    simp at hb
    have h1 := h.at_ k hk
    have hi' := hi (by omega)
    have hki : i ≤ k := by
      rcases Nat.lt_or_ge k i with hlt | hge
      · have := (hi' k hk).1 hlt; omega
      · exact hge
    have hil : i < l.length := by omega
    rw [dif_pos hil]
    rcases Nat.lt_or_ge i k with hlt | hge
    · have h2 := h.lt i k hil hk hlt
      have h3 := (hi' i hil).2 (by omega)
      omega
    · obtain rfl : i = k := by omega
      simpa using hb.1
  · intro hb
    by_cases hil : i < l.length
    · rw [dif_pos hil] at hb
      have hf : l[i].f ≤ seq := by simpa using hb
      have h1 := h.at_ i hil
      have h3 := (hi (by omega) i hil).2 (by omega)
      exact ⟨l[i], List.getElem_mem hil, by simp; exact ⟨hf, h3⟩⟩
    · rw [dif_neg hil] at hb; cases hb
end Go.Ow
