/- Contexts in plain Lean: the cloud's lists, the greatest number of a replica. -/
import Derived.Test.YtgfgkbmebdaieaaMp
import Derived.Test.YtgfgkbmebdaieaaC3
namespace Go.Ow
set_option linter.unusedSimpArgs false
set_option linter.unusedVariables false
open Go.RowKit
structure Sp where
  f : Int
  t : Int
  deriving DecidableEq
instance : Fl Sp := Fl.iso (fun s : Sp => (s.f, s.t))
/-- The spans, put to their replicas in order. -/
def cloud (g : List (Int × List Sp)) : List Rn → List (Int × List Sp)
  | [] => g
  | r :: xs => cloud (mput g r.r (mget g r.r ++ [⟨r.f, r.t⟩])) xs
def spansOf (xs : List Rn) (rep : Int) : List Sp := (xs.filter (fun r => r.r == rep)).map fun r => ⟨r.f, r.t⟩
theorem mget_cloud (rep : Int) : ∀ (xs : List Rn) (g : List (Int × List Sp)), mget (cloud g xs) rep = mget g rep ++ spansOf xs rep
  | [], g => by simp [cloud, spansOf]
  | r :: xs, g => by
    rw [cloud, mget_cloud rep xs, mget_mput]
    by_cases h : rep = r.r
    · subst h; simp [spansOf, List.filter_cons]
    · have h2 : ¬ r.r = rep := fun e => h e.symm
      simp [spansOf, List.filter_cons, h, h2]
theorem mget_cloud0 (xs : List Rn) (rep : Int) : mget (cloud [] xs) rep = spansOf xs rep := by
  rw [mget_cloud]; simp [mget]
/-- The reference's search for the greatest To. -/
def topOf (rep : Int) : List Rn → Int → Int
  | [], m => m
  | r :: xs, m => topOf rep xs (if r.r = rep ∧ m < r.t then r.t else m)
/-- The last span's To. -/
def lastTo (l : List Sp) : Int := match l.getLast? with | none => 0 | some s => s.t
theorem okPre_bound : ∀ (xs : List Rn) (p : Option Rn), okPre p xs = true → ∀ r ∈ xs, 0 ≤ r.r ∧ r.r < 8 ∧ 1 ≤ r.f ∧ r.f ≤ r.t ∧ r.t ≤ 1000000000
  | [], _, _, r, hr => by cases hr
  | x :: xs, p, h, r, hr => by
    simp only [okPre, Bool.and_eq_true] at h
    rcases List.mem_cons.1 hr with rfl | hr
    · have := h.1.1; simp [runOk] at this; omega
    · exact okPre_bound xs (some x) h.2 r hr
/-- Behind a run of a valid context, runs of the same replica lie higher. -/
theorem okPre_up : ∀ (xs : List Rn) (q : Rn), okPre (some q) xs = true → q.t ≤ 1000000000 → 1 ≤ q.t → ∀ r ∈ xs, q.r ≤ r.r ∧ (q.r = r.r → q.t + 1 < r.f)
  | [], _, _, _, _, r, hr => by cases hr
  | x :: xs, q, h, hq, hq1, r, hr => by
    have hb := okPre_bound (x :: xs) (some q) h
    simp only [okPre, Bool.and_eq_true] at h
    have hap := h.1.2
    have hx := hb x (by simp)
    have hw : wrap64 (q.t + 1) = q.t + 1 := by unfold wrap64; omega
    simp [apart, hw] at hap
    rcases List.mem_cons.1 hr with rfl | hr
    · omega
    · have hrb := hb r (by simp [hr])
      have := okPre_up xs x h.2 (by omega) (by omega) r hr
      omega
theorem topOf_cons (rep : Int) : ∀ (xs : List Rn) (q : Rn) (m : Int), okPre (some q) xs = true → q.t ≤ 1000000000 → 1 ≤ q.t → (q.r = rep → m = q.t) → (q.r < rep → m = 0) → (rep < q.r → spansOf xs rep = []) →
    topOf rep xs m = match (spansOf xs rep).getLast? with | none => m | some s => s.t
  | [], q, m, _, _, _, _, _, _ => by simp [topOf, spansOf]
  | x :: xs, q, m, h, hq, hq1, h1, h2, h3 => by
    have hb := okPre_bound (x :: xs) (some q) h x (by simp)
    have hu := okPre_up (x :: xs) q h hq hq1 x (by simp)
    have h' : okPre (some x) xs = true := by simp only [okPre, Bool.and_eq_true] at h; exact h.2
    have hno : rep < x.r → spansOf xs rep = [] := by
      intro hlt
      unfold spansOf
      rw [List.map_eq_nil_iff, List.filter_eq_nil_iff]
      intro r hr
      have := okPre_up xs x h' (by omega) (by omega) r hr
      simp; omega
    rw [topOf]
    by_cases hx : x.r = rep
    · have hlt : m < x.t := by
        rcases Int.lt_trichotomy q.r rep with hqr | hqr | hqr
        · have := h2 hqr; omega
        · have := h1 hqr; have := hu.2 (by omega); omega
        · omega
      rw [if_pos ⟨hx, hlt⟩, topOf_cons rep xs x x.t h' (by omega) (by omega) (fun _ => rfl) (fun hc => by omega) (fun hc => by omega)]
      have e : spansOf (x :: xs) rep = ⟨x.f, x.t⟩ :: spansOf xs rep := by simp [spansOf, List.filter_cons, hx]
      rw [e, List.getLast?_cons]
      cases (spansOf xs rep).getLast? <;> rfl
    · rw [if_neg (by intro hc; exact hx hc.1)]
      have e : spansOf (x :: xs) rep = spansOf xs rep := by simp [spansOf, List.filter_cons, hx]
      rw [e]
      by_cases hlt : rep < x.r
      · rw [hno hlt]
        have : ∀ (l : List Rn) (m : Int), spansOf l rep = [] → topOf rep l m = m := by
          intro l
          induction l with
          | nil => intro m _; rfl
          | cons a l ih =>
            intro m hl
            have ha : ¬ a.r = rep := by
              intro ha; simp [spansOf, List.filter_cons, ha] at hl
            rw [topOf, if_neg (by intro hc; exact ha hc.1)]
            exact ih m (by simpa [spansOf, List.filter_cons, ha] using hl)
        rw [this xs m (hno hlt)]; rfl
      · exact topOf_cons rep xs x m h' (by omega) (by omega) (fun hc => absurd hc hx) (fun hc => by
          rcases Int.lt_trichotomy q.r rep with hqr | hqr | hqr
          · exact h2 hqr
          · have := hu.1; omega
          · have := hu.1; omega) (fun hc => absurd hc hlt)
theorem topOf_last (xs : List Rn) (rep : Int) (h : ctxOk xs = true) : topOf rep xs 0 = lastTo (spansOf xs rep) := by
  have h0 : okPre none xs = true := by unfold ctxOk at h; simp at h; exact h.1
  cases xs with
  | nil => rfl
  | cons x xs =>
    have hb := okPre_bound (x :: xs) none h0 x (by simp)
    have h' : okPre (some x) xs = true := by simp only [okPre, Bool.and_eq_true] at h0; exact h0.2
    have hno : rep < x.r → spansOf xs rep = [] := by
      intro hlt
      unfold spansOf
      rw [List.map_eq_nil_iff, List.filter_eq_nil_iff]
      intro r hr
      have := okPre_up xs x h' (by omega) (by omega) r hr
      simp; omega
    rw [topOf]
    by_cases hx : x.r = rep
    · rw [if_pos ⟨hx, by omega⟩, topOf_cons rep xs x x.t h' (by omega) (by omega) (fun _ => rfl) (fun hc => by omega) (fun hc => by omega)]
      have e : spansOf (x :: xs) rep = ⟨x.f, x.t⟩ :: spansOf xs rep := by simp [spansOf, List.filter_cons, hx]
      unfold lastTo
      rw [e, List.getLast?_cons]
      cases (spansOf xs rep).getLast? <;> rfl
    · rw [if_neg (by intro hc; exact hx hc.1), topOf_cons rep xs x 0 h' (by omega) (by omega) (fun hc => absurd hc hx) (fun _ => rfl) hno]
      have e : spansOf (x :: xs) rep = spansOf xs rep := by simp [spansOf, List.filter_cons, hx]
      unfold lastTo
      rw [e]
      try (cases (spansOf xs rep).getLast? <;> rfl)
end Go.Ow
