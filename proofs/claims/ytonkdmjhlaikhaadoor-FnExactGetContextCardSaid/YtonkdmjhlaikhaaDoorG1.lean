/- Contexts in bytes: what is read is what was written. -/
import Derived.Test.YtonkdmjhlaikhaaDoorP1
import Derived.Test.YtonkdmjhlaikhaaDoorN1
namespace Go.Proofs.YtonkdmjhlaikhaaDoor
set_option linter.unusedSimpArgs false
set_option linter.unusedVariables false
open Go.RowKit Go.Ow
def From : Int → List Sp → Prop
  | _, [] => True
  | last, s :: l => last + 2 ≤ s.f ∧ s.f ≤ s.t ∧ s.t ≤ 1000000000 ∧ From s.t l
def Asc : Int → List (Nat × List Sp) → Prop
  | _, [] => True
  | b, (r, l) :: G => b < r ∧ r < 8 ∧ l ≠ [] ∧ From (-1) l ∧ Asc r G
def runsG (r : Nat) (l : List Sp) : List Rn := l.map fun s => ⟨r, s.f, s.t⟩
def runsOf : List (Nat × List Sp) → List Rn
  | [] => []
  | (r, l) :: G => runsG r l ++ runsOf G
def gBytes : List (Nat × List Sp) → List UInt8
  | [] => []
  | (r, l) :: G => uv r ++ (uv l.length ++ (spanBytes (-1) l ++ gBytes G))
theorem spans_runsG (r : Nat) (k : Int) : ∀ l : List Sp, spansOf (runsG r l) k = if (r : Int) = k then l else []
  | [] => by simp [runsG, spansOf]
  | s :: l => by
    have ih := spans_runsG r k l
    unfold runsG spansOf at ih ⊢
    rw [List.map_cons, List.filter_cons]
    by_cases h : (r : Int) = k
    · rw [if_pos h] at ih ⊢
      simp only [h, beq_self_eq_true, if_true, List.map_cons]
      simp only [h] at ih
      rw [ih]
    · rw [if_neg h] at ih ⊢
      simp only [beq_iff_eq, h, if_false]
      exact ih
theorem spans_app (xs ys : List Rn) (k : Int) : spansOf (xs ++ ys) k = spansOf xs k ++ spansOf ys k := by
  unfold spansOf; rw [List.filter_append, List.map_append]
theorem asc_none : ∀ (G : List (Nat × List Sp)) (b k : Int), Asc b G → k ≤ b → spansOf (runsOf G) k = []
  | [], _, _, _, _ => by simp [runsOf, spansOf]
  | (r, l) :: G, b, k, h, hk => by
    obtain ⟨h1, h2, h3, h4, h5⟩ := h
    rw [runsOf, spans_app, spans_runsG, if_neg (by omega), asc_none G r k h5 (by omega)]; rfl
theorem reps_congr (xs ys : List Rn) : ∀ (n k : Nat), (∀ j : Nat, k ≤ j → spansOf xs j = spansOf ys j) → repsFrom xs n k = repsFrom ys n k ∧ countFrom xs n k = countFrom ys n k
  | 0, _, _ => ⟨rfl, rfl⟩
  | n + 1, k, h => by
    have ih := reps_congr xs ys n (k + 1) (fun j hj => h j (by omega))
    simp only [repsFrom, countFrom, h k (Nat.le_refl _), ih.1, ih.2]
    exact ⟨trivial, trivial⟩
theorem reps_asc : ∀ (n k : Nat) (G : List (Nat × List Sp)), k + n = 8 → Asc ((k : Int) - 1) G → repsFrom (runsOf G) n k = gBytes G ∧ countFrom (runsOf G) n k = G.length
  | 0, k, G, hk, h => by
    cases G with
    | nil => exact ⟨rfl, rfl⟩
    | cons g G => obtain ⟨r, l⟩ := g; obtain ⟨h1, h2, _⟩ := h; omega
  | n + 1, k, [], hk, h => by
    have ih := reps_asc n (k + 1) [] (by omega) trivial
    simp only [repsFrom, countFrom, ih.1, ih.2]
    simp [runsOf, spansOf, repBytes]
  | n + 1, k, (r, l) :: G, hk, h => by
    obtain ⟨h1, h2, h3, h4, h5⟩ := id h
    by_cases hr : r = k
    · subst hr
      have e := asc_none G r r h5 (Int.le_refl _)
      have ih := reps_asc n (r + 1) G (by omega) (by rw [show ((r + 1 : Nat) : Int) - 1 = (r : Int) by omega]; exact h5)
      have hc := reps_congr (runsOf ((r, l) :: G)) (runsOf G) n (r + 1) (fun j hj => by rw [runsOf, spans_app, spans_runsG, if_neg (by omega)]; rfl)
      have es : spansOf (runsOf ((r, l) :: G)) (r : Int) = l := by rw [runsOf, spans_app, spans_runsG, if_pos rfl, e, List.append_nil]
      simp only [repsFrom, countFrom, hc.1, hc.2, ih.1, ih.2, es]
      rw [repBytes, if_neg h3, if_neg h3]
      refine ⟨by simp [gBytes], by simp only [List.length_cons]; omega⟩
    · have ih := reps_asc n (k + 1) ((r, l) :: G) (by omega) ⟨by omega, h2, h3, h4, h5⟩
      have es : spansOf (runsOf ((r, l) :: G)) (k : Int) = [] := asc_none _ ((k : Int)) (k : Int) ⟨by omega, h2, h3, h4, h5⟩ (Int.le_refl _)
      simp only [repsFrom, countFrom, ih.1, ih.2, es]
      simp [repBytes]
theorem ok_same (r : Nat) (hr : r < 8) (xs : List Rn) (hx : ∀ q : Rn, q.r = r → okPre (some q) xs = true) : ∀ (l : List Sp) (q : Rn), q.r = r → -1 ≤ q.t → q.t ≤ 1000000000 → From q.t l → okPre (some q) (runsG r l ++ xs) = true
  | [], q, hq, _, _, _ => hx q hq
  | s :: l, q, hq, h1, h2, h => by
    obtain ⟨f1, f2, f3, f4⟩ := h
    have ih := ok_same r hr xs hx l ⟨r, s.f, s.t⟩ rfl (by show -1 ≤ s.t; omega) f3 f4
    have hw : wrap64 (q.t + 1) = q.t + 1 := by unfold wrap64; omega
    show (runOk ⟨r, s.f, s.t⟩ && apart q ⟨r, s.f, s.t⟩ && okPre (some ⟨r, s.f, s.t⟩) (runsG r l ++ xs)) = true
    rw [ih]
    simp only [runOk, apart, hw, hq, Bool.and_true]
    simp; omega
def apO : Option Rn → Rn → Bool
  | none, _ => true
  | some q, x => apart q x
theorem okPre_cons (p : Option Rn) (x : Rn) (l : List Rn) : okPre p (x :: l) = (runOk x && apO p x && okPre (some x) l) := by cases p <;> rfl
theorem asc_ok : ∀ (G : List (Nat × List Sp)) (b : Int) (p : Option Rn), Asc b G → (∀ q, p = some q → q.r ≤ b) → okPre p (runsOf G) = true
  | [], _, p, _, _ => by cases p <;> rfl
  | (r, l) :: G, b, p, h, hp => by
    obtain ⟨h1, h2, h3, h4, h5⟩ := h
    cases l with
    | nil => exact absurd rfl h3
    | cons s l =>
      obtain ⟨f1, f2, f3, f4⟩ := h4
      have ih := ok_same r h2 (runsOf G) (fun q hq => asc_ok G r (some q) h5 (fun q' e => by cases e; omega)) l ⟨r, s.f, s.t⟩ rfl (by show -1 ≤ s.t; omega) f3 f4
      have ha : apO p ⟨r, s.f, s.t⟩ = true := by
        cases p with
        | none => rfl
        | some q =>
          have := hp q rfl
          simp only [apO, apart]
          have hlt : decide (q.r < (r : Int)) = true := by simp; omega
          rw [hlt]; rfl
      show okPre p (⟨r, s.f, s.t⟩ :: (runsG r l ++ runsOf G)) = true
      rw [okPre_cons, ih, ha]
      simp only [runOk, Bool.and_true]
      simp; omega
theorem ctx_asc {G : List (Nat × List Sp)} (h : Asc (-1) G) (hl : (runsOf G).length ≤ 1000) : ctxOk (runsOf G) = true ∧ ctxBytes (runsOf G) = uv G.length ++ gBytes G := by
  refine ⟨by unfold ctxOk; rw [asc_ok G (-1) none h (fun q e => by cases e)]; simpa using hl, ?_⟩
  have := reps_asc 8 0 G rfl (by simpa using h)
  unfold ctxBytes; rw [this.1, this.2]
theorem asc_up {G : List (Nat × List Sp)} {b b' : Int} (h : Asc b G) (hh : ∀ r l G', G = (r, l) :: G' → b' < (r : Int)) : Asc b' G := by
  cases G with
  | nil => trivial
  | cons g G => obtain ⟨r, l⟩ := g; obtain ⟨h1, h2⟩ := h; exact ⟨hh r l G rfl, h2⟩
theorem grp : ∀ (xs : List Rn) (p : Option Rn), okPre p xs = true → (∀ q, p = some q → runOk q = true) → ∃ G, runsOf G = xs ∧ Asc (-1) G ∧ ∀ q, p = some q → ∀ r l G', G = (r, l) :: G' → q.r < r ∨ (q.r = r ∧ From q.t l)
  | [], _, _, _ => ⟨[], rfl, trivial, fun _ _ _ _ _ h => by cases h⟩
  | x :: xs, p, h, hp => by
    have h' := h
    rw [okPre_cons] at h'
    simp only [Bool.and_eq_true] at h'
    obtain ⟨⟨hx, ha⟩, hr⟩ := h'
    obtain ⟨G, e, hA, hc⟩ := grp xs (some x) hr (fun q e => by cases e; exact hx)
    have hb : 0 ≤ x.r ∧ x.r < 8 ∧ 1 ≤ x.f ∧ x.f ≤ x.t ∧ x.t ≤ 1000000000 := by simpa [runOk] using hx
    have exr : (x.r.toNat : Int) = x.r := by omega
    have hap : ∀ q, p = some q → q.r < x.r ∨ (q.r = x.r ∧ q.t + 2 ≤ x.f) := by
      intro q e
      subst e
      have hq := hp q rfl
      have hqb : 0 ≤ q.r ∧ q.r < 8 ∧ 1 ≤ q.f ∧ q.f ≤ q.t ∧ q.t ≤ 1000000000 := by simpa [runOk] using hq
      have hw : wrap64 (q.t + 1) = q.t + 1 := by unfold wrap64; omega
      simp only [apO, apart, hw] at ha
      simp at ha
      omega
    by_cases hm : ∃ l G', G = (x.r.toNat, l) :: G'
    · obtain ⟨l, G', rfl⟩ := hm
      obtain ⟨a1, a2, a3, a4, a5⟩ := hA
      have hf : From x.t l := by
        rcases hc x rfl _ l G' rfl with h | h
        · omega
        · exact h.2
      refine ⟨(x.r.toNat, ⟨x.f, x.t⟩ :: l) :: G', ?_, ⟨a1, a2, by simp, ⟨by show -1 + 2 ≤ x.f; omega, by show x.f ≤ x.t; omega, by show x.t ≤ _; omega, hf⟩, a5⟩, ?_⟩
      · rw [← e]; simp [runsOf, runsG, exr]
      · intro q eq r l2 G2 e2
        cases e2
        rcases hap q eq with h | h
        · exact .inl (by omega)
        · exact .inr ⟨by omega, ⟨h.2, by show x.f ≤ x.t; omega, by show x.t ≤ _; omega, hf⟩⟩
    · have hA2 : Asc x.r G := asc_up hA (fun r l G' e => by
        rcases hc x rfl r l G' e with h | h
        · exact h
        · exact absurd ⟨l, G', by rw [e]; congr 2; omega⟩ hm)
      refine ⟨(x.r.toNat, [⟨x.f, x.t⟩]) :: G, ?_, ⟨by omega, by omega, by simp, ⟨by show -1 + 2 ≤ x.f; omega, by show x.f ≤ x.t; omega, by show x.t ≤ _; omega, trivial⟩, by rw [exr]; exact hA2⟩, ?_⟩
      · rw [← e]; simp [runsOf, runsG, exr]
      · intro q eq r l2 G2 e2
        cases e2
        rcases hap q eq with h | h
        · exact .inl (by omega)
        · exact .inr ⟨by omega, ⟨h.2, by show x.f ≤ x.t; omega, by show x.t ≤ _; omega, trivial⟩⟩
theorem ctx_groups {xs : List Rn} (h : ctxOk xs = true) : ∃ G, runsOf G = xs ∧ Asc (-1) G := by
  have h1 : okPre none xs = true := by unfold ctxOk at h; simp at h; exact h.1
  obtain ⟨G, e, hA, _⟩ := grp xs none h1 (fun q e => by cases e)
  exact ⟨G, e, hA⟩
end Go.Proofs.YtonkdmjhlaikhaaDoor
