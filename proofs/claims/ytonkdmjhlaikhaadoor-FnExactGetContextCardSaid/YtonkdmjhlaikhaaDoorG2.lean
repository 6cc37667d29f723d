/- Contexts in bytes: the two readers. -/
import Derived.Test.YtonkdmjhlaikhaaDoorG1
namespace Go.Proofs.YtonkdmjhlaikhaaDoor
set_option linter.unusedSimpArgs false
set_option linter.unusedVariables false
open Go.RowKit Go.Ow
def rdP (bs : List UInt8) (p low top : Nat) : Option (Nat × Nat) :=
  if (rdNum (bs.drop p) 0 0).2.2 = 0 ∧ low ≤ (rdNum (bs.drop p) 0 0).1 ∧ (rdNum (bs.drop p) 0 0).1 ≤ top then some ((rdNum (bs.drop p) 0 0).1, p + (rdNum (bs.drop p) 0 0).2.1) else none
theorem drop_of {bs a b : List UInt8} {p : Nat} (h : bs.drop p = a ++ b) : bs.drop (p + a.length) = b := by
  rw [← List.drop_drop, h, List.drop_left]
theorem drop_len {bs a b : List UInt8} {p : Nat} (h : bs.drop p = a ++ b) (hp : p ≤ bs.length) : p + a.length ≤ bs.length := by
  have := congrArg List.length h
  rw [List.length_drop, List.length_append] at this; omega
theorem rdP_iff (bs : List UInt8) (p low top v q : Nat) (hp : p ≤ bs.length) (ht : top < 18446744073709551616) :
    rdP bs p low top = some (v, q) ↔ low ≤ v ∧ v ≤ top ∧ q ≤ bs.length ∧ p ≤ q ∧ bs.drop p = uv v ++ bs.drop q := by
  unfold rdP
  constructor
  · intro h
    split at h
    · rename_i hc
      obtain ⟨h0, h1, h2⟩ := hc
      cases h
      obtain ⟨e1, e2⟩ := rd_is_uv _ h0
      have hl := rdNum_len _ 0 0 h0
      rw [List.length_drop] at hl
      refine ⟨h1, h2, by omega, by omega, ?_⟩
      rw [e1, ← List.drop_drop]
      have := List.take_append_drop (uv (rdNum (bs.drop p) 0 0).1).length (bs.drop p)
      rw [e2] at this
      exact this.symm
    · cases h
  · rintro ⟨h1, h2, h3, h4, h5⟩
    have e := rd_uv v (bs.drop q) (by omega)
    rw [← h5] at e
    rw [e, if_pos ⟨rfl, h1, h2⟩]
    have hl := congrArg List.length h5
    rw [List.length_drop, List.length_append, List.length_drop] at hl
    simp only [Option.some.injEq, Prod.mk.injEq, true_and]
    omega
theorem rdP_put {bs b : List UInt8} {p low top v : Nat} (hp : p ≤ bs.length) (ht : top < 18446744073709551616) (h1 : low ≤ v) (h2 : v ≤ top) (h : bs.drop p = uv v ++ b) : rdP bs p low top = some (v, p + (uv v).length) :=
  (rdP_iff bs p low top v _ hp ht).2 ⟨h1, h2, drop_len h hp, by omega, by rw [drop_of h]; exact h⟩
theorem rdP_le {bs : List UInt8} {p low top v q low' top' : Nat} (h : rdP bs p low top = some (v, q)) (h1 : low' ≤ low) (h2 : top ≤ top') : rdP bs p low' top' = some (v, q) := by
  unfold rdP at h ⊢
  split at h
  · rename_i hc
    rw [if_pos ⟨hc.1, by omega, by omega⟩]; exact h
  · cases h
/-! The program's reader. -/
def spP (bs : List UInt8) : Nat → Int → Nat → Nat → Option (List Sp × Nat)
  | 0, _, p, _ => some ([], p)
  | n + 1, last, p, cnt => (rdP bs p 0 1000000000).bind fun a => (rdP bs a.2 0 1000000000).bind fun b =>
      if 1000000000 < last + 2 + a.1 + b.1 ∨ cnt = 1000 then none else (spP bs n (last + 2 + a.1 + b.1) b.2 (cnt + 1)).map fun c => (⟨last + 2 + a.1, last + 2 + a.1 + b.1⟩ :: c.1, c.2)
theorem spP_iff (bs : List UInt8) : ∀ (n : Nat) (last : Int) (p cnt : Nat) (l : List Sp) (q : Nat), p ≤ bs.length → -1 ≤ last → last ≤ 1000000000 → cnt ≤ 1000 →
    (spP bs n last p cnt = some (l, q) ↔ l.length = n ∧ From last l ∧ cnt + n ≤ 1000 ∧ q ≤ bs.length ∧ p ≤ q ∧ bs.drop p = spanBytes last l ++ bs.drop q)
  | 0, last, p, cnt, l, q, hp, _, _, hc => by
    rw [spP]
    constructor
    · intro h
      cases h
      exact ⟨rfl, trivial, hc, hp, Nat.le_refl _, rfl⟩
    · rintro ⟨h1, _, _, h4, h5, h6⟩
      obtain rfl := List.length_eq_zero_iff.1 h1
      have hl := congrArg List.length h6
      simp only [spanBytes, List.nil_append, List.length_drop] at hl
      simp only [Option.some.injEq, Prod.mk.injEq, true_and]; omega
  | n + 1, last, p, cnt, l, q, hp, h1, h2, hc => by
    rw [spP]
    constructor
    · intro h
      obtain ⟨⟨a, p1⟩, ha, h⟩ := Option.bind_eq_some_iff.1 h
      obtain ⟨⟨b, p2⟩, hb, h⟩ := Option.bind_eq_some_iff.1 h
      obtain ⟨_, a2, a3, a4, a5⟩ := (rdP_iff bs p 0 _ a p1 hp (by omega)).1 ha
      obtain ⟨_, b2, b3, b4, b5⟩ := (rdP_iff bs p1 0 _ b p2 a3 (by omega)).1 hb
      simp only at h
      split at h
      · cases h
      · rename_i hno
        obtain ⟨⟨c, q'⟩, hcc, e⟩ := Option.map_eq_some_iff.1 h
        cases e
        obtain ⟨c1, c2, c3, c4, c5, c6⟩ := (spP_iff bs n _ p2 (cnt + 1) c q' b3 (by omega) (by omega) (by omega)).1 hcc
        refine ⟨by simp [c1], ⟨by show last + 2 ≤ last + 2 + (a : Int); omega, by show last + 2 + (a : Int) ≤ last + 2 + (a : Int) + b; omega, by show last + 2 + (a : Int) + b ≤ _; omega, c2⟩, by omega, c4, by omega, ?_⟩
        rw [spanBytes, a5, b5, c6]
        have e1 : (last + 2 + (a : Int) - last - 2).toNat = a := by omega
        have e2 : (last + 2 + (a : Int) + b - (last + 2 + a)).toNat = b := by omega
        simp only [e1, e2, List.append_assoc]
    · rintro ⟨g1, g2, g3, g4, g5, g6⟩
      cases l with
      | nil => simp at g1
      | cons s l =>
        obtain ⟨f1, f2, f3, f4⟩ := g2
        simp only [List.length_cons] at g1
        rw [spanBytes, List.append_assoc, List.append_assoc] at g6
        obtain ⟨a, ha⟩ : ∃ a, (s.f - last - 2).toNat = a := ⟨_, rfl⟩
        obtain ⟨b, hb⟩ : ∃ b, (s.t - s.f).toNat = b := ⟨_, rfl⟩
        rw [ha, hb] at g6
        have r1 := rdP_put (low := 0) (top := 1000000000) hp (by omega) (by omega) (by omega) g6
        have d1 := drop_of g6
        have l1 := drop_len g6 hp
        have r2 := rdP_put (low := 0) (top := 1000000000) l1 (by omega) (by omega) (by omega) d1
        have d2 := drop_of d1
        have l2 := drop_len d1 l1
        have et : last + 2 + (a : Int) + b = s.t := by omega
        have ef : last + 2 + (a : Int) = s.f := by omega
        have d2l := congrArg List.length d2
        have hq : p + (uv a).length + (uv b).length ≤ q := by
          rw [List.length_drop, List.length_append, List.length_drop] at d2l; omega
        have ih := (spP_iff bs n s.t _ (cnt + 1) l q l2 (by omega) f3 (by omega)).2 ⟨by omega, f4, by omega, g4, hq, d2⟩
        rw [r1, Option.bind_some]
        simp only
        rw [r2, Option.bind_some]
        simp only
        rw [et, if_neg (by omega), ih, ef]
        rfl
def cxP (bs : List UInt8) : Nat → Int → Nat → Nat → Option (List (Nat × List Sp) × Nat)
  | 0, _, p, _ => some ([], p)
  | n + 1, before, p, cnt => (rdP bs p (before + 1).toNat 7).bind fun a => (rdP bs a.2 1 1000).bind fun m => (spP bs m.1 (-1) m.2 cnt).bind fun l =>
      (cxP bs n a.1 l.2 (cnt + m.1)).map fun c => ((a.1, l.1) :: c.1, c.2)
theorem cxP_iff (bs : List UInt8) : ∀ (n : Nat) (before : Int) (p cnt : Nat) (G : List (Nat × List Sp)) (q : Nat), p ≤ bs.length → -1 ≤ before → cnt ≤ 1000 →
    (cxP bs n before p cnt = some (G, q) ↔ G.length = n ∧ Asc before G ∧ cnt + (runsOf G).length ≤ 1000 ∧ q ≤ bs.length ∧ p ≤ q ∧ bs.drop p = gBytes G ++ bs.drop q)
  | 0, before, p, cnt, G, q, hp, _, hc => by
    rw [cxP]
    constructor
    · intro h
      cases h
      exact ⟨rfl, trivial, hc, hp, Nat.le_refl _, rfl⟩
    · rintro ⟨h1, _, _, h4, h5, h6⟩
      obtain rfl := List.length_eq_zero_iff.1 h1
      have hl := congrArg List.length h6
      simp only [gBytes, List.nil_append, List.length_drop] at hl
      simp only [Option.some.injEq, Prod.mk.injEq, true_and]; omega
  | n + 1, before, p, cnt, G, q, hp, h1, hc => by
    rw [cxP]
    constructor
    · intro h
      obtain ⟨⟨a, p1⟩, ha, h⟩ := Option.bind_eq_some_iff.1 h
      obtain ⟨⟨m, p2⟩, hm, h⟩ := Option.bind_eq_some_iff.1 h
      obtain ⟨⟨l, p3⟩, hl, h⟩ := Option.bind_eq_some_iff.1 h
      obtain ⟨⟨c, q'⟩, hcc, e⟩ := Option.map_eq_some_iff.1 h
      cases e
      simp only at hm hl hcc
      obtain ⟨a1, a2, a3, a4, a5⟩ := (rdP_iff bs p _ _ a p1 hp (by omega)).1 ha
      obtain ⟨m1, m2, m3, m4, m5⟩ := (rdP_iff bs p1 _ _ m p2 a3 (by omega)).1 hm
      obtain ⟨l1, l2, l3, l4, l5, l6⟩ := (spP_iff bs m (-1) p2 cnt l p3 m3 (by omega) (by omega) hc).1 hl
      obtain ⟨c1, c2, c3, c4, c5, c6⟩ := (cxP_iff bs n a p3 (cnt + m) c q' l4 (by omega) (by omega)).1 hcc
      refine ⟨by simp [c1], ⟨by omega, by omega, by intro h; subst h; simp at l1; omega, l2, c2⟩, ?_, c4, by omega, ?_⟩
      · simp only [runsOf, runsG, List.length_append, List.length_map]; omega
      · rw [gBytes, a5, m5, l6, c6, l1]; simp only [List.append_assoc]
    · rintro ⟨g1, g2, g3, g4, g5, g6⟩
      cases G with
      | nil => simp at g1
      | cons g G =>
        obtain ⟨r, l⟩ := g
        obtain ⟨f1, f2, f3, f4, f5⟩ := g2
        simp only [List.length_cons] at g1
        simp only [runsOf, runsG, List.length_append, List.length_map] at g3
        rw [gBytes, List.append_assoc, List.append_assoc, List.append_assoc] at g6
        have hl0 : 1 ≤ l.length := by cases l with | nil => exact absurd rfl f3 | cons => simp
        have r1 := rdP_put (low := (before + 1).toNat) (top := 7) hp (by omega) (by omega) (by omega) g6
        have d1 := drop_of g6
        have l1 := drop_len g6 hp
        have r2 := rdP_put (low := 1) (top := 1000) l1 (by omega) hl0 (by omega) d1
        have d2 := drop_of d1
        have l2 := drop_len d1 l1
        have d3 := drop_of d2
        have l3 := drop_len d2 l2
        have hq : p + (uv r).length + (uv l.length).length + (spanBytes (-1) l).length ≤ q := by
          have d3l := congrArg List.length d3
          rw [List.length_drop, List.length_append, List.length_drop] at d3l; omega
        have r3 := (spP_iff bs l.length (-1) _ cnt l _ l2 (by omega) (by omega) hc).2 ⟨rfl, f4, by omega, l3, by omega, by rw [d3]; exact d2⟩
        have r4 := (cxP_iff bs n r _ (cnt + l.length) G q l3 (by omega) (by omega)).2 ⟨by omega, f5, by omega, g4, hq, d3⟩
        rw [r1, Option.bind_some]
        simp only
        rw [r2, Option.bind_some]
        simp only
        rw [r3, Option.bind_some]
        simp only
        rw [r4]
        rfl
def ctxI (bs : List UInt8) (p : Nat) : Option (List Rn × Nat) := (rdP bs p 0 8).bind fun n => (cxP bs n.1 (-1) n.2 0).map fun c => (runsOf c.1, c.2)
theorem ctxI_iff (bs : List UInt8) (p : Nat) (xs : List Rn) (q : Nat) (hp : p ≤ bs.length) : ctxI bs p = some (xs, q) ↔ ctxOk xs = true ∧ q ≤ bs.length ∧ p ≤ q ∧ bs.drop p = ctxBytes xs ++ bs.drop q := by
  unfold ctxI
  constructor
  · intro h
    obtain ⟨⟨n, p1⟩, hn, h⟩ := Option.bind_eq_some_iff.1 h
    obtain ⟨⟨G, q'⟩, hc, e⟩ := Option.map_eq_some_iff.1 h
    cases e
    obtain ⟨_, n2, n3, n4, n5⟩ := (rdP_iff bs p _ _ n p1 hp (by omega)).1 hn
    obtain ⟨c1, c2, c3, c4, c5, c6⟩ := (cxP_iff bs n (-1) p1 0 G q' n3 (by omega) (by omega)).1 hc
    obtain ⟨k1, k2⟩ := ctx_asc c2 (by omega)
    exact ⟨k1, c4, by omega, by rw [k2, n5, c6, c1, List.append_assoc]⟩
  · rintro ⟨h1, h2, h3, h4⟩
    obtain ⟨G, rfl, hA⟩ := ctx_groups h1
    have hl := ctx_len h1
    obtain ⟨_, k2⟩ := ctx_asc hA hl
    rw [k2, List.append_assoc] at h4
    have hG8 : G.length ≤ 8 := by
      have := reps_asc 8 0 G rfl (by simpa using hA)
      have h := countFrom_le (runsOf G) 8 0
      omega
    have r1 := rdP_put (low := 0) (top := 8) hp (by omega) (by omega) hG8 h4
    have d1 := drop_of h4
    have l1 := drop_len h4 hp
    have hq : p + (uv G.length).length ≤ q := by
      have d1l := congrArg List.length d1
      rw [List.length_drop, List.length_append, List.length_drop] at d1l; omega
    have r2 := (cxP_iff bs G.length (-1) _ 0 G q l1 (by omega) (by omega)).2 ⟨rfl, hA, by omega, h2, hq, d1⟩
    rw [r1, Option.bind_some]
    simp only
    rw [r2]
    rfl
end Go.Proofs.YtonkdmjhlaikhaaDoor
