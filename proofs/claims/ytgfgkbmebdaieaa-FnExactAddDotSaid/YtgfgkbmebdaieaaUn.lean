/- The union of contexts in plain Lean: lists of runs that stand apart are known by their dots. -/
import Derived.Test.YtgfgkbmebdaieaaPn
import Derived.Test.YtgfgkbmebdaieaaHd
namespace Go.Ow
set_option linter.unusedSimpArgs false
set_option linter.unusedVariables false
open Go.RowKit
/-- One run wholly in front of another, with a gap. -/
def Ap (u v : Rn) : Prop := u.r < v.r ∨ (u.r = v.r ∧ u.t + 1 < v.f)
def Vd (u : Rn) : Prop := (0 ≤ u.r ∧ u.r < 8) ∧ 1 ≤ u.f ∧ u.f ≤ u.t ∧ u.t ≤ 1000000000
def Nf (xs : List Rn) : Prop := xs.Pairwise Ap ∧ ∀ u ∈ xs, Vd u
def Hs (u : Rn) (r q : Int) : Prop := u.r = r ∧ u.f ≤ q ∧ q ≤ u.t
def In (xs : List Rn) (r q : Int) : Prop := ∃ u ∈ xs, Hs u r q
theorem in_nil (r q : Int) : ¬ In [] r q := by rintro ⟨u, hu, _⟩; cases hu
theorem in_cons (u : Rn) (xs : List Rn) (r q : Int) : In (u :: xs) r q ↔ Hs u r q ∨ In xs r q := by
  constructor
  · rintro ⟨v, hv, h⟩
    rcases List.mem_cons.1 hv with rfl | hv
    · exact .inl h
    · exact .inr ⟨v, hv, h⟩
  · rintro (h | ⟨v, hv, h⟩)
    · exact ⟨u, by simp, h⟩
    · exact ⟨v, by simp [hv], h⟩
theorem in_app (xs ys : List Rn) (r q : Int) : In (xs ++ ys) r q ↔ In xs r q ∨ In ys r q := by
  constructor
  · rintro ⟨v, hv, h⟩
    rcases List.mem_append.1 hv with hv | hv
    · exact .inl ⟨v, hv, h⟩
    · exact .inr ⟨v, hv, h⟩
  · rintro (⟨v, hv, h⟩ | ⟨v, hv, h⟩)
    · exact ⟨v, by simp [hv], h⟩
    · exact ⟨v, by simp [hv], h⟩
theorem hasB_in (xs : List Rn) (r q : Int) : hasB xs r q = true ↔ In xs r q := by
  unfold hasB In Hs
  rw [List.any_eq_true]
  constructor
  · rintro ⟨u, hu, h⟩; simp at h; exact ⟨u, hu, h⟩
  · rintro ⟨u, hu, h⟩; exact ⟨u, hu, by simpa using h⟩
theorem nf_cons {u : Rn} {xs : List Rn} : Nf (u :: xs) ↔ Vd u ∧ (∀ v ∈ xs, Ap u v) ∧ Nf xs := by
  unfold Nf
  rw [List.pairwise_cons]
  constructor
  · rintro ⟨⟨h1, h2⟩, h3⟩; exact ⟨h3 u (by simp), h1, h2, fun v hv => h3 v (by simp [hv])⟩
  · rintro ⟨h1, h2, h3, h4⟩; exact ⟨⟨h2, h3⟩, fun v hv => by
      rcases List.mem_cons.1 hv with rfl | hv
      · exact h1
      · exact h4 v hv⟩
theorem nf_unique : ∀ (xs ys : List Rn), Nf xs → Nf ys → (∀ r q, In xs r q ↔ In ys r q) → xs = ys
  | [], [], _, _, _ => rfl
  | [], y :: ys, _, hy, h => by
    have h1 := (nf_cons.1 hy).1
    exact absurd ((h y.r y.f).2 ((in_cons _ _ _ _).2 (.inl ⟨rfl, by omega, h1.2.2.1⟩))) (in_nil _ _)
  | x :: xs, [], hx, _, h => by
    have h1 := (nf_cons.1 hx).1
    exact absurd ((h x.r x.f).1 ((in_cons _ _ _ _).2 (.inl ⟨rfl, by omega, h1.2.2.1⟩))) (in_nil _ _)
  | x :: xs, y :: ys, hx, hy, h => by
    obtain ⟨⟨vx1, vx2, vx3, vx4⟩, ax, nx⟩ := nf_cons.1 hx
    obtain ⟨⟨vy1, vy2, vy3, vy4⟩, ay, ny⟩ := nf_cons.1 hy
    -- a dot of the tail lies behind the head
    have tail : ∀ (u : Rn) (l : List Rn), (∀ v ∈ l, Ap u v) → ∀ r q, In l r q → u.r < r ∨ (u.r = r ∧ u.t + 1 < q) := by
      rintro u l ha r q ⟨v, hv, hr, hf, ht⟩
      rcases ha v hv with h | h
      · exact .inl (by omega)
      · exact .inr ⟨by omega, by omega⟩
    have e1 : x.r = y.r ∧ x.f = y.f := by
      have p1 := (in_cons _ _ _ _).1 ((h x.r x.f).1 ((in_cons _ _ _ _).2 (.inl ⟨rfl, by omega, vx3⟩)))
      have p2 := (in_cons _ _ _ _).1 ((h y.r y.f).2 ((in_cons _ _ _ _).2 (.inl ⟨rfl, by omega, vy3⟩)))
      have q1 : (y.r = x.r ∧ y.f ≤ x.f) ∨ y.r < x.r ∨ (y.r = x.r ∧ y.t + 1 < x.f) := by
        rcases p1 with p | p
        · exact .inl ⟨p.1, p.2.1⟩
        · exact .inr (tail y ys ay _ _ p)
      have q2 : (x.r = y.r ∧ x.f ≤ y.f) ∨ x.r < y.r ∨ (x.r = y.r ∧ x.t + 1 < y.f) := by
        rcases p2 with p | p
        · exact .inl ⟨p.1, p.2.1⟩
        · exact .inr (tail x xs ax _ _ p)
      omega
    have e2 : x.t = y.t := by
      rcases Int.lt_trichotomy x.t y.t with hlt | he | hlt
      · have p := (in_cons _ _ _ _).1 ((h x.r (x.t + 1)).2 ((in_cons _ _ _ _).2 (.inl ⟨e1.1.symm, by omega, by omega⟩)))
        rcases p with p | p
        · have := p.2.2; omega
        · have := tail x xs ax _ _ p; omega
      · exact he
      · have p := (in_cons _ _ _ _).1 ((h y.r (y.t + 1)).1 ((in_cons _ _ _ _).2 (.inl ⟨e1.1, by omega, by omega⟩)))
        rcases p with p | p
        · have := p.2.2; omega
        · have := tail y ys ay _ _ p; omega
    obtain rfl : x = y := by
      cases x; cases y; simp only at e1 e2; obtain ⟨rfl, rfl⟩ := e1; subst e2; rfl
    congr 1
    refine nf_unique xs ys nx ny fun r q => ⟨fun hi => ?_, fun hi => ?_⟩
    · rcases (in_cons _ _ _ _).1 ((h r q).1 ((in_cons _ _ _ _).2 (.inr hi))) with p | p
      · have := tail x xs ax _ _ hi; have := p.1; have := p.2.2; omega
      · exact p
    · rcases (in_cons _ _ _ _).1 ((h r q).2 ((in_cons _ _ _ _).2 (.inr hi))) with p | p
      · have := tail x ys ay _ _ hi; have := p.1; have := p.2.2; omega
      · exact p
theorem nf_okPre : ∀ (xs : List Rn) (p : Option Rn), okPre p xs = true → Nf xs ∧ ∀ q, p = some q → Vd q → ∀ v ∈ xs, Ap q v
  | [], _, _ => ⟨⟨List.Pairwise.nil, by simp⟩, by simp⟩
  | x :: xs, p, h => by
    have hb := okPre_bound (x :: xs) p h x (by simp)
    have hv : Vd x := ⟨⟨hb.1, hb.2.1⟩, hb.2.2.1, hb.2.2.2.1, hb.2.2.2.2⟩
    have h' : okPre (some x) xs = true := by simp only [okPre, Bool.and_eq_true] at h; exact h.2
    obtain ⟨n, a⟩ := nf_okPre xs (some x) h'
    refine ⟨nf_cons.2 ⟨hv, a x rfl hv, n⟩, ?_⟩
    rintro q rfl hq v hv'
    have := okPre_up (x :: xs) q h hq.2.2.2 (by have := hq.2.1; have := hq.2.2.1; omega) v hv'
    rcases Int.lt_trichotomy q.r v.r with hl | hl | hl
    · exact .inl hl
    · exact .inr ⟨hl, this.2 hl⟩
    · omega
theorem okPre_nf : ∀ (xs : List Rn) (p : Option Rn), Nf xs → (∀ q, p = some q → Vd q ∧ ∀ v ∈ xs, Ap q v) → okPre p xs = true
  | [], p, _, _ => by cases p <;> rfl
  | x :: xs, p, h, hp => by
    obtain ⟨⟨v1, v2, v3, v4⟩, ax, nx⟩ := nf_cons.1 h
    have ih := okPre_nf xs (some x) nx (by rintro q e; cases e; exact ⟨⟨v1, v2, v3, v4⟩, ax⟩)
    have hr : runOk x = true := by simp [runOk]; omega
    cases p with
    | none => simp only [okPre, ih, hr]; rfl
    | some q =>
      obtain ⟨hq, ha⟩ := hp q rfl
      have hw : wrap64 (q.t + 1) = q.t + 1 := by have := hq.2.2.2; have := hq.2.1; have := hq.2.2.1; unfold wrap64; omega
      have : apart q x = true := by
        have := ha x (by simp)
        unfold Ap at this
        simp [apart, hw]; omega
      simp only [okPre, ih, hr, this]; rfl
theorem ctxOk_nf (xs : List Rn) : ctxOk xs = true ↔ Nf xs ∧ xs.length ≤ 1000 := by
  unfold ctxOk
  simp only [Bool.and_eq_true, decide_eq_true_eq]
  exact ⟨fun ⟨a, b⟩ => ⟨(nf_okPre xs none a).1, b⟩, fun ⟨a, b⟩ => ⟨okPre_nf xs none a (fun q e => by cases e), b⟩⟩
/-! The reference: run by run. -/
def mrg (r x : Rn) : Rn := ⟨r.r, (if x.f < r.f then x.f else r.f), (if r.t < x.t then x.t else r.t)⟩
def ins (bs : List Rn) (r : Rn) (cs : List Rn) : List Rn → List Rn
  | [] => bs ++ r :: cs
  | x :: l => if apart x r = true then ins (bs ++ [x]) r cs l else if apart r x = true then ins bs r (cs ++ [x]) l else ins bs (mrg r x) cs l
theorem apart_Ap {u v : Rn} (hu : Vd u) : apart u v = true ↔ Ap u v := by
  have hw : wrap64 (u.t + 1) = u.t + 1 := by have := hu.2.2.2; have := hu.2.1; have := hu.2.2.1; unfold wrap64; omega
  unfold Ap
  simp [apart, hw]
theorem ap_trans {u v w : Rn} (hv : Vd v) (h1 : Ap u v) (h2 : Ap v w) : Ap u w := by
  have := hv.2.2.1
  unfold Ap at *; omega
theorem nf_app {xs ys : List Rn} : Nf (xs ++ ys) ↔ Nf xs ∧ Nf ys ∧ ∀ u ∈ xs, ∀ v ∈ ys, Ap u v := by
  unfold Nf
  rw [List.pairwise_append]
  constructor
  · rintro ⟨⟨a, b, c⟩, d⟩; exact ⟨⟨a, fun u hu => d u (by simp [hu])⟩, ⟨b, fun u hu => d u (by simp [hu])⟩, c⟩
  · rintro ⟨⟨a, a'⟩, ⟨b, b'⟩, c⟩; exact ⟨⟨a, b, c⟩, fun u hu => by
      rcases List.mem_append.1 hu with h | h
      · exact a' u h
      · exact b' u h⟩
theorem ins_nf : ∀ (l bs : List Rn) (r : Rn) (cs : List Rn), Vd r → Nf (bs ++ (cs ++ l)) → (∀ u ∈ bs, Ap u r) → (∀ v ∈ cs, Ap r v) → Nf (ins bs r cs l) ∧ ∀ i q, In (ins bs r cs l) i q ↔ (In bs i q ∨ Hs r i q ∨ In cs i q ∨ In l i q)
  | [], bs, r, cs, hr, hn, hb, ha => by
    rw [List.append_nil] at hn
    obtain ⟨n1, n2, n3⟩ := nf_app.1 hn
    refine ⟨nf_app.2 ⟨n1, nf_cons.2 ⟨hr, ha, n2⟩, fun u hu v hv => ?_⟩, fun i q => ?_⟩
    · rcases List.mem_cons.1 hv with rfl | hv
      · exact hb u hu
      · exact n3 u hu v hv
    · rw [ins, in_app, in_cons]
      have := in_nil i q
      constructor
      · rintro (h | h | h)
        · exact .inl h
        · exact .inr (.inl h)
        · exact .inr (.inr (.inl h))
      · rintro (h | h | h | h)
        · exact .inl h
        · exact .inr (.inl h)
        · exact .inr (.inr h)
        · exact absurd h this
  | x :: l, bs, r, cs, hr, hn, hb, ha => by
    obtain ⟨n1, n2, n3⟩ := nf_app.1 hn
    obtain ⟨m1, m2, m3⟩ := nf_app.1 n2
    obtain ⟨vx, ax, nl⟩ := nf_cons.1 m2
    have has : cs ≠ [] → Ap r x := by
      intro h
      obtain ⟨v, hv⟩ := List.exists_mem_of_ne_nil cs h
      exact ap_trans (m1.2 v hv) (ha v hv) (m3 v hv x (by simp))
    rw [ins]
    by_cases h1 : apart x r = true
    · rw [if_pos h1]
      rw [apart_Ap vx] at h1
      have e : cs = [] := by
        rcases cs with _ | ⟨v, cs⟩
        · rfl
        · exfalso
          have := has (by simp)
          have h2 := vx.2.2.1
          have h3 := hr.2.2.1
          unfold Ap at *; omega
      subst e
      have ih := ins_nf l (bs ++ [x]) r [] hr (by simpa using hn) (fun u hu => by
        rcases List.mem_append.1 hu with h | h
        · exact hb u h
        · rw [List.mem_singleton] at h; subst h; exact h1) (by simp)
      refine ⟨ih.1, fun i q => ?_⟩
      rw [ih.2, in_app, in_cons, in_cons]
      have := in_nil i q
      constructor
      · rintro ((h | h | h) | h | h | h)
        · exact .inl h
        · exact .inr (.inr (.inr (.inl h)))
        · exact absurd h this
        · exact .inr (.inl h)
        · exact absurd h this
        · exact .inr (.inr (.inr (.inr h)))
      · rintro (h | h | h | h | h)
        · exact .inl (.inl h)
        · exact .inr (.inl h)
        · exact absurd h this
        · exact .inl (.inr (.inl h))
        · exact .inr (.inr (.inr h))
    · rw [if_neg h1]
      by_cases h2 : apart r x = true
      · rw [if_pos h2]
        rw [apart_Ap hr] at h2
        have ih := ins_nf l bs r (cs ++ [x]) hr (by simpa using hn) hb (fun u hu => by
          rcases List.mem_append.1 hu with h | h
          · exact ha u h
          · rw [List.mem_singleton] at h; subst h; exact h2)
        refine ⟨ih.1, fun i q => ?_⟩
        rw [ih.2, in_app, in_cons, in_cons]
        have := in_nil i q
        constructor
        · rintro (h | h | (h | h | h) | h)
          · exact .inl h
          · exact .inr (.inl h)
          · exact .inr (.inr (.inl h))
          · exact .inr (.inr (.inr (.inl h)))
          · exact absurd h this
          · exact .inr (.inr (.inr (.inr h)))
        · rintro (h | h | h | h | h)
          · exact .inl h
          · exact .inr (.inl h)
          · exact .inr (.inr (.inl (.inl h)))
          · exact .inr (.inr (.inl (.inr (.inl h))))
          · exact .inr (.inr (.inr h))
      · rw [if_neg h2]
        rw [apart_Ap vx] at h1
        rw [apart_Ap hr] at h2
        have e : cs = [] := by
          rcases cs with _ | ⟨v, cs⟩
          · rfl
          · exact absurd (has (by simp)) h2
        subst e
        obtain ⟨r1, r2, r3, r4⟩ := hr
        obtain ⟨x1, x2, x3, x4⟩ := id vx
        have er : x.r = r.r := by unfold Ap at h1 h2; omega
        have vm : Vd (mrg r x) := by
          refine ⟨r1, ?_, ?_, ?_⟩
          · show 1 ≤ (if x.f < r.f then x.f else r.f); split <;> omega
          · show (if x.f < r.f then x.f else r.f) ≤ (if r.t < x.t then x.t else r.t); split <;> split <;> omega
          · show (if r.t < x.t then x.t else r.t) ≤ _; split <;> omega
        have hn2 : Nf (bs ++ ([] ++ l)) := nf_app.2 ⟨n1, nl, fun u hu v hv => n3 u hu v (by simp only [List.nil_append] at hv ⊢; exact List.mem_cons_of_mem _ hv)⟩
        have ih := ins_nf l bs (mrg r x) [] vm hn2 (fun u hu => by
          have a1 := hb u hu
          have a2 := n3 u hu x (by simp)
          show u.r < r.r ∨ (u.r = r.r ∧ u.t + 1 < (if x.f < r.f then x.f else r.f))
          unfold Ap at a1 a2
          split <;> omega) (by simp)
        refine ⟨ih.1, fun i q => ?_⟩
        rw [ih.2, in_cons]
        have hm : Hs (mrg r x) i q ↔ Hs r i q ∨ Hs x i q := by
          unfold Ap at h1 h2
          unfold Hs mrg
          simp only
          constructor
          · rintro ⟨rfl, a, b⟩
            split at a <;> split at b <;> omega
          · rintro (⟨rfl, a, b⟩ | ⟨rfl, a, b⟩)
            · refine ⟨rfl, ?_, ?_⟩ <;> split <;> omega
            · refine ⟨er.symm, ?_, ?_⟩ <;> split <;> omega
        have := in_nil i q
        rw [hm]
        constructor
        · rintro (h | (h | h) | h | h)
          · exact .inl h
          · exact .inr (.inl h)
          · exact .inr (.inr (.inr (.inl h)))
          · exact absurd h this
          · exact .inr (.inr (.inr (.inr h)))
        · rintro (h | h | h | h | h)
          · exact .inl h
          · exact .inr (.inl (.inl h))
          · exact absurd h this
          · exact .inr (.inl (.inr h))
          · exact .inr (.inr (.inr h))
def uni (xs : List Rn) : List Rn → List Rn
  | [] => xs
  | y :: ys => uni (ins [] y [] xs) ys
theorem uni_nf : ∀ (ys xs : List Rn), Nf xs → (∀ y ∈ ys, Vd y) → Nf (uni xs ys) ∧ ∀ i q, In (uni xs ys) i q ↔ In xs i q ∨ In ys i q
  | [], xs, h, _ => ⟨h, fun i q => by have := in_nil i q; simp only [uni]; exact ⟨fun h => .inl h, fun h => h.elim id (fun h => absurd h this)⟩⟩
  | y :: ys, xs, h, hy => by
    have h1 := ins_nf xs [] y [] (hy y (by simp)) (by simpa using h) (by simp) (by simp)
    have h2 := uni_nf ys (ins [] y [] xs) h1.1 (fun u hu => hy u (by simp [hu]))
    refine ⟨h2.1, fun i q => ?_⟩
    rw [uni, h2.2, h1.2, in_cons]
    have := in_nil i q
    constructor
    · rintro ((h | h | h | h) | h)
      · exact absurd h this
      · exact .inr (.inl h)
      · exact absurd h this
      · exact .inl h
      · exact .inr (.inr h)
    · rintro (h | h | h)
      · exact .inl (.inr (.inr (.inr h)))
      · exact .inl (.inr (.inl h))
      · exact .inr h
theorem ins_len : ∀ (l bs : List Rn) (r : Rn) (cs : List Rn), (ins bs r cs l).length ≤ bs.length + cs.length + l.length + 1
  | [], bs, r, cs => by simp [ins]; omega
  | x :: l, bs, r, cs => by
    rw [ins]
    split
    · have := ins_len l (bs ++ [x]) r cs; simp at this ⊢; omega
    · split
      · have := ins_len l bs r (cs ++ [x]); simp at this ⊢; omega
      · have := ins_len l bs (mrg r x) cs; simp at this ⊢; omega
theorem uni_len : ∀ (ys xs : List Rn), (uni xs ys).length ≤ xs.length + ys.length
  | [], xs => by simp [uni]
  | y :: ys, xs => by
    have := uni_len ys (ins [] y [] xs)
    have h2 := ins_len xs [] y []
    simp only [uni, List.length_cons, List.length_nil] at *; omega
end Go.Ow
