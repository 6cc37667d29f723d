/- Spans of one replica, joined; the runs of a live context. -/
import Derived.Test.YtgfgkbmebdaieaaUn
namespace Go.Ow
set_option linter.unusedSimpArgs false
set_option linter.unusedVariables false
open Go.RowKit
def Vs (s : Sp) : Prop := 1 ≤ s.f ∧ s.f ≤ s.t ∧ s.t ≤ 1000000000
def Ns (l : List Sp) : Prop := l.Pairwise (fun u v => u.t + 1 < v.f) ∧ ∀ s ∈ l, Vs s
def SpIn (l : List Sp) (q : Int) : Prop := ∃ s ∈ l, s.f ≤ q ∧ q ≤ s.t
theorem spIn_app (a b : List Sp) (q : Int) : SpIn (a ++ b) q ↔ SpIn a q ∨ SpIn b q := by
  constructor
  · rintro ⟨v, hv, h⟩
    rcases List.mem_append.1 hv with hv | hv
    · exact .inl ⟨v, hv, h⟩
    · exact .inr ⟨v, hv, h⟩
  · rintro (⟨v, hv, h⟩ | ⟨v, hv, h⟩)
    · exact ⟨v, by simp [hv], h⟩
    · exact ⟨v, by simp [hv], h⟩
theorem spIn_one (s : Sp) (q : Int) : SpIn [s] q ↔ s.f ≤ q ∧ q ≤ s.t :=
  ⟨by rintro ⟨v, hv, h⟩; rw [List.mem_singleton] at hv; subst hv; exact h, fun h => ⟨s, by simp, h⟩⟩
theorem spIn_nil (q : Int) : ¬ SpIn [] q := by rintro ⟨v, hv, _⟩; cases hv
theorem spIn_perm {a b : List Sp} (h : a.Perm b) (q : Int) : SpIn a q ↔ SpIn b q :=
  ⟨fun ⟨v, hv, h'⟩ => ⟨v, h.mem_iff.1 hv, h'⟩, fun ⟨v, hv, h'⟩ => ⟨v, h.mem_iff.2 hv, h'⟩⟩
theorem ns_nil : Ns [] := ⟨List.Pairwise.nil, by simp⟩
def stp (out : List Sp) (s : Sp) : List Sp :=
  match out[out.length - 1]? with
  | some u => if s.f ≤ u.t + 1 then out.set (out.length - 1) ⟨u.f, if u.t < s.t then s.t else u.t⟩ else out ++ [s]
  | none => out ++ [s]
theorem stp_nil (s : Sp) : stp [] s = [s] := rfl
theorem stp_snoc (o : List Sp) (u s : Sp) : stp (o ++ [u]) s = if s.f ≤ u.t + 1 then o ++ [⟨u.f, if u.t < s.t then s.t else u.t⟩] else o ++ [u, s] := by
  unfold stp
  have e : (o ++ [u]).length - 1 = o.length := by simp
  rw [e]
  have e2 : (o ++ [u])[o.length]? = some u := by simp
  rw [e2]
  simp only
  split
  · simp
  · simp
theorem stp_len (o : List Sp) (s : Sp) : (stp o s).length ≤ o.length + 1 := by
  unfold stp
  split
  · split <;> simp
  · simp
theorem stp_ns (o : List Sp) (s : Sp) (h : Ns o) (hs : Vs s) (hf : ∀ u ∈ o, u.f ≤ s.f) : Ns (stp o s) ∧ (∀ q, SpIn (stp o s) q ↔ SpIn o q ∨ (s.f ≤ q ∧ q ≤ s.t)) ∧ ∀ u ∈ stp o s, u.f ≤ s.f := by
  rcases List.eq_nil_or_concat o with rfl | ⟨p, u, rfl⟩
  · refine ⟨⟨by simp [stp_nil], by simpa [stp_nil] using hs⟩, fun q => ?_, by simp [stp_nil]⟩
    rw [stp_nil, spIn_one]
    have := spIn_nil q
    exact ⟨.inr, fun h => h.elim (fun h => absurd h this) id⟩
  · rw [List.concat_eq_append] at *
    have hu := hf u (by simp)
    obtain ⟨hp, hv⟩ := h
    rw [List.pairwise_append] at hp
    obtain ⟨p1, _, p3⟩ := hp
    have vu := hv u (by simp)
    rw [stp_snoc]
    by_cases hc : s.f ≤ u.t + 1
    · rw [if_pos hc]
      obtain ⟨u1, u2, u3⟩ := vu
      obtain ⟨s1, s2, s3⟩ := hs
      refine ⟨⟨List.pairwise_append.2 ⟨p1, by simp, fun a ha b hb => ?_⟩, fun a ha => ?_⟩, fun q => ?_, fun a ha => ?_⟩
      · rw [List.mem_singleton] at hb; subst hb
        exact p3 a ha u (by simp)
      · rcases List.mem_append.1 ha with ha | ha
        · exact hv a (by simp [ha])
        · rw [List.mem_singleton] at ha; subst ha
          refine ⟨u1, ?_, ?_⟩
          · show u.f ≤ (if u.t < s.t then s.t else u.t); split <;> omega
          · show (if u.t < s.t then s.t else u.t) ≤ _; split <;> omega
      · rw [spIn_app, spIn_app, spIn_one, spIn_one]
        have : (u.f ≤ q ∧ q ≤ (if u.t < s.t then s.t else u.t)) ↔ (u.f ≤ q ∧ q ≤ u.t) ∨ (s.f ≤ q ∧ q ≤ s.t) := by
          split <;> omega
        simp only [this]
        exact or_assoc.symm
      · rcases List.mem_append.1 ha with ha | ha
        · exact hf a (by simp [ha])
        · rw [List.mem_singleton] at ha; subst ha; exact hu
    · rw [if_neg hc]
      have e : p ++ [u, s] = (p ++ [u]) ++ [s] := by simp
      rw [e]
      refine ⟨⟨List.pairwise_append.2 ⟨List.pairwise_append.2 ⟨p1, by simp, p3⟩, by simp, fun a ha b hb => ?_⟩, fun a ha => ?_⟩, fun q => ?_, fun a ha => ?_⟩
      · rw [List.mem_singleton] at hb; subst hb
        rcases List.mem_append.1 ha with ha | ha
        · have := p3 a ha u (by simp); have := vu.2.1; omega
        · rw [List.mem_singleton] at ha; subst ha; omega
      · rcases List.mem_append.1 ha with ha | ha
        · exact hv a ha
        · rw [List.mem_singleton] at ha; subst ha; exact hs
      · rw [spIn_app, spIn_one]
      · rcases List.mem_append.1 ha with ha | ha
        · exact hf a ha
        · rw [List.mem_singleton] at ha; subst ha; omega
theorem join_ns : ∀ (l o : List Sp), Ns o → (∀ s ∈ l, Vs s) → l.Pairwise (fun a b => a.f ≤ b.f) → (∀ u ∈ o, ∀ s ∈ l, u.f ≤ s.f) → Ns (l.foldl stp o) ∧ ∀ q, SpIn (l.foldl stp o) q ↔ SpIn o q ∨ SpIn l q
  | [], o, h, _, _, _ => ⟨h, fun q => by have := spIn_nil q; exact ⟨.inl, fun h => h.elim id (fun h => absurd h this)⟩⟩
  | s :: l, o, h, hv, hp, hf => by
    obtain ⟨hp1, hp2⟩ := List.pairwise_cons.1 hp
    obtain ⟨a, b, c⟩ := stp_ns o s h (hv s (by simp)) (fun u hu => hf u hu s (by simp))
    have ih := join_ns l (stp o s) a (fun x hx => hv x (by simp [hx])) hp2 (fun u hu x hx => by have := c u hu; have := hp1 x hx; omega)
    refine ⟨ih.1, fun q => ?_⟩
    rw [List.foldl_cons, ih.2, b]
    have e : s :: l = [s] ++ l := rfl
    rw [e, spIn_app, spIn_one]
    exact or_assoc
theorem join_len : ∀ (l o : List Sp), (l.foldl stp o).length ≤ o.length + l.length
  | [], o => by simp
  | s :: l, o => by
    have := join_len l (stp o s)
    have := stp_len o s
    simp only [List.foldl_cons, List.length_cons]; omega
theorem spaced_ns : ∀ {l : List Sp}, Spaced l → Ns l
  | [], _ => ns_nil
  | s :: l, h => by
    obtain ⟨h1, h2, h3⟩ := h
    have ih := spaced_ns h3
    exact ⟨List.pairwise_cons.2 ⟨h2, ih.1⟩, fun u hu => by
      rcases List.mem_cons.1 hu with rfl | hu
      · exact h1
      · exact ih.2 u hu⟩
/-- The runs of a live context's replicas from k on, n of them. -/
def runsN (g : List (Int × List Sp)) : Nat → Nat → List Rn
  | 0, _ => []
  | n + 1, k => ((mget g (k : Int)).map fun s => (⟨(k : Int), s.f, s.t⟩ : Rn)) ++ runsN g n (k + 1)
theorem runsN_nf (g : List (Int × List Sp)) (hg : ∀ k : Int, Ns (mget g k)) : ∀ (n k : Nat), k + n = 8 → Nf (runsN g n k) ∧ (∀ u ∈ runsN g n k, (k : Int) ≤ u.r) ∧ ∀ r q, In (runsN g n k) r q ↔ ((k : Int) ≤ r ∧ r < 8 ∧ SpIn (mget g r) q)
  | 0, k, hk => by
    refine ⟨⟨List.Pairwise.nil, by simp [runsN]⟩, by simp [runsN], fun r q => ⟨fun h => absurd h (in_nil _ _), fun h => by omega⟩⟩
  | n + 1, k, hk => by
    obtain ⟨a, b, c⟩ := runsN_nf g hg n (k + 1) (by omega)
    obtain ⟨p, v⟩ := hg k
    have hm : ∀ u : Rn, u ∈ ((mget g (k : Int)).map fun s => (⟨(k : Int), s.f, s.t⟩ : Rn)) → u.r = k := by
      intro u hu; obtain ⟨s, _, rfl⟩ := List.mem_map.1 hu; rfl
    have hn : Nf ((mget g (k : Int)).map fun s => (⟨(k : Int), s.f, s.t⟩ : Rn)) := by
      refine ⟨?_, fun u hu => ?_⟩
      · rw [List.pairwise_map]
        exact p.imp fun h => .inr ⟨rfl, h⟩
      · obtain ⟨s, hs, rfl⟩ := List.mem_map.1 hu
        exact ⟨⟨by show (0 : Int) ≤ (k : Int); omega, by show (k : Int) < 8; omega⟩, v s hs⟩
    refine ⟨nf_app.2 ⟨hn, a, fun u hu x hx => .inl ?_⟩, fun u hu => ?_, fun r q => ?_⟩
    · have := hm u hu; have := b x hx; omega
    · rcases List.mem_append.1 hu with hu | hu
      · have := hm u hu; omega
      · have := b u hu; omega
    · rw [runsN, in_app, c]
      have hi : In ((mget g (k : Int)).map fun s => (⟨(k : Int), s.f, s.t⟩ : Rn)) r q ↔ r = k ∧ SpIn (mget g r) q := by
        constructor
        · rintro ⟨u, hu, h1, h2⟩
          obtain ⟨s, hs, rfl⟩ := List.mem_map.1 hu
          have : r = k := h1.symm
          subst this
          exact ⟨rfl, s, hs, h2⟩
        · rintro ⟨rfl, s, hs, h⟩
          exact ⟨_, List.mem_map.2 ⟨s, hs, rfl⟩, rfl, h⟩
      rw [hi]
      constructor
      · rintro (⟨h1, h2⟩ | ⟨h1, h2, h3⟩)
        · exact ⟨by omega, by omega, h2⟩
        · exact ⟨by omega, h2, h3⟩
      · rintro ⟨h1, h2, h3⟩
        by_cases hr : r = k
        · exact .inl ⟨hr, h3⟩
        · exact .inr ⟨by omega, h2, h3⟩
theorem spIn_of (xs : List Rn) (r q : Int) : SpIn (spansOf xs r) q ↔ In xs r q := by
  rw [← hasB_in, hasB_spans, List.any_eq_true]
  unfold SpIn
  simp
theorem in_rep {xs : List Rn} (h : Nf xs) {r q : Int} (hi : In xs r q) : 0 ≤ r ∧ r < 8 := by
  obtain ⟨u, hu, h1, _⟩ := hi
  have := (h.2 u hu).1; omega
/-- What the program builds is what the reference builds. -/
theorem runs_uni {a b : List Rn} {g : List (Int × List Sp)} (ha : Nf a) (hb : Nf b) (hg : ∀ k : Int, Ns (mget g k)) (hi : ∀ k q, SpIn (mget g k) q ↔ SpIn (spansOf a k) q ∨ SpIn (spansOf b k) q) : runsN g 8 0 = uni a b := by
  obtain ⟨n1, _, i1⟩ := runsN_nf g hg 8 0 rfl
  obtain ⟨n2, i2⟩ := uni_nf b a ha hb.2
  refine nf_unique _ _ n1 n2 fun r q => ?_
  rw [i1, i2, hi, spIn_of, spIn_of]
  constructor
  · exact fun h => h.2.2
  · intro h
    have : 0 ≤ r ∧ r < 8 := h.elim (fun h => in_rep ha h) (fun h => in_rep hb h)
    exact ⟨by omega, by omega, h⟩
/-! Covers. -/
def within (a : List Rn) (r : Rn) : Bool := a.any fun s => decide (s.r = r.r) && (decide (s.f ≤ r.f) && decide (r.t ≤ s.t))
theorem within_in {a : List Rn} {r : Rn} (ha : Nf a) (hr : Vd r) : within a r = true ↔ ∀ q, Hs r r.r q → In a r.r q := by
  unfold within
  rw [List.any_eq_true]
  constructor
  · rintro ⟨s, hs, h⟩ q ⟨_, h1, h2⟩
    simp at h
    exact ⟨s, hs, h.1, by omega, by omega⟩
  · intro h
    have h3 := hr.2.2.1
    obtain ⟨s, hs, s1, s2, s3⟩ := h r.f ⟨rfl, by omega, h3⟩
    refine ⟨s, hs, ?_⟩
    have : r.t ≤ s.t := by
      by_cases hlt : s.t < r.t
      · obtain ⟨u, hu, u1, u2, u3⟩ := h (s.t + 1) ⟨rfl, by omega, by omega⟩
        have vs := (ha.2 s hs).2
        obtain ⟨i, hi, rfl⟩ := List.getElem_of_mem hs
        obtain ⟨j, hj, rfl⟩ := List.getElem_of_mem hu
        have hp := List.pairwise_iff_getElem.1 ha.1
        rcases Nat.lt_trichotomy i j with hij | hij | hij
        · have := hp i j hi hj hij; unfold Ap at this; omega
        · subst hij; omega
        · have := hp j i hj hi hij; unfold Ap at this; omega
      · omega
    simp [s1, s2, this]
theorem covers_uni {a b : List Rn} (ha : Nf a) (hb : Nf b) : (decide (uni a b = a)) = b.all (within a) := by
  obtain ⟨n2, i2⟩ := uni_nf b a ha hb.2
  rw [Bool.eq_iff_iff, decide_eq_true_eq, List.all_eq_true]
  constructor
  · intro h r hr
    rw [within_in ha (hb.2 r hr)]
    intro q hq
    rw [← h]
    exact (i2 _ _).2 (.inr ⟨r, hr, hq⟩)
  · intro h
    refine nf_unique _ _ n2 ha fun r q => ?_
    rw [i2]
    refine ⟨fun h' => h'.elim id ?_, .inl⟩
    rintro ⟨u, hu, h1, h2⟩
    have := (within_in ha (hb.2 u hu)).1 (h u hu) q ⟨rfl, h2⟩
    rw [h1] at this; exact this
end Go.Ow
namespace Go.Ow
open Go.RowKit
theorem mhas_mp (k : Int) (xs : List Sp) (j : Int) : ∀ g : List (Int × List Sp), mhas (mput g k xs) j = (decide (j = k) || mhas g j)
  | [] => by rw [Bool.eq_iff_iff]; simp only [mput, mhas, List.any_cons, List.any_nil, Bool.or_false, beq_iff_eq, decide_eq_true_eq]; exact ⟨fun h => h.symm, fun h => h.symm⟩
  | p :: g => by
    have ih := mhas_mp k xs j g
    by_cases hp : p.1 = k
    · by_cases hj : j = k
      · simp [mput, mhas, hp, hj]
      · have : ¬ k = j := fun e => hj e.symm
        simp [mput, mhas, hp, hj, this]
    · simp only [mput, if_neg hp, mhas, List.any_cons] at ih ⊢
      rw [ih]
      cases decide (j = k) <;> cases (p.1 == j) <;> rfl
theorem mhas_cg (k : Int) : ∀ (xs : List Rn) (g : List (Int × List Sp)), mhas (cloud g xs) k = (mhas g k || !decide (spansOf xs k = []))
  | [], g => by simp [cloud, spansOf]
  | r :: xs, g => by
    rw [cloud, mhas_cg k xs, mhas_mp]
    by_cases h : r.r = k
    · simp [spansOf, List.filter_cons, h]
    · have h2 : ¬ k = r.r := fun e => h e.symm
      simp [spansOf, List.filter_cons, h, h2]
theorem mhas_cl (xs : List Rn) (k : Int) : mhas (cloud [] xs) k = !decide (spansOf xs k = []) := by
  rw [mhas_cg]; simp [mhas]
end Go.Ow
namespace Go.Ow
def uniOk (xs ys : List Rn) : Bool := ctxOk xs && (ctxOk ys && decide ((uni xs ys).length ≤ 1000))
def uniR (xs ys : List Rn) : List Rn := if uniOk xs ys then uni xs ys else []
end Go.Ow
