/- Changes of states, in plain Lean. -/
import Derived.Test.YtkafflbakgkpcaaGreatLj
import Derived.Test.YtkafflbakgkpcaaGreatL2
import Derived.Test.YtkafflbakgkpcaaGreatL1
namespace Go.Ow
set_option linter.unusedSimpArgs false
set_option linter.unusedVariables false
open Go.RowKit
def dotsR (l : List Lf) : List Rn := l.map fun x => ⟨x.dr, x.ds, x.ds⟩
/-- What a change takes away, as a state of its own; what it leaves. -/
def chD (s : St) (gone : Lf → Bool) (put : List Lf) : St := ⟨put.foldl insL [], uni [] (dotsR (s.l.filter gone ++ put))⟩
def chN (s : St) (gone : Lf → Bool) (put : List Lf) : St := ⟨put.foldl insL (s.l.filter fun x => !gone x), uni s.c (dotsR put)⟩
def fits2 (x : St) : Bool := decide (x.l.length ≤ 1000) && decide (x.c.length ≤ 1000)
def chOk (s : St) (gone : Lf → Bool) (put : List Lf) : Bool := fits2 (chN s gone put) && fits2 (chD s gone put)
theorem runs_set {xs : List Rn} {g : List (Int × List Sp)} (hx : Nf xs) (hg : ∀ k : Int, Ns (mget g k)) (hi : ∀ k q : Int, SpIn (mget g k) q ↔ In xs k q) : runsN g 8 0 = xs := by
  obtain ⟨n1, _, i1⟩ := runsN_nf g hg 8 0 rfl
  refine nf_unique _ _ n1 hx fun r q => ?_
  rw [i1, hi]
  constructor
  · exact fun h => h.2.2
  · intro h
    have := in_rep hx h
    exact ⟨by omega, by omega, h⟩
theorem in_dotsR (l : List Lf) (r q : Int) : In (dotsR l) r q ↔ ∃ x ∈ l, x.dr = r ∧ x.ds = q := by
  unfold In dotsR Hs
  constructor
  · rintro ⟨u, hu, h1, h2, h3⟩
    obtain ⟨x, hx, rfl⟩ := List.mem_map.1 hu
    simp only at h1 h2 h3
    exact ⟨x, hx, h1, by omega⟩
  · rintro ⟨x, hx, h1, h2⟩
    exact ⟨_, List.mem_map.2 ⟨x, hx, rfl⟩, h1, by simp only; omega, by simp only; omega⟩
theorem vd_dotsR {l : List Lf} (h : ∀ x ∈ l, dotIn x) : ∀ u ∈ dotsR l, Vd u := by
  intro u hu
  obtain ⟨x, hx, rfl⟩ := List.mem_map.1 hu
  obtain ⟨h1, h2, h3⟩ := h x hx
  exact ⟨h1, h2, Int.le_refl _, h3⟩
theorem nf_nil : Nf [] := ⟨List.Pairwise.nil, by simp⟩
theorem dots_in_ctx {s : St} (hs : stOk s = true) {x : Lf} (hx : x ∈ s.l) : hasB s.c x.dr x.ds = true := by
  have := stOk_leaf hs x hx
  unfold okLeaf at this
  simp only [Bool.and_eq_true] at this
  exact this.2.2.2
theorem ch_nodup {s : St} (hs : stOk s = true) (gone : Lf → Bool) {put : List Lf} (hp : put.length ≤ 1) (hf : ∀ x ∈ put, hasB s.c x.dr x.ds = false) : (dots ((s.l.filter fun x => !gone x) ++ put)).Nodup := by
  have h1 : (dots (s.l.filter fun x => !gone x)).Nodup := List.Sublist.nodup (List.filter_sublist.map _) (stOk_nodup hs)
  unfold dots at *
  rw [List.map_append]
  refine List.nodup_append.2 ⟨h1, ?_, ?_⟩
  · match put, hp with
    | [], _ => simp
    | [x], _ => simp
  · intro d hd e he hde
    subst hde
    obtain ⟨x, hx, rfl⟩ := List.mem_map.1 hd
    obtain ⟨y, hy, he⟩ := List.mem_map.1 he
    have h2 := hf y hy
    have h3 := dots_in_ctx hs (List.mem_filter.1 hx).1
    simp only [Prod.mk.injEq] at he
    rw [he.1, he.2, h3] at h2
    cases h2
theorem chN_is {s : St} (hs : stOk s = true) (gone : Lf → Bool) {put : List Lf} (hp : put.length ≤ 1) (hf : ∀ x ∈ put, hasB s.c x.dr x.ds = false) {L : List Lf} (hL : L.Perm ((s.l.filter fun x => !gone x) ++ put))
    (hl : ∀ i j (_ : i < j) (hj : j < L.length), before L[j] (L[i]'(by omega)) = false) : L = (chN s gone put).l := by
  have hn := ch_nodup hs gone hp hf
  have hi : Inc (s.l.filter fun x => !gone x) := List.Pairwise.sublist List.filter_sublist (stOk_inc hs)
  obtain ⟨j1, j2⟩ := foldL_ok put (s.l.filter fun x => !gone x) hn hi
  exact inc_unique L _ (hL.trans j2.symm) (inc_of_perm hL hn hl) j1
theorem chD_is {put : List Lf} (hp : put.length ≤ 1) {L : List Lf} (hL : L.Perm put) (s : St) (gone : Lf → Bool) : L = (chD s gone put).l := by
  match put, hp with
  | [], _ => rw [hL.eq_nil]; rfl
  | [x], _ => rw [hL.eq_singleton]; rfl
theorem chD_ctx {s : St} (hs : stOk s = true) (gone : Lf → Bool) {put : List Lf} (hd : ∀ x ∈ put, dotIn x) {D : List Lf} (hD : D.Perm (s.l.filter gone ++ put)) {g : List (Int × List Sp)} (hg : ∀ k : Int, Ns (mget g k))
    (hi : ∀ k q : Int, SpIn (mget g k) q ↔ ∃ x ∈ D, x.dr = k ∧ x.ds = q) : runsN g 8 0 = (chD s gone put).c := by
  have hv : ∀ x ∈ s.l.filter gone ++ put, dotIn x := fun x hx => (List.mem_append.1 hx).elim (fun h => okLeaf_dot (stOk_ctx' hs) (stOk_leaf hs x (List.mem_filter.1 h).1)) (hd x)
  obtain ⟨n1, n2⟩ := uni_nf (dotsR (s.l.filter gone ++ put)) [] nf_nil (vd_dotsR hv)
  show runsN g 8 0 = uni [] (dotsR (s.l.filter gone ++ put))
  refine runs_set n1 hg fun k q => ?_
  rw [hi, n2, in_dotsR]
  constructor
  · rintro ⟨x, hx, h⟩; exact .inr ⟨x, hD.mem_iff.1 hx, h⟩
  · rintro (h | ⟨x, hx, h⟩)
    · exact absurd h (in_nil k q)
    · exact ⟨x, hD.mem_iff.2 hx, h⟩
theorem chN_ctx {s : St} (hs : stOk s = true) (gone : Lf → Bool) {put : List Lf} (hd : ∀ x ∈ put, dotIn x) {g : List (Int × List Sp)} (hg : ∀ k : Int, Ns (mget g k))
    (hi : ∀ k q : Int, SpIn (mget g k) q ↔ SpIn (spansOf s.c k) q ∨ ∃ x ∈ put, x.dr = k ∧ x.ds = q) : runsN g 8 0 = (chN s gone put).c := by
  have hc := ((ctxOk_nf s.c).1 (stOk_ctx' hs)).1
  obtain ⟨n1, n2⟩ := uni_nf (dotsR put) s.c hc (vd_dotsR hd)
  show runsN g 8 0 = uni s.c (dotsR put)
  refine runs_set n1 hg fun k q => ?_
  rw [hi, n2, in_dotsR, spIn_of]
theorem ch_len {s : St} (hs : stOk s = true) (gone : Lf → Bool) {put : List Lf} (hp : put.length ≤ 1) : (chD s gone put).c.length ≤ 1001 ∧ (chN s gone put).c.length ≤ 1001 := by
  have h1 := uni_len (dotsR (s.l.filter gone ++ put)) []
  have h2 := uni_len (dotsR put) s.c
  have h3 := List.length_filter_le gone s.l
  have h4 := stOk_len' hs
  have h5 := ((ctxOk_nf s.c).1 (stOk_ctx' hs)).2
  unfold dotsR at h1 h2
  rw [List.length_map] at h1 h2
  rw [List.length_append] at h1
  unfold chD chN dotsR
  simp only [List.length_nil] at *
  omega
end Go.Ow
