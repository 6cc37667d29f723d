/- One element of a row that a call owns, taken out and put back. -/
import Derived.Test.YtgfgkbmebdaieaaPu
namespace Go.Ow
set_option linter.unusedSimpArgs false
set_option linter.unusedVariables false
open Go.RowKit

theorem flatten_out {β : Type} : ∀ (l : List (List β)) (j : Nat) (x : List β), l[j]? = some x → l.flatten.Perm (x ++ (l.set j []).flatten)
  | [], _, _, h => by simp at h
  | y :: l, 0, x, h => by simp at h; subst h; simp
  | y :: l, j + 1, x, h => by
    have ih := flatten_out l j x (by simpa using h)
    simp only [List.flatten_cons, List.set_cons_succ]
    refine (ih.append_left y).trans ?_
    rw [← List.append_assoc, ← List.append_assoc]
    exact List.perm_append_comm.append_right _
theorem flatten_put {β : Type} : ∀ (l : List (List β)) (k : Nat), (∀ c ∈ l, c.length = k) → ∀ (j t : Nat) (cs : List β) (u : β), l[j]? = some cs → t < k → (l.set j (cs.set t u)).flatten = l.flatten.set (j * k + t) u
  | [], _, _, _, _, _, _, h, _ => by simp at h
  | y :: l, k, hk, 0, t, cs, u, h, ht => by
    simp at h; subst h
    have := hk y (by simp)
    simp only [List.set_cons_zero, List.flatten_cons, Nat.zero_mul, Nat.zero_add]
    rw [List.set_append_left _ _ (by omega)]
  | y :: l, k, hk, j + 1, t, cs, u, h, ht => by
    have hy := hk y (by simp)
    simp only [List.set_cons_succ, List.flatten_cons]
    rw [flatten_put l k (fun c hc => hk c (by simp [hc])) j t cs u (by simpa using h) ht, List.set_append_right _ _ (by rw [hy, Nat.succ_mul]; omega), show (j + 1) * k + t - y.length = j * k + t by rw [hy, Nat.succ_mul]; omega]

section
variable {α : Type} [Cd α]
/-- The row without the blocks of element j; its cells at j are cs. -/
def HoleP (e g cap : Nat) (xs : List α) (j : Nat) (cs : List Value) (w : World) (fp : List Nat) : Prop :=
  ∃ (cur : Array Value) (css : List (List Value)) (fps : List (List Nat)),
    w.heap[g]? = some (.cells cur e (0, 0)) ∧ j < xs.length ∧ xs.length ≤ cap ∧ cap ≤ maxLen ∧ xs.length ≤ 140737488355328 ∧
    cur.size = cap * Cd.z α ∧ css.length = xs.length ∧ fps.length = xs.length ∧ (∀ c ∈ css, c.length = Cd.z α) ∧ cur.toList.take (xs.length * Cd.z α) = List.flatten css ∧
    css[j]? = some cs ∧ fps[j]? = some [] ∧
    (∀ (i : Nat) (x : α) (c : List Value) (f : List Nat), i ≠ j → xs[i]? = some x → css[i]? = some c → fps[i]? = some f → Cd.dp w x c f) ∧ fp = g :: List.flatten fps

def Ds.hole [Ty α] (g cap : Nat) (xs : List α) (j : Nat) (cs : List Value) : Ds := .any (HoleP (Ty.id α) g cap xs j cs)
  (by
    rintro w w' fp ⟨cur, css, fps, hg, h0, h1, h2, h3, h4, h5, h6, h7, h8, h9, h10, h11, rfl⟩ hs
    exact ⟨cur, css, fps, (hs g (by simp)).trans hg, h0, h1, h2, h3, h4, h5, h6, h7, h8, h9, h10, fun i x c f hi hx hc hf =>
      Cd.dp_loc (h11 i x c f hi hx hc hf) (fun b hb => hs b (List.mem_cons_of_mem _ (List.mem_flatten.2 ⟨f, List.mem_of_getElem? hf, hb⟩))), rfl⟩)
  (by
    rintro w fp ⟨cur, css, fps, hg, h0, h1, h2, h3, h4, h5, h6, h7, h8, h9, h10, h11, rfl⟩ b hb
    rcases List.mem_cons.1 hb with rfl | hb
    · exact (Array.getElem?_eq_some_iff.1 hg).1
    · obtain ⟨f, hf, hbf⟩ := List.mem_flatten.1 hb
      obtain ⟨k, hk, rfl⟩ := List.getElem_of_mem hf
      by_cases hkj : k = j
      · subst hkj
        rw [List.getElem?_eq_getElem hk] at h10
        rw [Option.some.inj h10] at hbf
        cases hbf
      · exact Cd.dp_lt (h11 k xs[k] css[k] fps[k] hkj (List.getElem?_eq_getElem (by omega)) (List.getElem?_eq_getElem (by omega)) (List.getElem?_eq_getElem (by omega))) b hbf)

variable [Ty α] {W w : World} {R : List Ds} {g cap : Nat} {xs : List α} {j : Nat}

theorem Own.focus {n : Nat} (h : Own W (.own (.slice (some ⟨g, 0, none⟩) n cap) xs :: R) w) (hj : j < xs.length) :
    ∃ cs, Own W (.elt cs xs[j] :: .hole g cap xs j cs :: R) w := by
  obtain ⟨hb, fp, ⟨f, r, rfl, hd, hR⟩, hn, hl⟩ := h
  rcases hd with ⟨he, _⟩ | ⟨g', cap', cur, css, fps, he, hg, h1, h2, h3, hcs, hcl, hfl, ht, hd, rfl⟩
  · injection he with he; cases he
  · injection he with he1 he2 he3
    injection he1 with he1
    injection he1 with he1
    subst he1 he3
    have hall : ∀ cs ∈ css, cs.length = Cd.z α := by
      intro cs hcs'
      obtain ⟨k, hk, rfl⟩ := List.getElem_of_mem hcs'
      exact Cd.rd_len (Cd.dp_rd (hd k xs[k] css[k] fps[k] (List.getElem?_eq_getElem (by omega)) (List.getElem?_eq_getElem (by omega)) (List.getElem?_eq_getElem (by omega))))
    have hx : xs[j]? = some xs[j] := List.getElem?_eq_getElem hj
    have hc : css[j]? = some css[j] := List.getElem?_eq_getElem (by omega)
    have hf : fps[j]? = some fps[j] := List.getElem?_eq_getElem (by omega)
    have hp : (fps[j] ++ ((g :: (fps.set j []).flatten) ++ r)).Perm ((g :: fps.flatten) ++ r) := by
      rw [← List.append_assoc]
      refine List.Perm.append_right r ?_
      exact List.perm_middle.trans ((flatten_out fps j _ hf).symm.cons g)
    refine ⟨css[j], hb, fps[j] ++ ((g :: (fps.set j []).flatten) ++ r), ⟨_, _, rfl, hd j _ _ _ hx hc hf, _, _, rfl, ?_, hR⟩, hp.nodup_iff.2 hn, fun b hb => hl b (hp.mem_iff.1 hb)⟩
    refine ⟨cur, css, fps.set j [], hg, hj, h1, h2, h3, hcs, hcl, by simpa using hfl, hall, ht, hc, List.getElem?_set_self (by omega), fun i x c f' hi hx hc hf => hd i x c f' hx hc ?_, rfl⟩
    rwa [List.getElem?_set_ne (by omega)] at hf

theorem Own.unfocus {cs : List Value} {x : α} (h : Own W (.elt cs x :: .hole g cap xs j cs :: R) w) : Own W (.own (.slice (some ⟨g, 0, none⟩) xs.length cap) (xs.set j x) :: R) w := by
  obtain ⟨hb, fp, ⟨f, r1, rfl, hx, f2, r, rfl, ⟨cur, css, fps, hg, h0, h1, h2, h3, h4, h5, h6, h7, h8, h9, h10, h11, rfl⟩, hR⟩, hn, hl⟩ := h
  have hp : ((g :: (fps.set j f).flatten) ++ r).Perm (f ++ ((g :: fps.flatten) ++ r)) := by
    have hlt : j < fps.length := by omega
    have e : (fps.set j f).set j [] = fps := by
      rw [List.set_set]
      refine List.ext_getElem (by simp) (fun i hi1 hi2 => ?_)
      rw [List.getElem_set]
      split
      · rename_i hij; subst hij
        rw [List.getElem?_eq_getElem hlt] at h10
        exact (Option.some.inj h10).symm
      · rfl
    have h := flatten_out (fps.set j f) j f (List.getElem?_set_self (by omega))
    rw [e] at h
    rw [← List.append_assoc]
    exact List.Perm.append_right r ((h.cons g).trans List.perm_middle.symm)
  refine ⟨hb, _, ⟨g :: (fps.set j f).flatten, r, rfl, .inr ⟨g, cap, cur, css, fps.set j f, by rw [List.length_set], hg, by simpa using h1, h2, by simpa using h3, h4, by simpa using h5, by simpa using h6, by rw [List.length_set]; exact h8, ?_, rfl⟩, hR⟩, hp.nodup_iff.2 hn, fun b hb => hl b (hp.mem_iff.1 hb)⟩
  intro i y c f' hy hc hf
  by_cases hij : i = j
  · subst hij
    rw [List.getElem?_set_self (by omega)] at hy hf
    rw [h9] at hc
    cases hy; cases hc; cases hf
    exact hx
  · rw [List.getElem?_set_ne (by omega)] at hy hf
    exact h11 i y c f' hij hy hc hf

/-- The cells of the element that is out. -/
theorem Own.holec {cs : List Value} (h : Own W (.hole g cap xs j cs :: R) w) : cs.length = Cd.z α ∧ j < xs.length ∧ (∀ t, t < Cd.z α → w.cell? ⟨g, j * Cd.z α + t, none⟩ = cs[t]?) ∧ (∀ t, w.frozen? ⟨g, t, none⟩ = false) ∧ g < w.heap.size := by
  obtain ⟨hb, fp, ⟨f2, r, rfl, ⟨cur, css, fps, hg, h0, h1, h2, h3, h4, h5, h6, h7, h8, h9, h10, h11, rfl⟩, hR⟩, hn, hl⟩ := h
  refine ⟨h7 _ (List.mem_of_getElem? h9), h0, fun t ht => ?_, fun t => by simp [World.frozen?, hg], (Array.getElem?_eq_some_iff.1 hg).1⟩
  have := flatten_at h7 h9 ht
  rw [← h8, List.getElem?_take] at this
  have hlt : j * Cd.z α + t < xs.length * Cd.z α := by
    have : (j + 1) * Cd.z α ≤ xs.length * Cd.z α := Nat.mul_le_mul_right _ h0
    rw [Nat.succ_mul] at this; omega
  rw [if_pos hlt] at this
  rw [cell_of_row w g _ cur _ (0, 0) hg, ← this]
  simp

/-- A cell of it is written. -/
theorem Own.holeput {cs : List Value} (h : Own W (.hole g cap xs j cs :: R) w) (t : Nat) (ht : t < Cd.z α) (u : Value) : Own W (.hole g cap xs j (cs.set t u) :: R) (w.setCell ⟨g, j * Cd.z α + t, none⟩ u) := by
  refine Own.upd (R1 := [.hole g cap xs j cs]) (R1' := [.hole g cap xs j (cs.set t u)]) h rfl rfl rfl (by simp [World.setCell]) ?_
  rintro fp ⟨f, r, rfl, ⟨cur, css, fps, hg, h0, h1, h2, h3, h4, h5, h6, h7, h8, h9, h10, h11, rfl⟩, rfl⟩ hn
  have hne : ∀ b ∈ fps.flatten, b ≠ g := by
    intro b hb e; subst e
    simp at hn
    obtain ⟨f, hf, hbf⟩ := List.mem_flatten.1 hb
    exact hn.1 f hf hbf
  have hz := h7 _ (List.mem_of_getElem? h9)
  refine ⟨fun k _ hk => Below.heap_setCell _ _ _ _ (fun e => hk (by simp [e])), _, ⟨g :: fps.flatten, [], rfl, ⟨cur.setIfInBounds (j * Cd.z α + t) u, css.set j (cs.set t u), fps, ?_, h0, h1, h2, h3, by simpa using h4, by simpa using h5, h6, ?_, ?_, List.getElem?_set_self (by omega), h10, ?_, rfl⟩, rfl⟩, by simpa using hn, fun x hx => .inl (by simpa using hx)⟩
  · simp only [World.setCell, Array.getElem?_modify, hg, Option.map_some]
    simp
  · intro c hc
    rcases List.mem_or_eq_of_mem_set hc with h' | h'
    · exact h7 c h'
    · rw [h', List.length_set]; exact hz
  · rw [flatten_put css _ h7 j t cs u h9 ht, ← h8, Array.toList_setIfInBounds, List.take_set]
  · intro i x c f hij hx hc hf
    rw [List.getElem?_set_ne (by omega)] at hc
    exact Cd.dp_loc (h11 i x c f hij hx hc hf) (fun b hb => Below.heap_setCell _ _ _ _ (fun e => hne b (List.mem_flatten.2 ⟨f, List.mem_of_getElem? hf, hb⟩) e))

/-- What is not needed any more, behind the first. -/
theorem Own.only {r : Ds} (h : Own W (r :: R) w) : Own W [r] w := by
  induction R with
  | nil => exact h
  | cons a R ih => exact ih ((h.pick 1 rfl).drop)
/-! An element's parts. -/
omit [Ty α] in
theorem Own.elt_pair {β : Type} [Cd β] {cs : List Value} {x : α} {y : β} (h : Own W (.elt cs (x, y) :: R) w) : ∃ a b, cs = a ++ b ∧ Own W (.elt a x :: .elt b y :: R) w := by
  obtain ⟨hb, fp, ⟨f, r, rfl, ⟨a, b, f1, f2, rfl, rfl, h1, h2⟩, hR⟩, hn, hl⟩ := h
  exact ⟨a, b, rfl, hb, _, ⟨f1, f2 ++ r, by simp, h1, f2, r, rfl, h2, hR⟩, hn, hl⟩
omit [Ty α] in
theorem Own.pair_elt {β : Type} [Cd β] {a b : List Value} {x : α} {y : β} (h : Own W (.elt a x :: .elt b y :: R) w) : Own W (.elt (a ++ b) (x, y) :: R) w := by
  obtain ⟨hb, fp, ⟨f1, r1, rfl, h1, f2, r, rfl, h2, hR⟩, hn, hl⟩ := h
  exact ⟨hb, _, ⟨f1 ++ f2, r, by simp, ⟨a, b, f1, f2, rfl, rfl, h1, h2⟩, hR⟩, hn, hl⟩
theorem Own.elt_list {cs : List Value} {ys : List α} (h : Own W (.elt cs ys :: R) w) : ∃ v, cs = [v] ∧ Own W (.own v ys :: R) w := by
  obtain ⟨hb, fp, ⟨f, r, rfl, ⟨v, rfl, hd⟩, hR⟩, hn, hl⟩ := h
  exact ⟨v, rfl, hb, _, ⟨f, r, rfl, hd, hR⟩, hn, hl⟩
theorem Own.list_elt {v : Value} {ys : List α} (h : Own W (.own v ys :: R) w) : Own W (.elt [v] ys :: R) w := by
  obtain ⟨hb, fp, ⟨f, r, rfl, hd, hR⟩, hn, hl⟩ := h
  exact ⟨hb, _, ⟨f, r, rfl, ⟨v, rfl, hd⟩, hR⟩, hn, hl⟩
end
section
variable {α : Type} [Fl α] {W w : World} {R : List Ds}
theorem Own.elt_fl {cs : List Value} {x : α} (h : Own W (.elt cs x :: R) w) : cs = Fl.fl x ∧ Own W R w := by
  obtain ⟨hb, fp, ⟨f, r, rfl, hd, hR⟩, hn, hl⟩ := id h
  exact ⟨(Fl.dp_fl.1 hd).1, h.drop⟩
theorem Own.fl_elt (x : α) (h : Own W R w) : Own W (.elt (Fl.fl x) x :: R) w :=
  Own.call (Rn := [.elt (Fl.fl x) x]) h ⟨Below.refl _ _, [], ⟨[], [], rfl, Fl.dp_fl.2 ⟨rfl, rfl⟩, rfl⟩, by simp, by simp⟩
end
end Go.Ow
