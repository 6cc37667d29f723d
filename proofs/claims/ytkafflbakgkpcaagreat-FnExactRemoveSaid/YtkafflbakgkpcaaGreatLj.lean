/- The loops of a join over maps of leaves, in plain Lean. -/
import Derived.Test.YtkafflbakgkpcaaGreatL2
import Derived.Test.YtkafflbakgkpcaaGreatL1
namespace Go.Ow
set_option linter.unusedSimpArgs false
set_option linter.unusedVariables false
open Go.RowKit
def kA (b : St) (x : Lf) : Bool := decide (x ∈ b.l) || !hasB b.c x.dr x.ds
def kB (a : St) (x : Lf) : Bool := !hasB a.c x.dr x.ds
theorem filter_lf (q : Lf → Bool) (zs : List Pf) : (zs.filter fun z => q z.l).map (·.l) = (zs.map (·.l)).filter q := by
  rw [List.filter_map]; rfl
theorem dots_lf (zs : List Pf) : dots (zs.map (·.l)) = zs.map dotP := by
  unfold dots; rw [List.map_map]; rfl
theorem nodup_at {α β : Type} {f : α → β} : ∀ {l : List α}, (l.map f).Nodup → ∀ {x y : α}, x ∈ l → y ∈ l → f x = f y → x = y
  | [], _, _, _, h, _, _ => by cases h
  | a :: l, hn, x, y, hx, hy, he => by
    rw [List.map_cons, List.nodup_cons] at hn
    rcases List.mem_cons.1 hx with e1 | hx'
    · rcases List.mem_cons.1 hy with e2 | hy'
      · rw [e1, e2]
      · exact (hn.1 (List.mem_map.2 ⟨y, hy', by rw [← he, e1]⟩)).elim
    · rcases List.mem_cons.1 hy with e2 | hy'
      · exact (hn.1 (List.mem_map.2 ⟨x, hx', by rw [he, e2]⟩)).elim
      · exact nodup_at hn.2 hx' hy' he
theorem lfind_some {zs : List Pf} {d : Int × Int} {o : Pf} (h : lfind zs d = some o) : o ∈ zs ∧ dotP o = d := by
  refine ⟨List.mem_of_find?_eq_some h, ?_⟩
  have := List.find?_some h
  simpa using this
theorem lfind_none {zs : List Pf} {d : Int × Int} (h : lfind zs d = none) : ∀ z ∈ zs, dotP z ≠ d := by
  intro z hz e
  have := List.find?_eq_none.1 h z hz
  simp [e] at this
theorem dotP_l {z o : Pf} (h : z.l = o.l) : dotP z = dotP o := by unfold dotP; rw [h]
theorem mem_find {zs : List Pf} (hn : (zs.map dotP).Nodup) (z : Pf) {o : Pf} (h : lfind zs (dotP z) = some o) : decide (z.l ∈ zs.map (·.l)) = decide (z.l = o.l) := by
  obtain ⟨ho, hd⟩ := lfind_some h
  rw [Bool.eq_iff_iff]
  simp only [decide_eq_true_eq]
  constructor
  · intro hm
    obtain ⟨y, hy, he⟩ := List.mem_map.1 hm
    have : y = o := nodup_at hn hy ho ((dotP_l he).trans hd.symm)
    rw [← he, this]
  · intro e
    exact List.mem_map.2 ⟨o, ho, e.symm⟩
theorem mem_find0 {zs : List Pf} (z : Pf) (h : lfind zs (dotP z) = none) : decide (z.l ∈ zs.map (·.l)) = false := by
  rw [decide_eq_false]
  intro hm
  obtain ⟨y, hy, he⟩ := List.mem_map.1 hm
  exact lfind_none h y hy (dotP_l he)
theorem loop_skip {q : Lf → Bool} {ys left left' T : List Pf} {z : Pf} (h : (ys ++ left.filter fun z => q z.l).Perm T) (hp : left.Perm (z :: left')) (hz : q z.l = false) : (ys ++ left'.filter fun z => q z.l).Perm T := by
  refine List.Perm.trans (List.Perm.append_left _ ?_) h
  have := (hp.filter (fun z => q z.l)).symm
  rw [List.filter_cons_of_neg (by simp [hz])] at this
  exact this
theorem loop_take {q : Lf → Bool} {ys left left' T : List Pf} {z : Pf} (hT : (T.map dotP).Nodup) (h : (ys ++ left.filter fun z => q z.l).Perm T) (hp : left.Perm (z :: left')) (hz : q z.l = true) :
    (∀ y ∈ ys, dotP y ≠ dotP z) ∧ ((ys ++ [z]) ++ left'.filter fun z => q z.l).Perm T := by
  have h1 : ((ys ++ [z]) ++ left'.filter fun z => q z.l).Perm T := by
    refine List.Perm.trans ?_ h
    rw [List.append_assoc]
    refine List.Perm.append_left _ ?_
    have := (hp.filter (fun z => q z.l)).symm
    rw [List.filter_cons_of_pos (p := fun z : Pf => q z.l) hz] at this
    exact this
  refine ⟨fun y hy e => ?_, h1⟩
  have hn := ((h1.map dotP).nodup_iff).2 hT
  rw [List.map_append, List.map_append] at hn
  have h2 := (List.nodup_append.1 hn).1
  exact (List.nodup_append.1 h2).2.2 (dotP y) (List.mem_map.2 ⟨y, hy, rfl⟩) (dotP z) (by simp) e
theorem join_is {a b : St} (ha : stOk a = true) (hb : stOk b = true) {zsa zsb ys : List Pf} (h1 : zsa.map (·.l) = a.l) (h2 : zsb.map (·.l) = b.l) (hp : ys.Perm ((zsa.filter fun z => kA b z.l) ++ (zsb.filter fun z => kB a z.l)))
    {L : List Lf} (hL : L.Perm (ys.map (·.l))) (hs : ∀ i j (_ : i < j) (hj : j < L.length), before L[j] (L[i]'(by omega)) = false) : L = joinL a b := by
  have e : ((zsa.filter fun z => kA b z.l) ++ (zsb.filter fun z => kB a z.l)).map (·.l) = keepA a b ++ keepB a b := by
    rw [List.map_append, filter_lf, filter_lf, h1, h2]; rfl
  have hp2 : L.Perm (keepA a b ++ keepB a b) := by rw [← e]; exact hL.trans (hp.map _)
  obtain ⟨j1, j2⟩ := joinL_ok ha hb
  exact inc_unique L (joinL a b) (hp2.trans j2.symm) (inc_of_perm hp2 (keep_nodup ha hb) hs) j1
theorem join_T {a b : St} (ha : stOk a = true) (hb : stOk b = true) {zsa zsb : List Pf} (h1 : zsa.map (·.l) = a.l) (h2 : zsb.map (·.l) = b.l) : (((zsa.filter fun z => kA b z.l) ++ (zsb.filter fun z => kB a z.l)).map dotP).Nodup := by
  have e : ((zsa.filter fun z => kA b z.l) ++ (zsb.filter fun z => kB a z.l)).map (·.l) = keepA a b ++ keepB a b := by
    rw [List.map_append, filter_lf, filter_lf, h1, h2]; rfl
  have := keep_nodup ha hb
  rw [← e, dots_lf] at this
  exact this
/-! One leaf put into a row. -/
theorem insL_at (x : Lf) : ∀ (l : List Lf) (k : Nat) (hk : k ≤ l.length), (∀ y ∈ l.take k, before y x = true) → ((h : k < l.length) → before l[k] x = false) → insL l x = (l.take k ++ [x]) ++ l.drop k
  | [], 0, _, _, _ => rfl
  | y :: l, 0, _, _, h => by
    have := h (by simp)
    simp only [List.getElem_cons_zero] at this
    rw [insL, this]; rfl
  | y :: l, k + 1, hk, h1, h2 => by
    have hy := h1 y (by simp)
    rw [insL, hy, if_pos rfl, insL_at x l k (by simpa using hk) (fun z hz => h1 z (by simp [hz])) (fun h => h2 (Nat.succ_lt_succ h))]
    rfl
/-- The same of leaves whose paths lie apart. -/
def insP : List Pf → Pf → List Pf
  | [], z => [z]
  | y :: l, z => if before y.l z.l = true then y :: insP l z else z :: y :: l
theorem insP_l (z : Pf) : ∀ l : List Pf, (insP l z).map (·.l) = insL (l.map (·.l)) z.l
  | [] => rfl
  | y :: l => by
    rw [insP, List.map_cons, insL]
    split
    · rw [List.map_cons, insP_l z l]
    · rfl
theorem insP_perm (z : Pf) : ∀ l : List Pf, (insP l z).Perm (z :: l)
  | [] => .refl _
  | y :: l => by
    rw [insP]
    split
    · exact ((insP_perm z l).cons y).trans (.swap _ _ _)
    · exact .refl _
theorem insP_at (z : Pf) : ∀ (l : List Pf) (k : Nat) (_ : k ≤ l.length), (∀ y ∈ l.take k, before y.l z.l = true) → ((h : k < l.length) → before l[k].l z.l = false) → insP l z = (l.take k ++ [z]) ++ l.drop k
  | [], 0, _, _, _ => rfl
  | y :: l, 0, _, _, h => by
    have := h (by simp)
    simp only [List.getElem_cons_zero] at this
    rw [insP, this]; rfl
  | y :: l, k + 1, hk, h1, h2 => by
    have hy := h1 y (by simp)
    rw [insP, hy, if_pos rfl, insP_at z l k (by simpa using hk) (fun w hw => h1 w (by simp [hw])) (fun h => h2 (Nat.succ_lt_succ h))]
    rfl
theorem insL_len (l : List Lf) (x : Lf) : (insL l x).length = l.length + 1 := by
  have := (insL_perm l x).length_eq
  simpa using this
end Go.Ow
