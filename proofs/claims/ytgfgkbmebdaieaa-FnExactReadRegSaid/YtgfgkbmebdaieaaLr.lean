/- Texts in order, each once, in plain Lean. -/
import Derived.Test.YtgfgkbmebdaieaaLs
import Derived.Lib.SlicesCompact
namespace Go.Ow
set_option linter.unusedSimpArgs false
set_option linter.unusedVariables false
open Go.RowKit
theorem bl_lt : ∀ (x y : List UInt8), Op.bytesLess x y = decide (x < y)
  | [], [] => by simp [Op.bytesLess]
  | _ :: _, [] => by simp [Op.bytesLess]
  | [], _ :: _ => by simp [Op.bytesLess]
  | a :: x, b :: y => by
    rw [Op.bytesLess, bl_lt x y]
    simp only [List.cons_lt_cons_iff]
    by_cases h1 : a < b <;> by_cases h2 : a = b <;> by_cases h3 : x < y <;> simp [h1, h2, h3]
def Lt (a b : ByteArray) : Prop := a.toList < b.toList
theorem sLt_iff (a b : ByteArray) : sLt a b = true ↔ Lt a b := by unfold sLt Lt; rw [bl_lt]; simp
theorem toList_inj {a b : ByteArray} (h : a.toList = b.toList) : a = b := by
  rw [ByteArray.toList_eq, ByteArray.toList_eq] at h
  exact ByteArray.ext (Array.ext' h)
theorem lt_tri (a b : ByteArray) : Lt a b ∨ a = b ∨ Lt b a := by
  unfold Lt
  by_cases h1 : a.toList < b.toList
  · exact .inl h1
  · by_cases h2 : b.toList < a.toList
    · exact .inr (.inr h2)
    · exact .inr (.inl (toList_inj (List.le_antisymm (List.not_lt.1 h2) (List.not_lt.1 h1))))
theorem Lt.trans {a b c : ByteArray} (h : Lt a b) (h2 : Lt b c) : Lt a c := List.lt_trans h h2
theorem Lt.irr (a : ByteArray) : ¬ Lt a a := List.lt_irrefl _
def insO (x : ByteArray) : List ByteArray → List ByteArray
  | [] => [x]
  | y :: l => if sLt y x = true then y :: insO x l else if y = x then y :: l else x :: y :: l
theorem insO_ok (x : ByteArray) : ∀ l : List ByteArray, l.Pairwise Lt → (insO x l).Pairwise Lt ∧ ∀ z, z ∈ insO x l ↔ z = x ∨ z ∈ l
  | [], _ => by simp [insO]
  | y :: l, h => by
    obtain ⟨h1, h2⟩ := List.pairwise_cons.1 h
    obtain ⟨i1, i2⟩ := insO_ok x l h2
    rw [insO]
    by_cases c1 : sLt y x = true
    · rw [if_pos c1]
      rw [sLt_iff] at c1
      refine ⟨List.pairwise_cons.2 ⟨fun z hz => ?_, i1⟩, fun z => ?_⟩
      · rcases (i2 z).1 hz with rfl | hz
        · exact c1
        · exact h1 z hz
      · rw [List.mem_cons, i2, List.mem_cons]
        constructor
        · rintro (h | h | h)
          · exact .inr (.inl h)
          · exact .inl h
          · exact .inr (.inr h)
        · rintro (h | h | h)
          · exact .inr (.inl h)
          · exact .inl h
          · exact .inr (.inr h)
    · rw [if_neg c1]
      by_cases c2 : y = x
      · rw [if_pos c2]
        refine ⟨h, fun z => ?_⟩
        subst c2
        rw [List.mem_cons]
        exact ⟨.inr, fun h => h.elim .inl id⟩
      · rw [if_neg c2]
        have hxy : Lt x y := by
          rcases lt_tri x y with h | h | h
          · exact h
          · exact absurd h.symm c2
          · exact absurd ((sLt_iff y x).2 h) c1
        refine ⟨List.pairwise_cons.2 ⟨fun z hz => ?_, h⟩, fun z => by rw [List.mem_cons]⟩
        rcases List.mem_cons.1 hz with rfl | hz
        · exact hxy
        · exact hxy.trans (h1 z hz)
def onceF (out l : List ByteArray) : List ByteArray := l.foldl (fun o x => insO x o) out
theorem onceF_ok : ∀ (l out : List ByteArray), out.Pairwise Lt → (onceF out l).Pairwise Lt ∧ ∀ z, z ∈ onceF out l ↔ z ∈ out ∨ z ∈ l
  | [], out, h => by simp [onceF, h]
  | x :: l, out, h => by
    obtain ⟨i1, i2⟩ := insO_ok x out h
    obtain ⟨j1, j2⟩ := onceF_ok l (insO x out) i1
    refine ⟨j1, fun z => ?_⟩
    show z ∈ onceF (insO x out) l ↔ _
    rw [j2, i2, List.mem_cons]
    constructor
    · rintro ((h | h) | h)
      · exact .inr (.inl h)
      · exact .inl h
      · exact .inr (.inr h)
    · rintro (h | h | h)
      · exact .inl (.inr h)
      · exact .inl (.inl h)
      · exact .inr h
theorem strict_unique : ∀ (a b : List ByteArray), a.Pairwise Lt → b.Pairwise Lt → (∀ z, z ∈ a ↔ z ∈ b) → a = b
  | [], [], _, _, _ => rfl
  | [], y :: b, _, _, h => by have := (h y).2 (by simp); cases this
  | x :: a, [], _, _, h => by have := (h x).1 (by simp); cases this
  | x :: a, y :: b, ha, hb, h => by
    obtain ⟨a1, a2⟩ := List.pairwise_cons.1 ha
    obtain ⟨b1, b2⟩ := List.pairwise_cons.1 hb
    have e : x = y := by
      rcases List.mem_cons.1 ((h x).1 (by simp)) with e | e
      · exact e
      · rcases List.mem_cons.1 ((h y).2 (by simp)) with e2 | e2
        · exact e2.symm
        · exact absurd ((b1 x e).trans (a1 y e2)) (Lt.irr y)
    subst e
    congr 1
    refine strict_unique a b a2 b2 fun z => ⟨fun hz => ?_, fun hz => ?_⟩
    · rcases List.mem_cons.1 ((h z).1 (List.mem_cons_of_mem _ hz)) with rfl | h'
      · exact absurd (a1 _ hz) (Lt.irr _)
      · exact h'
    · rcases List.mem_cons.1 ((h z).2 (List.mem_cons_of_mem _ hz)) with rfl | h'
      · exact absurd (b1 _ hz) (Lt.irr _)
      · exact h'
/-! The library's: sorted, then what equals its neighbour taken out. -/
theorem compactUpTo_ok (d : Array (List UInt8)) (hd : ∀ i j, i < j → j < d.size → d[i]! ≤ d[j]!) : ∀ m, m ≤ d.size → (Lib.compactUpTo d m).Pairwise (· < ·) ∧ (∀ z ∈ Lib.compactUpTo d m, 0 < m ∧ z ≤ d[m - 1]!) ∧ ∀ z, z ∈ Lib.compactUpTo d m ↔ ∃ j, j < m ∧ d[j]! = z
  | 0, _ => by simp [Lib.compactUpTo]
  | m + 1, hm => by
    obtain ⟨p1, p2, p3⟩ := compactUpTo_ok d hd m (by omega)
    rw [Lib.compactUpTo_succ]
    have up : ∀ z ∈ Lib.compactUpTo d m, z ≤ d[m]! := fun z hz => by
      obtain ⟨h0, h1⟩ := p2 z hz
      exact List.le_trans h1 (hd (m - 1) m (by omega) (by omega))
    by_cases hk : Lib.keeps d m = true
    · rw [if_pos hk]
      refine ⟨List.pairwise_append.2 ⟨p1, by simp, fun z hz y hy => ?_⟩, fun z hz => ⟨by omega, ?_⟩, fun z => ?_⟩
      · rw [List.mem_singleton] at hy; subst hy
        obtain ⟨h0, h1⟩ := p2 z hz
        have hne : d[m]! ≠ d[m - 1]! := by
          unfold Lib.keeps at hk
          simp at hk
          rcases hk with h | h
          · omega
          · exact h
        have h2 := hd (m - 1) m (by omega) (by omega)
        by_cases hlt : z < d[m]!
        · exact hlt
        · exfalso
          have h3 : d[m]! ≤ z := List.not_lt.1 hlt
          exact hne (List.le_antisymm (List.le_trans h3 h1) h2)
      · rcases List.mem_append.1 hz with hz | hz
        · exact up z hz
        · rw [List.mem_singleton] at hz; subst hz; exact List.le_refl _
      · rw [List.mem_append, List.mem_singleton, p3]
        constructor
        · rintro (⟨j, hj, h⟩ | h)
          · exact ⟨j, by omega, h⟩
          · exact ⟨m, by omega, h.symm⟩
        · rintro ⟨j, hj, h⟩
          by_cases hjm : j = m
          · subst hjm; exact .inr h.symm
          · exact .inl ⟨j, by omega, h⟩
    · rw [if_neg hk, List.append_nil]
      have hk2 : 0 < m ∧ d[m]! = d[m - 1]! := by
        unfold Lib.keeps at hk
        simp at hk
        exact ⟨by omega, hk.2⟩
      refine ⟨p1, fun z hz => ⟨by omega, up z hz⟩, fun z => ?_⟩
      rw [p3]
      constructor
      · rintro ⟨j, hj, h⟩; exact ⟨j, by omega, h⟩
      · rintro ⟨j, hj, h⟩
        by_cases hjm : j = m
        · subst hjm; exact ⟨j - 1, by omega, by rw [← hk2.2]; exact h⟩
        · exact ⟨j, by omega, h⟩
def toB (l : List UInt8) : ByteArray := ⟨l.toArray⟩
theorem toList_toB (l : List UInt8) : (toB l).toList = l := by rw [ByteArray.toList_eq]; rfl
theorem toB_toList (a : ByteArray) : toB a.toList = a := toList_inj (toList_toB _)
theorem lib_once (vals : List ByteArray) : (Lib.compact ((vals.map ByteArray.toList).mergeSort fun x y => decide (x ≤ y))).map toB = onceF [] vals := by
  have hs := List.pairwise_mergeSort (le := fun x y : List UInt8 => decide (x ≤ y)) (fun a b c h1 h2 => by simp at *; exact List.le_trans h1 h2) (fun a b => by simp; exact List.le_total a b) (vals.map ByteArray.toList)
  have hp := List.mergeSort_perm (vals.map ByteArray.toList) (fun x y : List UInt8 => decide (x ≤ y))
  obtain ⟨zs, hz⟩ : ∃ zs, (vals.map ByteArray.toList).mergeSort (fun x y => decide (x ≤ y)) = zs := ⟨_, rfl⟩
  rw [hz] at hs hp ⊢
  have hd : ∀ i j, i < j → j < zs.toArray.size → zs.toArray[i]! ≤ zs.toArray[j]! := fun i j hij hj => by
    have hj' : j < zs.length := by simpa using hj
    have := List.pairwise_iff_getElem.1 hs i j (by omega) hj' hij
    rw [getElem!_pos _ i (by simp; omega), getElem!_pos _ j (by simpa using hj)]
    simpa using this
  obtain ⟨c1, _, c3⟩ := compactUpTo_ok zs.toArray hd zs.length (by simp)
  obtain ⟨o1, o2⟩ := onceF_ok vals [] List.Pairwise.nil
  refine strict_unique _ _ ?_ o1 fun z => ?_
  · unfold Lib.compact
    rw [List.pairwise_map]
    exact c1.imp fun {a b} h => by unfold Lt; rw [toList_toB, toList_toB]; exact h
  · rw [o2]
    unfold Lib.compact
    rw [List.mem_map]
    constructor
    · rintro ⟨l, hl, rfl⟩
      obtain ⟨j, hj, rfl⟩ := (c3 l).1 hl
      right
      rw [getElem!_pos _ j (by simpa using hj)]
      have hm : zs.toArray[j]'(by simpa using hj) ∈ zs := by simp
      obtain ⟨v, hv, he⟩ := List.mem_map.1 (hp.mem_iff.1 hm)
      rw [← he, toB_toList]; exact hv
    · rintro (h | h)
      · cases h
      · refine ⟨z.toList, (c3 _).2 ?_, toB_toList z⟩
        have hm : z.toList ∈ zs := hp.mem_iff.2 (List.mem_map.2 ⟨z, h, rfl⟩)
        obtain ⟨j, hj, he⟩ := List.getElem_of_mem hm
        exact ⟨j, hj, by rw [getElem!_pos _ j (by simpa using hj)]; simpa using he⟩
end Go.Ow
