/- Valid states, as plain Lean. -/
import Derived.Test.YtgfgkbmebdaieaaLf
import Derived.Test.YtgfgkbmebdaieaaPn
import Derived.Test.YtgfgkbmebdaieaaHd
namespace Go.Ow
set_option linter.unusedSimpArgs false
set_option linter.unusedVariables false
open Go.RowKit
def nameOk (s : ByteArray) : Bool := decide (1 ≤ s.size) && decide (s.size ≤ 40)
def pathOk (p : List ByteArray) : Bool := decide (1 ≤ p.length) && (decide (p.length ≤ 8) && p.all nameOk)
def sLt (a b : ByteArray) : Bool := Op.bytesLess a.toList b.toList
def sGt (a b : ByteArray) : Bool := !(Op.bytesLess a.toList b.toList || a.toList == b.toList)
/-- Paths, name by name. -/
def cmpP : List ByteArray → List ByteArray → Int
  | [], [] => 0
  | [], _ :: _ => -1
  | _ :: _, [] => 1
  | a :: x, b :: y => if sLt a b = true then -1 else if sGt a b = true then 1 else cmpP x y
theorem cmpP_range : ∀ (x y : List ByteArray), cmpP x y = 0 ∨ cmpP x y = -1 ∨ cmpP x y = 1
  | [], [] => .inl rfl
  | [], _ :: _ => .inr (.inl rfl)
  | _ :: _, [] => .inr (.inr rfl)
  | a :: x, b :: y => by
    rw [cmpP]
    split
    · exact .inr (.inl rfl)
    · split
      · exact .inr (.inr rfl)
      · exact cmpP_range x y
theorem bytesLess_irr : ∀ (l : List UInt8), Op.bytesLess l l = false
  | [] => rfl
  | a :: l => by rw [Op.bytesLess, bytesLess_irr l]; simp
theorem cmpP_eq : ∀ (x y : List ByteArray), cmpP x y = 0 ↔ x = y
  | [], [] => by simp [cmpP]
  | [], _ :: _ => by simp [cmpP]
  | _ :: _, [] => by simp [cmpP]
  | a :: x, b :: y => by
    have ih := cmpP_eq x y
    rw [cmpP, sLt, sGt]
    by_cases h : a = b
    · subst h; simp [bytesLess_irr, ih]
    · have hq : (a.toList == b.toList) = false := by rw [str_eq]; simp [h]
      rw [hq]
      cases Op.bytesLess a.toList b.toList <;> simp [h]
/-- What the program's comparison of leaves gives. -/
def cmpL (a b : Lf) : Int := if cmpP a.p b.p = 0 then (if a.fl = b.fl then (if a.dr = b.dr then wrap64 (a.ds - b.ds) else wrap64 (a.dr - b.dr)) else if b.fl = true then -1 else 1) else cmpP a.p b.p
/-- What the reference asks. -/
def before (a b : Lf) : Bool := if cmpP a.p b.p = 0 then (if a.fl = b.fl then (if a.dr = b.dr then decide (a.ds < b.ds) else decide (a.dr < b.dr)) else b.fl) else decide (cmpP a.p b.p < 0)
def dotIn (l : Lf) : Prop := (0 ≤ l.dr ∧ l.dr < 8) ∧ 1 ≤ l.ds ∧ l.ds ≤ 1000000000
theorem cmpL_before (a b : Lf) (ha : dotIn a) (hb : dotIn b) : decide (0 ≤ cmpL a b) = !before a b := by
  obtain ⟨⟨a1, a2⟩, a3, a4⟩ := ha
  obtain ⟨⟨b1, b2⟩, b3, b4⟩ := hb
  have w1 : wrap64 (a.ds - b.ds) = a.ds - b.ds := by unfold wrap64; omega
  have w2 : wrap64 (a.dr - b.dr) = a.dr - b.dr := by unfold wrap64; omega
  unfold cmpL before
  rw [w1, w2]
  split
  · split
    · split
      · rw [Bool.eq_iff_iff]; simp
      · rw [Bool.eq_iff_iff]; simp
    · cases b.fl <;> simp
  · rw [Bool.eq_iff_iff]; simp
def okLeaf (c : List Rn) (l : Lf) : Bool := pathOk l.p && (decide (l.v.size ≤ 200) && ((!l.fl || decide (l.v.size = 0)) && hasB c l.dr l.ds))
theorem hasB_bound {c : List Rn} (hc : ctxOk c = true) {r q : Int} (h : hasB c r q = true) : (0 ≤ r ∧ r < 8) ∧ 1 ≤ q ∧ q ≤ 1000000000 := by
  unfold hasB at h
  rw [List.any_eq_true] at h
  obtain ⟨x, hx, hb⟩ := h
  have h0 : okPre none c = true := by unfold ctxOk at hc; simp at hc; exact hc.1
  have := okPre_bound c none h0 x hx
  simp at hb
  omega
theorem okLeaf_dot {c : List Rn} (hc : ctxOk c = true) {l : Lf} (h : okLeaf c l = true) : dotIn l := by
  unfold okLeaf at h
  simp only [Bool.and_eq_true] at h
  exact hasB_bound hc h.2.2.2
def sameDot (a b : Lf) : Bool := decide (a.dr = b.dr ∧ a.ds = b.ds)
/-- The leaf at a place is right. -/
def okAt (c : List Rn) (ls : List Lf) (i : Nat) : Bool :=
  match ls[i]? with
  | none => true
  | some l => okLeaf c l && ((match (if i = 0 then none else ls[i - 1]?) with | none => true | some p => before p l) && (ls.take i).all fun k => !sameDot k l)
def stOk (s : St) : Bool := ctxOk s.c && (decide (s.l.length ≤ 1000) && (List.range s.l.length).all (okAt s.c s.l))
theorem stOk_bad {s : St} {i : Nat} (hi : i < s.l.length) (h : okAt s.c s.l i = false) : stOk s = false := by
  unfold stOk
  have : (List.range s.l.length).all (okAt s.c s.l) = false := by
    rw [List.all_eq_false]
    exact ⟨i, List.mem_range.2 hi, by simp [h]⟩
  rw [this]; simp
theorem stOk_good {s : St} (hc : ctxOk s.c = true) (hn : s.l.length ≤ 1000) (h : ∀ i, i < s.l.length → okAt s.c s.l i = true) : stOk s = true := by
  unfold stOk
  rw [hc]
  simp only [Bool.true_and, Bool.and_eq_true, decide_eq_true_eq]
  exact ⟨hn, List.all_eq_true.2 fun i hi => h i (List.mem_range.1 hi)⟩
theorem stOk_ctx {s : St} (h : ctxOk s.c = false) : stOk s = false := by unfold stOk; rw [h]; rfl
theorem stOk_len {s : St} (h : ¬ s.l.length ≤ 1000) : stOk s = false := by unfold stOk; simp [h]
theorem okAt_leaf {c : List Rn} {ls : List Lf} {i : Nat} (hi : i < ls.length) (h : okLeaf c ls[i] = false) : okAt c ls i = false := by
  unfold okAt; rw [List.getElem?_eq_getElem hi]; simp [h]
theorem okAt_is {c : List Rn} {ls : List Lf} {i : Nat} (hi : i < ls.length) (h : okAt c ls i = true) : okLeaf c ls[i] = true := by
  unfold okAt at h; rw [List.getElem?_eq_getElem hi] at h; simp only [Bool.and_eq_true] at h; exact h.1
theorem okAt_before {c : List Rn} {ls : List Lf} {i : Nat} (hi : i < ls.length) (h0 : 0 < i) (h : before ls[i - 1] ls[i] = false) : okAt c ls i = false := by
  unfold okAt; rw [List.getElem?_eq_getElem hi]
  simp only [if_neg (show ¬ i = 0 by omega), List.getElem?_eq_getElem (show i - 1 < ls.length by omega), h]
  simp
theorem okAt_again {c : List Rn} {ls : List Lf} {i k : Nat} (hi : i < ls.length) (hk : k < i) (h : sameDot (ls[k]'(by omega)) ls[i] = true) : okAt c ls i = false := by
  unfold okAt; rw [List.getElem?_eq_getElem hi]
  have : ((ls.take i).all fun k => !sameDot k ls[i]) = false := by
    rw [List.all_eq_false]
    exact ⟨ls[k]'(by omega), by rw [List.mem_take_iff_getElem]; exact ⟨k, by omega, rfl⟩, by simp [h]⟩
  simp only [this]
  simp
theorem okAt_good {c : List Rn} {ls : List Lf} {i : Nat} (hi : i < ls.length) (h1 : okLeaf c ls[i] = true) (h2 : (hp : 0 < i) → before (ls[i - 1]'(by omega)) ls[i] = true) (h3 : ∀ k (hk : k < i), sameDot (ls[k]'(by omega)) ls[i] = false) : okAt c ls i = true := by
  unfold okAt; rw [List.getElem?_eq_getElem hi]
  simp only [h1, Bool.true_and, Bool.and_eq_true, List.all_eq_true]
  refine ⟨?_, fun x hx => ?_⟩
  · by_cases h0 : i = 0
    · rw [if_pos h0]
    · rw [if_neg h0, List.getElem?_eq_getElem (show i - 1 < ls.length by omega)]
      exact h2 (by omega)
  · rw [List.mem_take_iff_getElem] at hx
    obtain ⟨k, hk, rfl⟩ := hx
    simp [h3 k (by omega)]
end Go.Ow
namespace Go.Ow
def dots (l : List Lf) : List (Int × Int) := l.map fun x => (x.dr, x.ds)
theorem st_bad1 {s : St} {k : Nat} (hlt : k < s.l.length) (h : okLeaf s.c s.l[k] = false) : stOk s = false := stOk_bad hlt (okAt_leaf hlt h)
theorem st_bad2 {s : St} {k : Nat} (hlt : k + 1 < s.l.length) (h : before (s.l[k]'(by omega)) s.l[k + 1] = false) : stOk s = false :=
  stOk_bad hlt (okAt_before hlt (by omega) (by simpa using h))
theorem st_bad3 {s : St} {k : Nat} (hlt : k < s.l.length) (h : (s.l[k].dr, s.l[k].ds) ∈ dots (s.l.take k)) : stOk s = false := by
  unfold dots at h
  obtain ⟨y, hy, he⟩ := List.mem_map.1 h
  rw [List.mem_take_iff_getElem] at hy
  obtain ⟨j, hj, rfl⟩ := hy
  refine stOk_bad hlt (okAt_again (k := j) hlt (by omega) ?_)
  simp only [Prod.mk.injEq] at he
  simp [sameDot, he]
theorem st_good {s : St} {k : Nat} (hlt : k < s.l.length) (ha : ∀ j, j < k → okAt s.c s.l j = true) (h1 : okLeaf s.c s.l[k] = true) (h2 : (hp : 0 < k) → before (s.l[k - 1]'(by omega)) s.l[k] = true) (h3 : (s.l[k].dr, s.l[k].ds) ∉ dots (s.l.take k)) : ∀ j, j < k + 1 → okAt s.c s.l j = true := by
  intro j hj
  by_cases hjk : j < k
  · exact ha j hjk
  · obtain rfl : j = k := by omega
    refine okAt_good hlt h1 h2 fun i hi => ?_
    cases hs : sameDot (s.l[i]'(by omega)) s.l[j]
    · rfl
    · exfalso
      apply h3
      unfold dots
      refine List.mem_map.2 ⟨s.l[i]'(by omega), by rw [List.mem_take_iff_getElem]; exact ⟨i, by omega, rfl⟩, ?_⟩
      simp [sameDot] at hs
      simp [hs]
theorem dots_succ {l : List Lf} {k : Nat} (hlt : k < l.length) : dots (l.take (k + 1)) = dots (l.take k) ++ [(l[k].dr, l[k].ds)] := by
  unfold dots
  rw [List.take_succ_eq_append_getElem hlt, List.map_append]; rfl
theorem dots_not {l : List Lf} {k : Nat} {d : Int × Int} (hk : k ≤ l.length) (h : ∀ i, i < k → ∀ (hi : i < l.length), (l[i].dr, l[i].ds) ≠ d) : d ∉ dots (l.take k) := by
  unfold dots
  intro hm
  obtain ⟨y, hy, he⟩ := List.mem_map.1 hm
  rw [List.mem_take_iff_getElem] at hy
  obtain ⟨i, hi, rfl⟩ := hy
  exact h i (by omega) (by omega) he
theorem dots_in {l : List Lf} {k i : Nat} {d : Int × Int} (hk : k ≤ l.length) (hi : i < k) (h : ((l[i]'(by omega)).dr, (l[i]'(by omega)).ds) = d) : d ∈ dots (l.take k) := by
  unfold dots
  exact List.mem_map.2 ⟨l[i]'(by omega), by rw [List.mem_take_iff_getElem]; exact ⟨i, by omega, rfl⟩, h⟩
end Go.Ow
