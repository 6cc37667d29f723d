/- The own library, part 2: Pn Hd Ls Lr Un Lo Uo. -/
import Derived.Test.YtkafflbakgkpcaaGreatL1
import Derived.Test.YtkafflbakgkpcaaGreatCa
import Derived.Lib.SlicesCompact

/- Contexts in plain Lean: the cloud's lists, the greatest number of a replica. -/
namespace Go.Ow
set_option linter.unusedSimpArgs false
set_option linter.unusedVariables false
open Go.RowKit
structure Sp where
  f : Int
  t : Int
  deriving DecidableEq
instance : Fl Sp := Fl.iso (fun s : Sp => (s.f, s.t))
/-- The spans, put to their replicas in order. -/
def cloud (g : List (Int × List Sp)) : List Rn → List (Int × List Sp)
  | [] => g
  | r :: xs => cloud (mput g r.r (mget g r.r ++ [⟨r.f, r.t⟩])) xs
def spansOf (xs : List Rn) (rep : Int) : List Sp := (xs.filter (fun r => r.r == rep)).map fun r => ⟨r.f, r.t⟩
theorem mget_cloud (rep : Int) : ∀ (xs : List Rn) (g : List (Int × List Sp)), mget (cloud g xs) rep = mget g rep ++ spansOf xs rep
  | [], g => by simp [cloud, spansOf]
  | r :: xs, g => by
    rw [cloud, mget_cloud rep xs, mget_mput]
    by_cases h : rep = r.r
    · subst h; simp [spansOf, List.filter_cons]
    · have h2 : ¬ r.r = rep := fun e => h e.symm
      simp [spansOf, List.filter_cons, h, h2]
theorem mget_cloud0 (xs : List Rn) (rep : Int) : mget (cloud [] xs) rep = spansOf xs rep := by
  rw [mget_cloud]; simp [mget]
/-- The reference's search for the greatest To. -/
def topOf (rep : Int) : List Rn → Int → Int
  | [], m => m
  | r :: xs, m => topOf rep xs (if r.r = rep ∧ m < r.t then r.t else m)
/-- The last span's To. -/
def lastTo (l : List Sp) : Int := match l.getLast? with | none => 0 | some s => s.t
theorem okPre_bound : ∀ (xs : List Rn) (p : Option Rn), okPre p xs = true → ∀ r ∈ xs, 0 ≤ r.r ∧ r.r < 8 ∧ 1 ≤ r.f ∧ r.f ≤ r.t ∧ r.t ≤ 1000000000
  | [], _, _, r, hr => by cases hr
  | x :: xs, p, h, r, hr => by
    simp only [okPre, Bool.and_eq_true] at h
    rcases List.mem_cons.1 hr with rfl | hr
    · have := h.1.1; simp [runOk] at this; omega
    · exact okPre_bound xs (some x) h.2 r hr
/-- Behind a run of a valid context, runs of the same replica lie higher. -/
theorem okPre_up : ∀ (xs : List Rn) (q : Rn), okPre (some q) xs = true → q.t ≤ 1000000000 → 1 ≤ q.t → ∀ r ∈ xs, q.r ≤ r.r ∧ (q.r = r.r → q.t + 1 < r.f)
  | [], _, _, _, _, r, hr => by cases hr
  | x :: xs, q, h, hq, hq1, r, hr => by
    have hb := okPre_bound (x :: xs) (some q) h
    simp only [okPre, Bool.and_eq_true] at h
    have hap := h.1.2
    have hx := hb x (by simp)
    have hw : wrap64 (q.t + 1) = q.t + 1 := by unfold wrap64; omega
    simp [apart, hw] at hap
    rcases List.mem_cons.1 hr with rfl | hr
    · omega
    · have hrb := hb r (by simp [hr])
      have := okPre_up xs x h.2 (by omega) (by omega) r hr
      omega
theorem topOf_cons (rep : Int) : ∀ (xs : List Rn) (q : Rn) (m : Int), okPre (some q) xs = true → q.t ≤ 1000000000 → 1 ≤ q.t → (q.r = rep → m = q.t) → (q.r < rep → m = 0) → (rep < q.r → spansOf xs rep = []) →
    topOf rep xs m = match (spansOf xs rep).getLast? with | none => m | some s => s.t
  | [], q, m, _, _, _, _, _, _ => by simp [topOf, spansOf]
  | x :: xs, q, m, h, hq, hq1, h1, h2, h3 => by
    have hb := okPre_bound (x :: xs) (some q) h x (by simp)
    have hu := okPre_up (x :: xs) q h hq hq1 x (by simp)
    have h' : okPre (some x) xs = true := by simp only [okPre, Bool.and_eq_true] at h; exact h.2
    have hno : rep < x.r → spansOf xs rep = [] := by
      intro hlt
      unfold spansOf
      rw [List.map_eq_nil_iff, List.filter_eq_nil_iff]
      intro r hr
      have := okPre_up xs x h' (by omega) (by omega) r hr
      simp; omega
    rw [topOf]
    by_cases hx : x.r = rep
    · have hlt : m < x.t := by
        rcases Int.lt_trichotomy q.r rep with hqr | hqr | hqr
        · have := h2 hqr; omega
        · have := h1 hqr; have := hu.2 (by omega); omega
        · omega
      rw [if_pos ⟨hx, hlt⟩, topOf_cons rep xs x x.t h' (by omega) (by omega) (fun _ => rfl) (fun hc => by omega) (fun hc => by omega)]
      have e : spansOf (x :: xs) rep = ⟨x.f, x.t⟩ :: spansOf xs rep := by simp [spansOf, List.filter_cons, hx]
      rw [e, List.getLast?_cons]
      cases (spansOf xs rep).getLast? <;> rfl
    · rw [if_neg (by intro hc; exact hx hc.1)]
      have e : spansOf (x :: xs) rep = spansOf xs rep := by simp [spansOf, List.filter_cons, hx]
      rw [e]
      by_cases hlt : rep < x.r
      · rw [hno hlt]
        have : ∀ (l : List Rn) (m : Int), spansOf l rep = [] → topOf rep l m = m := by
          intro l
          induction l with
          | nil => intro m _; rfl
          | cons a l ih =>
            intro m hl
            have ha : ¬ a.r = rep := by
              intro ha; simp [spansOf, List.filter_cons, ha] at hl
            rw [topOf, if_neg (by intro hc; exact ha hc.1)]
            exact ih m (by simpa [spansOf, List.filter_cons, ha] using hl)
        rw [this xs m (hno hlt)]; rfl
      · exact topOf_cons rep xs x m h' (by omega) (by omega) (fun hc => absurd hc hx) (fun hc => by
          rcases Int.lt_trichotomy q.r rep with hqr | hqr | hqr
          · exact h2 hqr
          · have := hu.1; omega
          · have := hu.1; omega) (fun hc => absurd hc hlt)
theorem topOf_last (xs : List Rn) (rep : Int) (h : ctxOk xs = true) : topOf rep xs 0 = lastTo (spansOf xs rep) := by
  have h0 : okPre none xs = true := by unfold ctxOk at h; simp at h; exact h.1
  cases xs with
  | nil => rfl
  | cons x xs =>
    have hb := okPre_bound (x :: xs) none h0 x (by simp)
    have h' : okPre (some x) xs = true := by simp only [okPre, Bool.and_eq_true] at h0; exact h0.2
    have hno : rep < x.r → spansOf xs rep = [] := by
      intro hlt
      unfold spansOf
      rw [List.map_eq_nil_iff, List.filter_eq_nil_iff]
      intro r hr
      have := okPre_up xs x h' (by omega) (by omega) r hr
      simp; omega
    rw [topOf]
    by_cases hx : x.r = rep
    · rw [if_pos ⟨hx, by omega⟩, topOf_cons rep xs x x.t h' (by omega) (by omega) (fun _ => rfl) (fun hc => by omega) (fun hc => by omega)]
      have e : spansOf (x :: xs) rep = ⟨x.f, x.t⟩ :: spansOf xs rep := by simp [spansOf, List.filter_cons, hx]
      unfold lastTo
      rw [e, List.getLast?_cons]
      cases (spansOf xs rep).getLast? <;> rfl
    · rw [if_neg (by intro hc; exact hx hc.1), topOf_cons rep xs x 0 h' (by omega) (by omega) (fun hc => absurd hc hx) (fun _ => rfl) hno]
      have e : spansOf (x :: xs) rep = spansOf xs rep := by simp [spansOf, List.filter_cons, hx]
      unfold lastTo
      rw [e]
      try (cases (spansOf xs rep).getLast? <;> rfl)
end Go.Ow

/- HasDot and PutContext in plain Lean. -/
namespace Go.Ow
set_option linter.unusedSimpArgs false
set_option linter.unusedVariables false
open Go.RowKit
/-- A dot lies in one of the runs. -/
def hasB (xs : List Rn) (rep seq : Int) : Bool := xs.any fun x => decide (x.r = rep) && (decide (x.f ≤ seq) && decide (seq ≤ x.t))
def hasDot (xs : List Rn) (rep seq : Int) : Bool := ctxOk xs && hasB xs rep seq
theorem hasB_spans (xs : List Rn) (rep seq : Int) : hasB xs rep seq = (spansOf xs rep).any fun s => decide (s.f ≤ seq) && decide (seq ≤ s.t) := by
  unfold hasB spansOf
  induction xs with
  | nil => rfl
  | cons x xs ih =>
    by_cases h : x.r = rep
    · simp [List.filter_cons, h, ih]
    · simp [List.filter_cons, h, ih]
/-- Spans in order, with a gap between each two. -/
def Spaced : List Sp → Prop
  | [] => True
  | s :: l => (1 ≤ s.f ∧ s.f ≤ s.t ∧ s.t ≤ 1000000000) ∧ (∀ u ∈ l, s.t + 1 < u.f) ∧ Spaced l
theorem spaced_of (rep : Int) : ∀ (xs : List Rn) (p : Option Rn), okPre p xs = true → Spaced (spansOf xs rep)
  | [], _, _ => trivial
  | x :: xs, p, h => by
    have hb := okPre_bound (x :: xs) p h x (by simp)
    have h' : okPre (some x) xs = true := by simp only [okPre, Bool.and_eq_true] at h; exact h.2
    have ih := spaced_of rep xs (some x) h'
    by_cases hx : x.r = rep
    · have e : spansOf (x :: xs) rep = ⟨x.f, x.t⟩ :: spansOf xs rep := by simp [spansOf, List.filter_cons, hx]
      rw [e]
      refine ⟨(show 1 ≤ x.f ∧ x.f ≤ x.t ∧ x.t ≤ 1000000000 from ⟨by omega, by omega, by omega⟩), fun u hu => ?_, ih⟩
      obtain ⟨r, hr, rfl⟩ := List.mem_map.1 hu
      have hr' := List.mem_filter.1 hr
      have := okPre_up xs x h' (by omega) (by omega) r hr'.1
      have h2 : r.r = rep := by simpa using hr'.2
      exact this.2 (by omega)
    · have e : spansOf (x :: xs) rep = spansOf xs rep := by simp [spansOf, List.filter_cons, hx]
      rw [e]; exact ih
theorem spaced_ctx (xs : List Rn) (rep : Int) (h : ctxOk xs = true) : Spaced (spansOf xs rep) :=
  spaced_of rep xs none (by unfold ctxOk at h; simp at h; exact h.1)
theorem Spaced.at_ : ∀ {l : List Sp}, Spaced l → ∀ i (hi : i < l.length), 1 ≤ l[i].f ∧ l[i].f ≤ l[i].t ∧ l[i].t ≤ 1000000000
  | s :: l, h, 0, _ => h.1
  | s :: l, h, i + 1, hi => h.2.2.at_ i (by simpa using hi)
theorem Spaced.lt : ∀ {l : List Sp}, Spaced l → ∀ i j (hi : i < l.length) (hj : j < l.length), i < j → l[i].t + 1 < l[j].f
  | s :: l, h, 0, j + 1, _, hj, _ => h.2.1 _ (List.getElem_mem (by simpa using hj))
  | s :: l, h, i + 1, j + 1, hi, hj, hij => h.2.2.lt i j (by simpa using hi) (by simpa using hj) (by omega)
  | _ :: _, _, _, 0, _, _, h => by omega
  | [], _, _, _, hi, _, _ => by simp at hi
/-- What the search finds, and what it says. -/
theorem search_has {l : List Sp} (h : Spaced l) (seq : Int) (i : Nat) (hle : i ≤ l.length) (hi : 1 ≤ seq → ∀ j (hj : j < l.length), (j < i → l[j].t < seq) ∧ (i ≤ j → seq ≤ l[j].t)) :
    (l.any fun s => decide (s.f ≤ seq) && decide (seq ≤ s.t)) = (if h : i < l.length then decide (l[i].f ≤ seq) else false) := by
  rw [Bool.eq_iff_iff, List.any_eq_true]
  constructor
  · rintro ⟨s, hs, hb⟩
    obtain ⟨k, hk, rfl⟩ := List.getElem_of_mem hs
    simp at hb
    have h1 := h.at_ k hk
    have hi' := hi (by omega)
    have hki : i ≤ k := by
      rcases Nat.lt_or_ge k i with hlt | hge
      · have := (hi' k hk).1 hlt; omega
      · exact hge
    have hil : i < l.length := by omega
    rw [dif_pos hil]
    rcases Nat.lt_or_ge i k with hlt | hge
    · have h2 := h.lt i k hil hk hlt
      have h3 := (hi' i hil).2 (by omega)
      omega
    · obtain rfl : i = k := by omega
      simpa using hb.1
  · intro hb
    by_cases hil : i < l.length
    · rw [dif_pos hil] at hb
      have hf : l[i].f ≤ seq := by simpa using hb
      have h1 := h.at_ i hil
      have h3 := (hi (by omega) i hil).2 (by omega)
      exact ⟨l[i], List.getElem_mem hil, by simp; exact ⟨hf, h3⟩⟩
    · rw [dif_neg hil] at hb; cases hb
end Go.Ow

/- Valid states, as plain Lean. -/
namespace Go.Ow
set_option linter.unusedSimpArgs false
set_option linter.unusedVariables false
open Go.RowKit
def nameOk (s : ByteArray) : Bool := decide (1 ≤ s.size) && decide (s.size ≤ 40)
def pathOk (p : List ByteArray) : Bool := decide (1 ≤ p.length) && (decide (p.length ≤ 8) && p.all nameOk)
def sLt (a b : ByteArray) : Bool := Op.bytesLess a.toList b.toList
def sGt (a b : ByteArray) : Bool := !(Op.bytesLess a.toList b.toList || a.toList == b.toList)
/-- Paths, name by name. -/
def cmpP : List ByteArray → List ByteArray → Int
  | [], [] => 0
  | [], _ :: _ => -1
  | _ :: _, [] => 1
  | a :: x, b :: y => if sLt a b = true then -1 else if sGt a b = true then 1 else cmpP x y
theorem cmpP_range : ∀ (x y : List ByteArray), cmpP x y = 0 ∨ cmpP x y = -1 ∨ cmpP x y = 1
  | [], [] => .inl rfl
  | [], _ :: _ => .inr (.inl rfl)
  | _ :: _, [] => .inr (.inr rfl)
  | a :: x, b :: y => by
    rw [cmpP]
    split
    · exact .inr (.inl rfl)
    · split
      · exact .inr (.inr rfl)
      · exact cmpP_range x y
theorem bytesLess_irr : ∀ (l : List UInt8), Op.bytesLess l l = false
  | [] => rfl
  | a :: l => by rw [Op.bytesLess, bytesLess_irr l]; simp
theorem cmpP_eq : ∀ (x y : List ByteArray), cmpP x y = 0 ↔ x = y
  | [], [] => by simp [cmpP]
  | [], _ :: _ => by simp [cmpP]
  | _ :: _, [] => by simp [cmpP]
  | a :: x, b :: y => by
    have ih := cmpP_eq x y
    rw [cmpP, sLt, sGt]
    by_cases h : a = b
    · subst h; simp [bytesLess_irr, ih]
    · have hq : (a.toList == b.toList) = false := by rw [str_eq]; simp [h]
      rw [hq]
      cases Op.bytesLess a.toList b.toList <;> simp [h]
/-- What the program's comparison of leaves gives. -/
def cmpL (a b : Lf) : Int := if cmpP a.p b.p = 0 then (if a.fl = b.fl then (if a.dr = b.dr then wrap64 (a.ds - b.ds) else wrap64 (a.dr - b.dr)) else if b.fl = true then -1 else 1) else cmpP a.p b.p
/-- What the reference asks. -/
def before (a b : Lf) : Bool := if cmpP a.p b.p = 0 then (if a.fl = b.fl then (if a.dr = b.dr then decide (a.ds < b.ds) else decide (a.dr < b.dr)) else b.fl) else decide (cmpP a.p b.p < 0)
def dotIn (l : Lf) : Prop := (0 ≤ l.dr ∧ l.dr < 8) ∧ 1 ≤ l.ds ∧ l.ds ≤ 1000000000
theorem cmpL_before (a b : Lf) (ha : dotIn a) (hb : dotIn b) : decide (0 ≤ cmpL a b) = !before a b := by
  obtain ⟨⟨a1, a2⟩, a3, a4⟩ := ha
  obtain ⟨⟨b1, b2⟩, b3, b4⟩ := hb
  have w1 : wrap64 (a.ds - b.ds) = a.ds - b.ds := by unfold wrap64; omega
  have w2 : wrap64 (a.dr - b.dr) = a.dr - b.dr := by unfold wrap64; omega
  unfold cmpL before
  rw [w1, w2]
  split
  · split
    · split
      · rw [Bool.eq_iff_iff]; simp
      · rw [Bool.eq_iff_iff]; simp
    · cases b.fl <;> simp
  · rw [Bool.eq_iff_iff]; simp
def okLeaf (c : List Rn) (l : Lf) : Bool := pathOk l.p && (decide (l.v.size ≤ 200) && ((!l.fl || decide (l.v.size = 0)) && hasB c l.dr l.ds))
theorem hasB_bound {c : List Rn} (hc : ctxOk c = true) {r q : Int} (h : hasB c r q = true) : (0 ≤ r ∧ r < 8) ∧ 1 ≤ q ∧ q ≤ 1000000000 := by
  unfold hasB at h
  rw [List.any_eq_true] at h
  obtain ⟨x, hx, hb⟩ := h
  have h0 : okPre none c = true := by unfold ctxOk at hc; simp at hc; exact hc.1
  have := okPre_bound c none h0 x hx
  simp at hb
  omega
theorem okLeaf_dot {c : List Rn} (hc : ctxOk c = true) {l : Lf} (h : okLeaf c l = true) : dotIn l := by
  unfold okLeaf at h
  simp only [Bool.and_eq_true] at h
  exact hasB_bound hc h.2.2.2
def sameDot (a b : Lf) : Bool := decide (a.dr = b.dr ∧ a.ds = b.ds)
/-- The leaf at a place is right. -/
def okAt (c : List Rn) (ls : List Lf) (i : Nat) : Bool :=
  match ls[i]? with
  | none => true
  | some l => okLeaf c l && ((match (if i = 0 then none else ls[i - 1]?) with | none => true | some p => before p l) && (ls.take i).all fun k => !sameDot k l)
def stOk (s : St) : Bool := ctxOk s.c && (decide (s.l.length ≤ 1000) && (List.range s.l.length).all (okAt s.c s.l))
theorem stOk_bad {s : St} {i : Nat} (hi : i < s.l.length) (h : okAt s.c s.l i = false) : stOk s = false := by
  unfold stOk
  have : (List.range s.l.length).all (okAt s.c s.l) = false := by
    rw [List.all_eq_false]
    exact ⟨i, List.mem_range.2 hi, by simp [h]⟩
  rw [this]; simp
theorem stOk_good {s : St} (hc : ctxOk s.c = true) (hn : s.l.length ≤ 1000) (h : ∀ i, i < s.l.length → okAt s.c s.l i = true) : stOk s = true := by
  unfold stOk
  rw [hc]
  simp only [Bool.true_and, Bool.and_eq_true, decide_eq_true_eq]
  exact ⟨hn, List.all_eq_true.2 fun i hi => h i (List.mem_range.1 hi)⟩
theorem stOk_ctx {s : St} (h : ctxOk s.c = false) : stOk s = false := by unfold stOk; rw [h]; rfl
theorem stOk_len {s : St} (h : ¬ s.l.length ≤ 1000) : stOk s = false := by unfold stOk; simp [h]
theorem okAt_leaf {c : List Rn} {ls : List Lf} {i : Nat} (hi : i < ls.length) (h : okLeaf c ls[i] = false) : okAt c ls i = false := by
  unfold okAt; rw [List.getElem?_eq_getElem hi]; simp [h]
theorem okAt_is {c : List Rn} {ls : List Lf} {i : Nat} (hi : i < ls.length) (h : okAt c ls i = true) : okLeaf c ls[i] = true := by
  unfold okAt at h; rw [List.getElem?_eq_getElem hi] at h; simp only [Bool.and_eq_true] at h; exact h.1
theorem okAt_before {c : List Rn} {ls : List Lf} {i : Nat} (hi : i < ls.length) (h0 : 0 < i) (h : before ls[i - 1] ls[i] = false) : okAt c ls i = false := by
  unfold okAt; rw [List.getElem?_eq_getElem hi]
  simp only [if_neg (show ¬ i = 0 by omega), List.getElem?_eq_getElem (show i - 1 < ls.length by omega), h]
  simp
theorem okAt_again {c : List Rn} {ls : List Lf} {i k : Nat} (hi : i < ls.length) (hk : k < i) (h : sameDot (ls[k]'(by omega)) ls[i] = true) : okAt c ls i = false := by
  unfold okAt; rw [List.getElem?_eq_getElem hi]
  have : ((ls.take i).all fun k => !sameDot k ls[i]) = false := by
    rw [List.all_eq_false]
    exact ⟨ls[k]'(by omega), by rw [List.mem_take_iff_getElem]; exact ⟨k, by omega, rfl⟩, by simp [h]⟩
  simp only [this]
  simp
theorem okAt_good {c : List Rn} {ls : List Lf} {i : Nat} (hi : i < ls.length) (h1 : okLeaf c ls[i] = true) (h2 : (hp : 0 < i) → before (ls[i - 1]'(by omega)) ls[i] = true) (h3 : ∀ k (hk : k < i), sameDot (ls[k]'(by omega)) ls[i] = false) : okAt c ls i = true := by
  unfold okAt; rw [List.getElem?_eq_getElem hi]
  simp only [h1, Bool.true_and, Bool.and_eq_true, List.all_eq_true]
  refine ⟨?_, fun x hx => ?_⟩
  · by_cases h0 : i = 0
    · rw [if_pos h0]
    · rw [if_neg h0, List.getElem?_eq_getElem (show i - 1 < ls.length by omega)]
      exact h2 (by omega)
  · rw [List.mem_take_iff_getElem] at hx
    obtain ⟨k, hk, rfl⟩ := hx
    simp [h3 k (by omega)]
end Go.Ow
namespace Go.Ow
set_option linter.unusedSimpArgs false
set_option linter.unusedVariables false
def dots (l : List Lf) : List (Int × Int) := l.map fun x => (x.dr, x.ds)
theorem st_bad1 {s : St} {k : Nat} (hlt : k < s.l.length) (h : okLeaf s.c s.l[k] = false) : stOk s = false := stOk_bad hlt (okAt_leaf hlt h)
theorem st_bad2 {s : St} {k : Nat} (hlt : k + 1 < s.l.length) (h : before (s.l[k]'(by omega)) s.l[k + 1] = false) : stOk s = false :=
  stOk_bad hlt (okAt_before hlt (by omega) (by simpa using h))
theorem st_bad3 {s : St} {k : Nat} (hlt : k < s.l.length) (h : (s.l[k].dr, s.l[k].ds) ∈ dots (s.l.take k)) : stOk s = false := by
  unfold dots at h
  obtain ⟨y, hy, he⟩ := List.mem_map.1 h
  rw [List.mem_take_iff_getElem] at hy
  obtain ⟨j, hj, rfl⟩ := hy
  refine stOk_bad hlt (okAt_again (k := j) hlt (by omega) ?_)
  simp only [Prod.mk.injEq] at he
  simp [sameDot, he]
theorem st_good {s : St} {k : Nat} (hlt : k < s.l.length) (ha : ∀ j, j < k → okAt s.c s.l j = true) (h1 : okLeaf s.c s.l[k] = true) (h2 : (hp : 0 < k) → before (s.l[k - 1]'(by omega)) s.l[k] = true) (h3 : (s.l[k].dr, s.l[k].ds) ∉ dots (s.l.take k)) : ∀ j, j < k + 1 → okAt s.c s.l j = true := by
  intro j hj
  by_cases hjk : j < k
  · exact ha j hjk
  · obtain rfl : j = k := by omega
    refine okAt_good hlt h1 h2 fun i hi => ?_
    cases hs : sameDot (s.l[i]'(by omega)) s.l[j]
    · rfl
    · exfalso
      apply h3
      unfold dots
      refine List.mem_map.2 ⟨s.l[i]'(by omega), by rw [List.mem_take_iff_getElem]; exact ⟨i, by omega, rfl⟩, ?_⟩
      simp [sameDot] at hs
      simp [hs]
theorem dots_succ {l : List Lf} {k : Nat} (hlt : k < l.length) : dots (l.take (k + 1)) = dots (l.take k) ++ [(l[k].dr, l[k].ds)] := by
  unfold dots
  rw [List.take_succ_eq_append_getElem hlt, List.map_append]; rfl
theorem dots_not {l : List Lf} {k : Nat} {d : Int × Int} (hk : k ≤ l.length) (h : ∀ i, i < k → ∀ (hi : i < l.length), (l[i].dr, l[i].ds) ≠ d) : d ∉ dots (l.take k) := by
  unfold dots
  intro hm
  obtain ⟨y, hy, he⟩ := List.mem_map.1 hm
  rw [List.mem_take_iff_getElem] at hy
  obtain ⟨i, hi, rfl⟩ := hy
  exact h i (by omega) (by omega) he
theorem dots_in {l : List Lf} {k i : Nat} {d : Int × Int} (hk : k ≤ l.length) (hi : i < k) (h : ((l[i]'(by omega)).dr, (l[i]'(by omega)).ds) = d) : d ∈ dots (l.take k) := by
  unfold dots
  exact List.mem_map.2 ⟨l[i]'(by omega), by rw [List.mem_take_iff_getElem]; exact ⟨i, by omega, rfl⟩, h⟩
end Go.Ow

/- Texts in order, each once, in plain Lean. -/
namespace Go.Ow
set_option linter.unusedSimpArgs false
set_option linter.unusedVariables false
open Go.RowKit
theorem bl_lt : ∀ (x y : List UInt8), Op.bytesLess x y = decide (x < y)
  | [], [] => by simp [Op.bytesLess]
  | _ :: _, [] => by simp [Op.bytesLess]
  | [], _ :: _ => by simp [Op.bytesLess]
  | a :: x, b :: y => by
    rw [Op.bytesLess, bl_lt x y]
    simp only [List.cons_lt_cons_iff]
    by_cases h1 : a < b <;> by_cases h2 : a = b <;> by_cases h3 : x < y <;> simp [h1, h2, h3]
def Lt (a b : ByteArray) : Prop := a.toList < b.toList
theorem sLt_iff (a b : ByteArray) : sLt a b = true ↔ Lt a b := by unfold sLt Lt; rw [bl_lt]; simp
theorem toList_inj {a b : ByteArray} (h : a.toList = b.toList) : a = b := by
  rw [ByteArray.toList_eq, ByteArray.toList_eq] at h
  exact ByteArray.ext (Array.ext' h)
theorem lt_tri (a b : ByteArray) : Lt a b ∨ a = b ∨ Lt b a := by
  unfold Lt
  by_cases h1 : a.toList < b.toList
  · exact .inl h1
  · by_cases h2 : b.toList < a.toList
    · exact .inr (.inr h2)
    · exact .inr (.inl (toList_inj (List.le_antisymm (List.not_lt.1 h2) (List.not_lt.1 h1))))
theorem Lt.trans {a b c : ByteArray} (h : Lt a b) (h2 : Lt b c) : Lt a c := List.lt_trans h h2
theorem Lt.irr (a : ByteArray) : ¬ Lt a a := List.lt_irrefl _
def insO (x : ByteArray) : List ByteArray → List ByteArray
  | [] => [x]
  | y :: l => if sLt y x = true then y :: insO x l else if y = x then y :: l else x :: y :: l
theorem insO_ok (x : ByteArray) : ∀ l : List ByteArray, l.Pairwise Lt → (insO x l).Pairwise Lt ∧ ∀ z, z ∈ insO x l ↔ z = x ∨ z ∈ l
  | [], _ => by simp [insO]
  | y :: l, h => by
    obtain ⟨h1, h2⟩ := List.pairwise_cons.1 h
    obtain ⟨i1, i2⟩ := insO_ok x l h2
    rw [insO]
    by_cases c1 : sLt y x = true
    · rw [if_pos c1]
      rw [sLt_iff] at c1
      refine ⟨List.pairwise_cons.2 ⟨fun z hz => ?_, i1⟩, fun z => ?_⟩
      · rcases (i2 z).1 hz with rfl | hz
        · exact c1
        · exact h1 z hz
      · rw [List.mem_cons, i2, List.mem_cons]
        constructor
        · rintro (h | h | h)
          · exact .inr (.inl h)
          · exact .inl h
          · exact .inr (.inr h)
        · rintro (h | h | h)
          · exact .inr (.inl h)
          · exact .inl h
          · exact .inr (.inr h)
    · rw [if_neg c1]
      by_cases c2 : y = x
      · rw [if_pos c2]
        refine ⟨h, fun z => ?_⟩
        subst c2
        rw [List.mem_cons]
        exact ⟨.inr, fun h => h.elim .inl id⟩
      · rw [if_neg c2]
        have hxy : Lt x y := by
          rcases lt_tri x y with h | h | h
          · exact h
          · exact absurd h.symm c2
          · exact absurd ((sLt_iff y x).2 h) c1
        refine ⟨List.pairwise_cons.2 ⟨fun z hz => ?_, h⟩, fun z => by rw [List.mem_cons]⟩
        rcases List.mem_cons.1 hz with rfl | hz
        · exact hxy
        · exact hxy.trans (h1 z hz)
def onceF (out l : List ByteArray) : List ByteArray := l.foldl (fun o x => insO x o) out
theorem onceF_ok : ∀ (l out : List ByteArray), out.Pairwise Lt → (onceF out l).Pairwise Lt ∧ ∀ z, z ∈ onceF out l ↔ z ∈ out ∨ z ∈ l
  | [], out, h => by simp [onceF, h]
  | x :: l, out, h => by
    obtain ⟨i1, i2⟩ := insO_ok x out h
    obtain ⟨j1, j2⟩ := onceF_ok l (insO x out) i1
    refine ⟨j1, fun z => ?_⟩
    show z ∈ onceF (insO x out) l ↔ _
    rw [j2, i2, List.mem_cons]
    constructor
    · rintro ((h | h) | h)
      · exact .inr (.inl h)
      · exact .inl h
      · exact .inr (.inr h)
    · rintro (h | h | h)
      · exact .inl (.inr h)
      · exact .inl (.inl h)
      · exact .inr h
theorem strict_unique : ∀ (a b : List ByteArray), a.Pairwise Lt → b.Pairwise Lt → (∀ z, z ∈ a ↔ z ∈ b) → a = b
  | [], [], _, _, _ => rfl
  | [], y :: b, _, _, h => by have := (h y).2 (by simp); cases this
  | x :: a, [], _, _, h => by have := (h x).1 (by simp); cases this
  | x :: a, y :: b, ha, hb, h => by
    obtain ⟨a1, a2⟩ := List.pairwise_cons.1 ha
    obtain ⟨b1, b2⟩ := List.pairwise_cons.1 hb
    have e : x = y := by
      rcases List.mem_cons.1 ((h x).1 (by simp)) with e | e
      · exact e
      · rcases List.mem_cons.1 ((h y).2 (by simp)) with e2 | e2
        · exact e2.symm
        · exact absurd ((b1 x e).trans (a1 y e2)) (Lt.irr y)
    subst e
    congr 1
    refine strict_unique a b a2 b2 fun z => ⟨fun hz => ?_, fun hz => ?_⟩
    · rcases List.mem_cons.1 ((h z).1 (List.mem_cons_of_mem _ hz)) with rfl | h'
      · exact absurd (a1 _ hz) (Lt.irr _)
      · exact h'
    · rcases List.mem_cons.1 ((h z).2 (List.mem_cons_of_mem _ hz)) with rfl | h'
      · exact absurd (b1 _ hz) (Lt.irr _)
      · exact h'
/-! The library's: sorted, then what equals its neighbour taken out. -/
theorem compactUpTo_ok (d : Array (List UInt8)) (hd : ∀ i j, i < j → j < d.size → d[i]! ≤ d[j]!) : ∀ m, m ≤ d.size → (Lib.compactUpTo d m).Pairwise (· < ·) ∧ (∀ z ∈ Lib.compactUpTo d m, 0 < m ∧ z ≤ d[m - 1]!) ∧ ∀ z, z ∈ Lib.compactUpTo d m ↔ ∃ j, j < m ∧ d[j]! = z
  | 0, _ => by simp [Lib.compactUpTo]
  | m + 1, hm => by
    obtain ⟨p1, p2, p3⟩ := compactUpTo_ok d hd m (by omega)
    rw [Lib.compactUpTo_succ]
    have up : ∀ z ∈ Lib.compactUpTo d m, z ≤ d[m]! := fun z hz => by
      obtain ⟨h0, h1⟩ := p2 z hz
      exact List.le_trans h1 (hd (m - 1) m (by omega) (by omega))
    by_cases hk : Lib.keeps d m = true
    · rw [if_pos hk]
      refine ⟨List.pairwise_append.2 ⟨p1, by simp, fun z hz y hy => ?_⟩, fun z hz => ⟨by omega, ?_⟩, fun z => ?_⟩
      · rw [List.mem_singleton] at hy; subst hy
        obtain ⟨h0, h1⟩ := p2 z hz
        have hne : d[m]! ≠ d[m - 1]! := by
          unfold Lib.keeps at hk
          simp at hk
          rcases hk with h | h
          · omega
          · exact h
        have h2 := hd (m - 1) m (by omega) (by omega)
        by_cases hlt : z < d[m]!
        · exact hlt
        · exfalso
          have h3 : d[m]! ≤ z := List.not_lt.1 hlt
          exact hne (List.le_antisymm (List.le_trans h3 h1) h2)
      · rcases List.mem_append.1 hz with hz | hz
        · exact up z hz
        · rw [List.mem_singleton] at hz; subst hz; exact List.le_refl _
      · rw [List.mem_append, List.mem_singleton, p3]
        constructor
        · rintro (⟨j, hj, h⟩ | h)
          · exact ⟨j, by omega, h⟩
          · exact ⟨m, by omega, h.symm⟩
        · rintro ⟨j, hj, h⟩
          by_cases hjm : j = m
          · subst hjm; exact .inr h.symm
          · exact .inl ⟨j, by omega, h⟩
    · rw [if_neg hk, List.append_nil]
      have hk2 : 0 < m ∧ d[m]! = d[m - 1]! := by
        unfold Lib.keeps at hk
        simp at hk
        exact ⟨by omega, hk.2⟩
      refine ⟨p1, fun z hz => ⟨by omega, up z hz⟩, fun z => ?_⟩
      rw [p3]
      constructor
      · rintro ⟨j, hj, h⟩; exact ⟨j, by omega, h⟩
      · rintro ⟨j, hj, h⟩
        by_cases hjm : j = m
        · subst hjm; exact ⟨j - 1, by omega, by rw [← hk2.2]; exact h⟩
        · exact ⟨j, by omega, h⟩
def toB (l : List UInt8) : ByteArray := ⟨l.toArray⟩
theorem toList_toB (l : List UInt8) : (toB l).toList = l := by rw [ByteArray.toList_eq]; rfl
theorem toB_toList (a : ByteArray) : toB a.toList = a := toList_inj (toList_toB _)
theorem lib_once (vals : List ByteArray) : (Lib.compact ((vals.map ByteArray.toList).mergeSort fun x y => decide (x ≤ y))).map toB = onceF [] vals := by
  have hs := List.pairwise_mergeSort (le := fun x y : List UInt8 => decide (x ≤ y)) (fun a b c h1 h2 => by simp at *; exact List.le_trans h1 h2) (fun a b => by simp; exact List.le_total a b) (vals.map ByteArray.toList)
  have hp := List.mergeSort_perm (vals.map ByteArray.toList) (fun x y : List UInt8 => decide (x ≤ y))
  obtain ⟨zs, hz⟩ : ∃ zs, (vals.map ByteArray.toList).mergeSort (fun x y => decide (x ≤ y)) = zs := ⟨_, rfl⟩
  rw [hz] at hs hp ⊢
  have hd : ∀ i j, i < j → j < zs.toArray.size → zs.toArray[i]! ≤ zs.toArray[j]! := fun i j hij hj => by
    have hj' : j < zs.length := by simpa using hj
    have := List.pairwise_iff_getElem.1 hs i j (by omega) hj' hij
    rw [getElem!_pos _ i (by simp; omega), getElem!_pos _ j (by simpa using hj)]
    simpa using this
  obtain ⟨c1, _, c3⟩ := compactUpTo_ok zs.toArray hd zs.length (by simp)
  obtain ⟨o1, o2⟩ := onceF_ok vals [] List.Pairwise.nil
  refine strict_unique _ _ ?_ o1 fun z => ?_
  · unfold Lib.compact
    rw [List.pairwise_map]
    exact c1.imp fun {a b} h => by unfold Lt; rw [toList_toB, toList_toB]; exact h
  · rw [o2]
    unfold Lib.compact
    rw [List.mem_map]
    constructor
    · rintro ⟨l, hl, rfl⟩
      obtain ⟨j, hj, rfl⟩ := (c3 l).1 hl
      right
      rw [getElem!_pos _ j (by simpa using hj)]
      have hm : zs.toArray[j]'(by simpa using hj) ∈ zs := by simp
      obtain ⟨v, hv, he⟩ := List.mem_map.1 (hp.mem_iff.1 hm)
      rw [← he, toB_toList]; exact hv
    · rintro (h | h)
      · cases h
      · refine ⟨z.toList, (c3 _).2 ?_, toB_toList z⟩
        have hm : z.toList ∈ zs := hp.mem_iff.2 (List.mem_map.2 ⟨z, h, rfl⟩)
        obtain ⟨j, hj, he⟩ := List.getElem_of_mem hm
        exact ⟨j, hj, by rw [getElem!_pos _ j (by simpa using hj)]; simpa using he⟩
end Go.Ow

/- The union of contexts in plain Lean: lists of runs that stand apart are known by their dots. -/
namespace Go.Ow
set_option linter.unusedSimpArgs false
set_option linter.unusedVariables false
open Go.RowKit
/-- One run wholly in front of another, with a gap. -/
def Ap (u v : Rn) : Prop := u.r < v.r ∨ (u.r = v.r ∧ u.t + 1 < v.f)
def Vd (u : Rn) : Prop := (0 ≤ u.r ∧ u.r < 8) ∧ 1 ≤ u.f ∧ u.f ≤ u.t ∧ u.t ≤ 1000000000
def Nf (xs : List Rn) : Prop := xs.Pairwise Ap ∧ ∀ u ∈ xs, Vd u
def Hs (u : Rn) (r q : Int) : Prop := u.r = r ∧ u.f ≤ q ∧ q ≤ u.t
def In (xs : List Rn) (r q : Int) : Prop := ∃ u ∈ xs, Hs u r q
theorem in_nil (r q : Int) : ¬ In [] r q := by rintro ⟨u, hu, _⟩; cases hu
theorem in_cons (u : Rn) (xs : List Rn) (r q : Int) : In (u :: xs) r q ↔ Hs u r q ∨ In xs r q := by
  constructor
  · rintro ⟨v, hv, h⟩
    rcases List.mem_cons.1 hv with rfl | hv
    · exact .inl h
    · exact .inr ⟨v, hv, h⟩
  · rintro (h | ⟨v, hv, h⟩)
    · exact ⟨u, by simp, h⟩
    · exact ⟨v, by simp [hv], h⟩
theorem in_app (xs ys : List Rn) (r q : Int) : In (xs ++ ys) r q ↔ In xs r q ∨ In ys r q := by
  constructor
  · rintro ⟨v, hv, h⟩
    rcases List.mem_append.1 hv with hv | hv
    · exact .inl ⟨v, hv, h⟩
    · exact .inr ⟨v, hv, h⟩
  · rintro (⟨v, hv, h⟩ | ⟨v, hv, h⟩)
    · exact ⟨v, by simp [hv], h⟩
    · exact ⟨v, by simp [hv], h⟩
theorem hasB_in (xs : List Rn) (r q : Int) : hasB xs r q = true ↔ In xs r q := by
  unfold hasB In Hs
  rw [List.any_eq_true]
  constructor
  · rintro ⟨u, hu, h⟩; simp at h; exact ⟨u, hu, h⟩
  · rintro ⟨u, hu, h⟩; exact ⟨u, hu, by simpa using h⟩
theorem nf_cons {u : Rn} {xs : List Rn} : Nf (u :: xs) ↔ Vd u ∧ (∀ v ∈ xs, Ap u v) ∧ Nf xs := by
  unfold Nf
  rw [List.pairwise_cons]
  constructor
  · rintro ⟨⟨h1, h2⟩, h3⟩; exact ⟨h3 u (by simp), h1, h2, fun v hv => h3 v (by simp [hv])⟩
  · rintro ⟨h1, h2, h3, h4⟩; exact ⟨⟨h2, h3⟩, fun v hv => by
      rcases List.mem_cons.1 hv with rfl | hv
      · exact h1
      · exact h4 v hv⟩
theorem nf_unique : ∀ (xs ys : List Rn), Nf xs → Nf ys → (∀ r q, In xs r q ↔ In ys r q) → xs = ys
  | [], [], _, _, _ => rfl
  | [], y :: ys, _, hy, h => by
    have h1 := (nf_cons.1 hy).1
    exact absurd ((h y.r y.f).2 ((in_cons _ _ _ _).2 (.inl ⟨rfl, by omega, h1.2.2.1⟩))) (in_nil _ _)
  | x :: xs, [], hx, _, h => by
    have h1 := (nf_cons.1 hx).1
    exact absurd ((h x.r x.f).1 ((in_cons _ _ _ _).2 (.inl ⟨rfl, by omega, h1.2.2.1⟩))) (in_nil _ _)
  | x :: xs, y :: ys, hx, hy, h => by
    obtain ⟨⟨vx1, vx2, vx3, vx4⟩, ax, nx⟩ := nf_cons.1 hx
    obtain ⟨⟨vy1, vy2, vy3, vy4⟩, ay, ny⟩ := nf_cons.1 hy
    -- a dot of the tail lies behind the head
    have tail : ∀ (u : Rn) (l : List Rn), (∀ v ∈ l, Ap u v) → ∀ r q, In l r q → u.r < r ∨ (u.r = r ∧ u.t + 1 < q) := by
      rintro u l ha r q ⟨v, hv, hr, hf, ht⟩
      rcases ha v hv with h | h
      · exact .inl (by omega)
      · exact .inr ⟨by omega, by omega⟩
    have e1 : x.r = y.r ∧ x.f = y.f := by
      have p1 := (in_cons _ _ _ _).1 ((h x.r x.f).1 ((in_cons _ _ _ _).2 (.inl ⟨rfl, by omega, vx3⟩)))
      have p2 := (in_cons _ _ _ _).1 ((h y.r y.f).2 ((in_cons _ _ _ _).2 (.inl ⟨rfl, by omega, vy3⟩)))
      have q1 : (y.r = x.r ∧ y.f ≤ x.f) ∨ y.r < x.r ∨ (y.r = x.r ∧ y.t + 1 < x.f) := by
        rcases p1 with p | p
        · exact .inl ⟨p.1, p.2.1⟩
        · exact .inr (tail y ys ay _ _ p)
      have q2 : (x.r = y.r ∧ x.f ≤ y.f) ∨ x.r < y.r ∨ (x.r = y.r ∧ x.t + 1 < y.f) := by
        rcases p2 with p | p
        · exact .inl ⟨p.1, p.2.1⟩
        · exact .inr (tail x xs ax _ _ p)
      omega
    have e2 : x.t = y.t := by
      rcases Int.lt_trichotomy x.t y.t with hlt | he | hlt
      · have p := (in_cons _ _ _ _).1 ((h x.r (x.t + 1)).2 ((in_cons _ _ _ _).2 (.inl ⟨e1.1.symm, by omega, by omega⟩)))
        rcases p with p | p
        · have := p.2.2; omega
        · have := tail x xs ax _ _ p; omega
      · exact he
      · have p := (in_cons _ _ _ _).1 ((h y.r (y.t + 1)).1 ((in_cons _ _ _ _).2 (.inl ⟨e1.1, by omega, by omega⟩)))
        rcases p with p | p
        · have := p.2.2; omega
        · have := tail y ys ay _ _ p; omega
    obtain rfl : x = y := by
      cases x; cases y; simp only at e1 e2; obtain ⟨rfl, rfl⟩ := e1; subst e2; rfl
    congr 1
    refine nf_unique xs ys nx ny fun r q => ⟨fun hi => ?_, fun hi => ?_⟩
    · rcases (in_cons _ _ _ _).1 ((h r q).1 ((in_cons _ _ _ _).2 (.inr hi))) with p | p
      · have := tail x xs ax _ _ hi; have := p.1; have := p.2.2; omega
      · exact p
    · rcases (in_cons _ _ _ _).1 ((h r q).2 ((in_cons _ _ _ _).2 (.inr hi))) with p | p
      · have := tail x ys ay _ _ hi; have := p.1; have := p.2.2; omega
      · exact p
theorem nf_okPre : ∀ (xs : List Rn) (p : Option Rn), okPre p xs = true → Nf xs ∧ ∀ q, p = some q → Vd q → ∀ v ∈ xs, Ap q v
  | [], _, _ => ⟨⟨List.Pairwise.nil, by simp⟩, by simp⟩
  | x :: xs, p, h => by
    have hb := okPre_bound (x :: xs) p h x (by simp)
    have hv : Vd x := ⟨⟨hb.1, hb.2.1⟩, hb.2.2.1, hb.2.2.2.1, hb.2.2.2.2⟩
    have h' : okPre (some x) xs = true := by simp only [okPre, Bool.and_eq_true] at h; exact h.2
    obtain ⟨n, a⟩ := nf_okPre xs (some x) h'
    refine ⟨nf_cons.2 ⟨hv, a x rfl hv, n⟩, ?_⟩
    rintro q rfl hq v hv'
    have := okPre_up (x :: xs) q h hq.2.2.2 (by have := hq.2.1; have := hq.2.2.1; omega) v hv'
    rcases Int.lt_trichotomy q.r v.r with hl | hl | hl
    · exact .inl hl
    · exact .inr ⟨hl, this.2 hl⟩
    · omega
theorem okPre_nf : ∀ (xs : List Rn) (p : Option Rn), Nf xs → (∀ q, p = some q → Vd q ∧ ∀ v ∈ xs, Ap q v) → okPre p xs = true
  | [], p, _, _ => by cases p <;> rfl
  | x :: xs, p, h, hp => by
    obtain ⟨⟨v1, v2, v3, v4⟩, ax, nx⟩ := nf_cons.1 h
    have ih := okPre_nf xs (some x) nx (by rintro q e; cases e; exact ⟨⟨v1, v2, v3, v4⟩, ax⟩)
    have hr : runOk x = true := by simp [runOk]; omega
    cases p with
    | none => simp only [okPre, ih, hr]; rfl
    | some q =>
      obtain ⟨hq, ha⟩ := hp q rfl
      have hw : wrap64 (q.t + 1) = q.t + 1 := by have := hq.2.2.2; have := hq.2.1; have := hq.2.2.1; unfold wrap64; omega
      have : apart q x = true := by
        have := ha x (by simp)
        unfold Ap at this
        simp [apart, hw]; omega
      simp only [okPre, ih, hr, this]; rfl
theorem ctxOk_nf (xs : List Rn) : ctxOk xs = true ↔ Nf xs ∧ xs.length ≤ 1000 := by
  unfold ctxOk
  simp only [Bool.and_eq_true, decide_eq_true_eq]
  exact ⟨fun ⟨a, b⟩ => ⟨(nf_okPre xs none a).1, b⟩, fun ⟨a, b⟩ => ⟨okPre_nf xs none a (fun q e => by cases e), b⟩⟩
/-! The reference: run by run. -/
def mrg (r x : Rn) : Rn := ⟨r.r, (if x.f < r.f then x.f else r.f), (if r.t < x.t then x.t else r.t)⟩
def ins (bs : List Rn) (r : Rn) (cs : List Rn) : List Rn → List Rn
  | [] => bs ++ r :: cs
  | x :: l => if apart x r = true then ins (bs ++ [x]) r cs l else if apart r x = true then ins bs r (cs ++ [x]) l else ins bs (mrg r x) cs l
theorem apart_Ap {u v : Rn} (hu : Vd u) : apart u v = true ↔ Ap u v := by
  have hw : wrap64 (u.t + 1) = u.t + 1 := by have := hu.2.2.2; have := hu.2.1; have := hu.2.2.1; unfold wrap64; omega
  unfold Ap
  simp [apart, hw]
theorem ap_trans {u v w : Rn} (hv : Vd v) (h1 : Ap u v) (h2 : Ap v w) : Ap u w := by
  have := hv.2.2.1
  unfold Ap at *; omega
theorem nf_app {xs ys : List Rn} : Nf (xs ++ ys) ↔ Nf xs ∧ Nf ys ∧ ∀ u ∈ xs, ∀ v ∈ ys, Ap u v := by
  unfold Nf
  rw [List.pairwise_append]
  constructor
  · rintro ⟨⟨a, b, c⟩, d⟩; exact ⟨⟨a, fun u hu => d u (by simp [hu])⟩, ⟨b, fun u hu => d u (by simp [hu])⟩, c⟩
  · rintro ⟨⟨a, a'⟩, ⟨b, b'⟩, c⟩; exact ⟨⟨a, b, c⟩, fun u hu => by
      rcases List.mem_append.1 hu with h | h
      · exact a' u h
      · exact b' u h⟩
theorem ins_nf : ∀ (l bs : List Rn) (r : Rn) (cs : List Rn), Vd r → Nf (bs ++ (cs ++ l)) → (∀ u ∈ bs, Ap u r) → (∀ v ∈ cs, Ap r v) → Nf (ins bs r cs l) ∧ ∀ i q, In (ins bs r cs l) i q ↔ (In bs i q ∨ Hs r i q ∨ In cs i q ∨ In l i q)
  | [], bs, r, cs, hr, hn, hb, ha => by
    rw [List.append_nil] at hn
    obtain ⟨n1, n2, n3⟩ := nf_app.1 hn
    refine ⟨nf_app.2 ⟨n1, nf_cons.2 ⟨hr, ha, n2⟩, fun u hu v hv => ?_⟩, fun i q => ?_⟩
    · rcases List.mem_cons.1 hv with rfl | hv
      · exact hb u hu
      · exact n3 u hu v hv
    · rw [ins, in_app, in_cons]
      have := in_nil i q
      constructor
      · rintro (h | h | h)
        · exact .inl h
        · exact .inr (.inl h)
        · exact .inr (.inr (.inl h))
      · rintro (h | h | h | h)
        · exact .inl h
        · exact .inr (.inl h)
        · exact .inr (.inr h)
        · exact absurd h this
  | x :: l, bs, r, cs, hr, hn, hb, ha => by
    obtain ⟨n1, n2, n3⟩ := nf_app.1 hn
    obtain ⟨m1, m2, m3⟩ := nf_app.1 n2
    obtain ⟨vx, ax, nl⟩ := nf_cons.1 m2
    have has : cs ≠ [] → Ap r x := by
      intro h
      obtain ⟨v, hv⟩ := List.exists_mem_of_ne_nil cs h
      exact ap_trans (m1.2 v hv) (ha v hv) (m3 v hv x (by simp))
    rw [ins]
    by_cases h1 : apart x r = true
    · rw [if_pos h1]
      rw [apart_Ap vx] at h1
      have e : cs = [] := by
        rcases cs with _ | ⟨v, cs⟩
        · rfl
        · exfalso
          have := has (by simp)
          have h2 := vx.2.2.1
          have h3 := hr.2.2.1
          unfold Ap at *; omega
      subst e
      have ih := ins_nf l (bs ++ [x]) r [] hr (by simpa using hn) (fun u hu => by
        rcases List.mem_append.1 hu with h | h
        · exact hb u h
        · rw [List.mem_singleton] at h; subst h; exact h1) (by simp)
      refine ⟨ih.1, fun i q => ?_⟩
      rw [ih.2, in_app, in_cons, in_cons]
      have := in_nil i q
      constructor
      · rintro ((h | h | h) | h | h | h)
        · exact .inl h
        · exact .inr (.inr (.inr (.inl h)))
        · exact absurd h this
        · exact .inr (.inl h)
        · exact absurd h this
        · exact .inr (.inr (.inr (.inr h)))
      · rintro (h | h | h | h | h)
        · exact .inl (.inl h)
        · exact .inr (.inl h)
        · exact absurd h this
        · exact .inl (.inr (.inl h))
        · exact .inr (.inr (.inr h))
    · rw [if_neg h1]
      by_cases h2 : apart r x = true
      · rw [if_pos h2]
        rw [apart_Ap hr] at h2
        have ih := ins_nf l bs r (cs ++ [x]) hr (by simpa using hn) hb (fun u hu => by
          rcases List.mem_append.1 hu with h | h
          · exact ha u h
          · rw [List.mem_singleton] at h; subst h; exact h2)
        refine ⟨ih.1, fun i q => ?_⟩
        rw [ih.2, in_app, in_cons, in_cons]
        have := in_nil i q
        constructor
        · rintro (h | h | (h | h | h) | h)
          · exact .inl h
          · exact .inr (.inl h)
          · exact .inr (.inr (.inl h))
          · exact .inr (.inr (.inr (.inl h)))
          · exact absurd h this
          · exact .inr (.inr (.inr (.inr h)))
        · rintro (h | h | h | h | h)
          · exact .inl h
          · exact .inr (.inl h)
          · exact .inr (.inr (.inl (.inl h)))
          · exact .inr (.inr (.inl (.inr (.inl h))))
          · exact .inr (.inr (.inr h))
      · rw [if_neg h2]
        rw [apart_Ap vx] at h1
        rw [apart_Ap hr] at h2
        have e : cs = [] := by
          rcases cs with _ | ⟨v, cs⟩
          · rfl
          · exact absurd (has (by simp)) h2
        subst e
        obtain ⟨r1, r2, r3, r4⟩ := hr
        obtain ⟨x1, x2, x3, x4⟩ := id vx
        have er : x.r = r.r := by unfold Ap at h1 h2; omega
        have vm : Vd (mrg r x) := by
          refine ⟨r1, ?_, ?_, ?_⟩
          · show 1 ≤ (if x.f < r.f then x.f else r.f); split <;> omega
          · show (if x.f < r.f then x.f else r.f) ≤ (if r.t < x.t then x.t else r.t); split <;> split <;> omega
          · show (if r.t < x.t then x.t else r.t) ≤ _; split <;> omega
        have hn2 : Nf (bs ++ ([] ++ l)) := nf_app.2 ⟨n1, nl, fun u hu v hv => n3 u hu v (by simp only [List.nil_append] at hv ⊢; exact List.mem_cons_of_mem _ hv)⟩
        have ih := ins_nf l bs (mrg r x) [] vm hn2 (fun u hu => by
          have a1 := hb u hu
          have a2 := n3 u hu x (by simp)
          show u.r < r.r ∨ (u.r = r.r ∧ u.t + 1 < (if x.f < r.f then x.f else r.f))
          unfold Ap at a1 a2
          split <;> omega) (by simp)
        refine ⟨ih.1, fun i q => ?_⟩
        rw [ih.2, in_cons]
        have hm : Hs (mrg r x) i q ↔ Hs r i q ∨ Hs x i q := by
          unfold Ap at h1 h2
          unfold Hs mrg
          simp only
          constructor
          · rintro ⟨rfl, a, b⟩
            split at a <;> split at b <;> omega
          · rintro (⟨rfl, a, b⟩ | ⟨rfl, a, b⟩)
            · refine ⟨rfl, ?_, ?_⟩ <;> split <;> omega
            · refine ⟨er.symm, ?_, ?_⟩ <;> split <;> omega
        have := in_nil i q
        rw [hm]
        constructor
        · rintro (h | (h | h) | h | h)
          · exact .inl h
          · exact .inr (.inl h)
          · exact .inr (.inr (.inr (.inl h)))
          · exact absurd h this
          · exact .inr (.inr (.inr (.inr h)))
        · rintro (h | h | h | h | h)
          · exact .inl h
          · exact .inr (.inl (.inl h))
          · exact absurd h this
          · exact .inr (.inl (.inr h))
          · exact .inr (.inr (.inr h))
def uni (xs : List Rn) : List Rn → List Rn
  | [] => xs
  | y :: ys => uni (ins [] y [] xs) ys
theorem uni_nf : ∀ (ys xs : List Rn), Nf xs → (∀ y ∈ ys, Vd y) → Nf (uni xs ys) ∧ ∀ i q, In (uni xs ys) i q ↔ In xs i q ∨ In ys i q
  | [], xs, h, _ => ⟨h, fun i q => by have := in_nil i q; simp only [uni]; exact ⟨fun h => .inl h, fun h => h.elim id (fun h => absurd h this)⟩⟩
  | y :: ys, xs, h, hy => by
    have h1 := ins_nf xs [] y [] (hy y (by simp)) (by simpa using h) (by simp) (by simp)
    have h2 := uni_nf ys (ins [] y [] xs) h1.1 (fun u hu => hy u (by simp [hu]))
    refine ⟨h2.1, fun i q => ?_⟩
    rw [uni, h2.2, h1.2, in_cons]
    have := in_nil i q
    constructor
    · rintro ((h | h | h | h) | h)
      · exact absurd h this
      · exact .inr (.inl h)
      · exact absurd h this
      · exact .inl h
      · exact .inr (.inr h)
    · rintro (h | h | h)
      · exact .inl (.inr (.inr (.inr h)))
      · exact .inl (.inr (.inl h))
      · exact .inr h
theorem ins_len : ∀ (l bs : List Rn) (r : Rn) (cs : List Rn), (ins bs r cs l).length ≤ bs.length + cs.length + l.length + 1
  | [], bs, r, cs => by simp [ins]; omega
  | x :: l, bs, r, cs => by
    rw [ins]
    split
    · have := ins_len l (bs ++ [x]) r cs; simp at this ⊢; omega
    · split
      · have := ins_len l bs r (cs ++ [x]); simp at this ⊢; omega
      · have := ins_len l bs (mrg r x) cs; simp at this ⊢; omega
theorem uni_len : ∀ (ys xs : List Rn), (uni xs ys).length ≤ xs.length + ys.length
  | [], xs => by simp [uni]
  | y :: ys, xs => by
    have := uni_len ys (ins [] y [] xs)
    have h2 := ins_len xs [] y []
    simp only [uni, List.length_cons, List.length_nil] at *; omega
end Go.Ow

/- The order of leaves, rows in order, and what a join keeps, in plain Lean. -/
namespace Go.Ow
set_option linter.unusedSimpArgs false
set_option linter.unusedVariables false
open Go.RowKit
theorem sGt_iff (a b : ByteArray) : sGt a b = true ↔ Lt b a := by
  unfold sGt
  have h1 : Op.bytesLess a.toList b.toList = sLt a b := rfl
  rw [h1, str_eq]
  rcases lt_tri a b with h | h | h
  · have : sLt a b = true := (sLt_iff a b).2 h
    rw [this]; simp
    exact fun h2 => Lt.irr a (h.trans h2)
  · subst h; simp; exact Lt.irr a
  · have h2 : sLt a b = false := by
      cases hs : sLt a b
      · rfl
      · exact absurd (((sLt_iff a b).1 hs).trans h) (Lt.irr a)
    have h3 : a ≠ b := fun e => Lt.irr a (by rw [e] at h ⊢; exact h)
    rw [h2]; simp [h3, h]
theorem cmpP_lt {a b : ByteArray} (h : Lt a b) (x y : List ByteArray) : cmpP (a :: x) (b :: y) = -1 := by rw [cmpP, if_pos ((sLt_iff a b).2 h)]
theorem cmpP_gt {a b : ByteArray} (h : Lt b a) (x y : List ByteArray) : cmpP (a :: x) (b :: y) = 1 := by
  have h2 : ¬ sLt a b = true := fun h3 => Lt.irr a (((sLt_iff a b).1 h3).trans h)
  rw [cmpP, if_neg h2, if_pos ((sGt_iff a b).2 h)]
theorem cmpP_same (a : ByteArray) (x y : List ByteArray) : cmpP (a :: x) (a :: y) = cmpP x y := by
  have h2 : ¬ sLt a a = true := fun h3 => Lt.irr a ((sLt_iff a a).1 h3)
  have h3 : ¬ sGt a a = true := fun h3 => Lt.irr a ((sGt_iff a a).1 h3)
  rw [cmpP, if_neg h2, if_neg h3]
theorem cmpP_swap : ∀ x y : List ByteArray, cmpP y x = - cmpP x y
  | [], [] => rfl
  | [], _ :: _ => rfl
  | _ :: _, [] => rfl
  | a :: x, b :: y => by
    rcases lt_tri a b with h | h | h
    · rw [cmpP_lt h, cmpP_gt h]; rfl
    · subst h; rw [cmpP_same, cmpP_same, cmpP_swap x y]
    · rw [cmpP_gt h, cmpP_lt h]
theorem cmpP_trans : ∀ x y z : List ByteArray, cmpP x y < 0 → cmpP y z < 0 → cmpP x z < 0
  | [], [], _, h, _ => by simp [cmpP] at h
  | _, [], [], _, h => by simp [cmpP] at h
  | [], _ :: _, [], _, h => by simp [cmpP] at h
  | [], _ :: _, _ :: _, _, _ => by simp [cmpP]
  | _ :: _, [], _ :: _, h, _ => by simp [cmpP] at h
  | _ :: _, _ :: _, [], _, h => by simp [cmpP] at h
  | a :: x, b :: y, c :: z, h1, h2 => by
    rcases lt_tri a b with hab | hab | hab
    · rcases lt_tri b c with hbc | hbc | hbc
      · rw [cmpP_lt (hab.trans hbc)]; decide
      · subst hbc; rw [cmpP_lt hab]; decide
      · rw [cmpP_gt hbc] at h2; exact absurd h2 (by decide)
    · subst hab
      rcases lt_tri a c with hbc | hbc | hbc
      · rw [cmpP_lt hbc]; decide
      · subst hbc; rw [cmpP_same] at *; exact cmpP_trans x y z h1 h2
      · rw [cmpP_gt hbc] at h2; exact absurd h2 (by decide)
    · rw [cmpP_gt hab] at h1; exact absurd h1 (by decide)
/-- The order as a proposition. -/
theorem before_iff (a b : Lf) : before a b = true ↔ cmpP a.p b.p < 0 ∨ (a.p = b.p ∧ ((a.fl = false ∧ b.fl = true) ∨ (a.fl = b.fl ∧ (a.dr < b.dr ∨ (a.dr = b.dr ∧ a.ds < b.ds))))) := by
  unfold before
  by_cases h0 : cmpP a.p b.p = 0
  · have e := (cmpP_eq _ _).1 h0
    rw [if_pos h0]
    by_cases h1 : a.fl = b.fl
    · rw [if_pos h1]
      by_cases h2 : a.dr = b.dr
      · rw [if_pos h2]; simp only [decide_eq_true_eq]
        constructor
        · intro h; exact .inr ⟨e, .inr ⟨h1, .inr ⟨h2, h⟩⟩⟩
        · rintro (h | ⟨_, ⟨h3, h4⟩ | ⟨_, h5 | ⟨_, h5⟩⟩⟩)
          · omega
          · rw [h3, h4] at h1; cases h1
          · omega
          · exact h5
      · rw [if_neg h2]; simp only [decide_eq_true_eq]
        constructor
        · intro h; exact .inr ⟨e, .inr ⟨h1, .inl h⟩⟩
        · rintro (h | ⟨_, ⟨h3, h4⟩ | ⟨_, h5 | ⟨h6, h5⟩⟩⟩)
          · omega
          · rw [h3, h4] at h1; cases h1
          · exact h5
          · exact absurd h6 h2
    · rw [if_neg h1]
      constructor
      · intro h; refine .inr ⟨e, .inl ⟨?_, h⟩⟩
        cases ha : a.fl
        · rfl
        · exact absurd (ha.trans h.symm) h1
      · rintro (h | ⟨_, ⟨h3, h4⟩ | ⟨h5, _⟩⟩)
        · omega
        · exact h4
        · exact absurd h5 h1
  · rw [if_neg h0]; simp only [decide_eq_true_eq]
    constructor
    · exact .inl
    · rintro (h | ⟨h, _⟩)
      · exact h
      · exact absurd ((cmpP_eq _ _).2 h) h0
theorem before_trans {a b c : Lf} (h1 : before a b = true) (h2 : before b c = true) : before a c = true := by
  rw [before_iff] at *
  rcases h1 with h1 | ⟨e1, h1⟩
  · rcases h2 with h2 | ⟨e2, _⟩
    · exact .inl (cmpP_trans _ _ _ h1 h2)
    · exact .inl (e2 ▸ h1)
  · rcases h2 with h2 | ⟨e2, h2⟩
    · exact .inl (e1 ▸ h2)
    · refine .inr ⟨e1.trans e2, ?_⟩
      rcases h1 with ⟨h3, h4⟩ | ⟨h3, h4⟩
      · rcases h2 with ⟨h5, h6⟩ | ⟨h5, h6⟩
        · exact .inl ⟨h3, h6⟩
        · exact .inl ⟨h3, h5 ▸ h4⟩
      · rcases h2 with ⟨h5, h6⟩ | ⟨h5, h6⟩
        · exact .inl ⟨h3.trans h5, h6⟩
        · exact .inr ⟨h3.trans h5, by omega⟩
theorem before_irr (a : Lf) : before a a = false := by
  cases h : before a a
  · rfl
  · rw [before_iff] at h
    rcases h with h | ⟨_, ⟨h1, h2⟩ | ⟨_, h | ⟨_, h⟩⟩⟩
    · rw [(cmpP_eq _ _).2 rfl] at h; exact absurd h (by decide)
    · rw [h1] at h2; cases h2
    · omega
    · omega
theorem before_asym {a b : Lf} (h1 : before a b = true) : before b a = false := by
  cases h : before b a
  · rfl
  · have := before_trans h1 h; rw [before_irr] at this; cases this
theorem before_tri (a b : Lf) : before a b = true ∨ before b a = true ∨ (a.p = b.p ∧ a.fl = b.fl ∧ a.dr = b.dr ∧ a.ds = b.ds) := by
  rw [before_iff, before_iff]
  rcases cmpP_range a.p b.p with h0 | h0 | h0
  · have e := (cmpP_eq _ _).1 h0
    by_cases h1 : a.fl = b.fl
    · rcases Int.lt_trichotomy a.dr b.dr with h2 | h2 | h2
      · exact .inl (.inr ⟨e, .inr ⟨h1, .inl h2⟩⟩)
      · rcases Int.lt_trichotomy a.ds b.ds with h3 | h3 | h3
        · exact .inl (.inr ⟨e, .inr ⟨h1, .inr ⟨h2, h3⟩⟩⟩)
        · exact .inr (.inr ⟨e, h1, h2, h3⟩)
        · exact .inr (.inl (.inr ⟨e.symm, .inr ⟨h1.symm, .inr ⟨h2.symm, h3⟩⟩⟩))
      · exact .inr (.inl (.inr ⟨e.symm, .inr ⟨h1.symm, .inl h2⟩⟩))
    · cases ha : a.fl
      · refine .inl (.inr ⟨e, .inl ⟨rfl, ?_⟩⟩)
        cases hb : b.fl
        · exact absurd (ha.trans hb.symm) h1
        · rfl
      · refine .inr (.inl (.inr ⟨e.symm, .inl ⟨?_, rfl⟩⟩))
        cases hb : b.fl
        · rfl
        · exact absurd (ha.trans hb.symm) h1
  · exact .inl (.inl (by omega))
  · exact .inr (.inl (.inl (by rw [cmpP_swap, h0]; decide)))
theorem before_tot {a b : Lf} (h : (a.dr, a.ds) ≠ (b.dr, b.ds)) : before a b = true ∨ before b a = true := by
  rcases before_tri a b with h1 | h1 | ⟨_, _, h2, h3⟩
  · exact .inl h1
  · exact .inr h1
  · exact absurd (by rw [h2, h3]) h
theorem before_same {a b : Lf} (h : a.p = b.p ∧ a.fl = b.fl ∧ a.dr = b.dr ∧ a.ds = b.ds) (c : Lf) : before a c = before b c := by
  obtain ⟨h1, h2, h3, h4⟩ := h
  unfold before; rw [h1, h2, h3, h4]
theorem before_ntrans {x y z : Lf} (h1 : before x y = false) (h2 : before y z = false) : before x z = false := by
  cases h : before x z
  · rfl
  · rcases before_tri x y with h3 | h3 | h3
    · rw [h1] at h3; cases h3
    · rw [before_trans h3 h] at h2; cases h2
    · rw [before_same h3, h2] at h; cases h
theorem cmpL_lt (a b : Lf) (ha : dotIn a) (hb : dotIn b) : decide (cmpL a b < 0) = before a b := by
  have h := cmpL_before a b ha hb
  cases hq : before a b
  · rw [hq] at h; simp at h ⊢; exact h
  · rw [hq] at h; simp at h ⊢; exact h
theorem cmpL_zero (a b : Lf) (ha : dotIn a) (hb : dotIn b) : cmpL a b = 0 ↔ (a.p = b.p ∧ a.fl = b.fl ∧ a.dr = b.dr ∧ a.ds = b.ds) := by
  obtain ⟨⟨a1, a2⟩, a3, a4⟩ := ha
  obtain ⟨⟨b1, b2⟩, b3, b4⟩ := hb
  have w1 : wrap64 (a.ds - b.ds) = a.ds - b.ds := by unfold wrap64; omega
  have w2 : wrap64 (a.dr - b.dr) = a.dr - b.dr := by unfold wrap64; omega
  unfold cmpL
  rw [w1, w2]
  by_cases h0 : cmpP a.p b.p = 0
  · have e := (cmpP_eq _ _).1 h0
    rw [if_pos h0]
    by_cases h1 : a.fl = b.fl
    · rw [if_pos h1]
      by_cases h2 : a.dr = b.dr
      · rw [if_pos h2]
        exact ⟨fun h => ⟨e, h1, h2, by omega⟩, fun h => by omega⟩
      · rw [if_neg h2]
        exact ⟨fun h => by omega, fun h => absurd h.2.2.1 h2⟩
    · rw [if_neg h1]
      constructor
      · intro h; split at h <;> omega
      · intro h; exact absurd h.2.1 h1
  · rw [if_neg h0]
    exact ⟨fun h => absurd h h0, fun h => absurd ((cmpP_eq _ _).2 h.1) h0⟩
/-- In order. -/
def Inc (l : List Lf) : Prop := l.Pairwise fun a b => before a b = true
theorem inc_unique : ∀ l m : List Lf, l.Perm m → Inc l → Inc m → l = m
  | [], m, h, _, _ => by rw [h.nil_eq]
  | a :: l, [], h, _, _ => by have := h.length_eq; simp at this
  | a :: l, b :: m, h, h1, h2 => by
    have h1' := List.pairwise_cons.1 h1
    have h2' := List.pairwise_cons.1 h2
    have hab : a = b := by
      have ha : a ∈ b :: m := h.mem_iff.1 (by simp)
      have hb : b ∈ a :: l := h.mem_iff.2 (by simp)
      rcases List.mem_cons.1 ha with ha | ha
      · exact ha
      · rcases List.mem_cons.1 hb with hb | hb
        · exact hb.symm
        · have h3 := h1'.1 b hb
          have h4 := h2'.1 a ha
          rw [before_asym h3] at h4; cases h4
    subst hab
    rw [inc_unique l m h.cons_inv h1'.2 h2'.2]
/-- One leaf more, at its place. -/
def insL : List Lf → Lf → List Lf
  | [], x => [x]
  | y :: l, x => if before y x = true then y :: insL l x else x :: y :: l
theorem insL_perm : ∀ (l : List Lf) (x : Lf), (insL l x).Perm (x :: l)
  | [], x => .refl _
  | y :: l, x => by
    rw [insL]
    split
    · exact ((insL_perm l x).cons y).trans (.swap _ _ _)
    · exact .refl _
theorem insL_inc : ∀ (l : List Lf) (x : Lf), Inc l → (∀ y ∈ l, (y.dr, y.ds) ≠ (x.dr, x.ds)) → Inc (insL l x)
  | [], x, _, _ => by simp [insL, Inc]
  | y :: l, x, h, hd => by
    have h' := List.pairwise_cons.1 h
    rw [insL]
    split
    · rename_i hyx
      refine List.pairwise_cons.2 ⟨fun z hz => ?_, insL_inc l x h'.2 fun z hz => hd z (List.mem_cons_of_mem _ hz)⟩
      rcases List.mem_cons.1 ((insL_perm l x).mem_iff.1 hz) with rfl | hz
      · exact hyx
      · exact h'.1 z hz
    · rename_i hyx
      have hxy : before x y = true := (before_tot (hd y (by simp))).resolve_left hyx
      refine List.pairwise_cons.2 ⟨fun z hz => ?_, h⟩
      rcases List.mem_cons.1 hz with rfl | hz
      · exact hxy
      · exact before_trans hxy (h'.1 z hz)
theorem dots_perm {l m : List Lf} (h : l.Perm m) : (dots l).Perm (dots m) := h.map _
theorem dots_mem {l : List Lf} {d : Int × Int} : d ∈ dots l ↔ ∃ x ∈ l, (x.dr, x.ds) = d := by unfold dots; exact List.mem_map
theorem foldL_ok : ∀ (ls acc : List Lf), (dots (acc ++ ls)).Nodup → Inc acc → Inc (ls.foldl insL acc) ∧ (ls.foldl insL acc).Perm (acc ++ ls)
  | [], acc, _, h => ⟨h, by rw [List.append_nil]; exact .refl _⟩
  | x :: ls, acc, hn, h => by
    have hp : (insL acc x ++ ls).Perm (acc ++ x :: ls) := ((insL_perm acc x).append_right ls).trans (by simpa using (List.perm_middle (a := x) (l₁ := acc) (l₂ := ls)).symm)
    have hne : ∀ y ∈ acc, (y.dr, y.ds) ≠ (x.dr, x.ds) := by
      intro y hy e
      unfold dots at hn
      rw [List.map_append, List.nodup_append] at hn
      exact hn.2.2 _ (List.mem_map.2 ⟨y, hy, rfl⟩) _ (List.mem_map.2 ⟨x, by simp, rfl⟩) e
    obtain ⟨h1, h2⟩ := foldL_ok ls (insL acc x) ((dots_perm hp).nodup_iff.2 hn) (insL_inc acc x h hne)
    exact ⟨h1, h2.trans hp⟩
/-- A row in order stays as it is when it is put in leaf by leaf. -/
theorem inc_of_perm {l m : List Lf} (hp : l.Perm m) (hn : (dots m).Nodup) (hl : ∀ i j (_ : i < j) (hj : j < l.length), before l[j] (l[i]'(by omega)) = false) : Inc l := by
  have hn' := (dots_perm hp).nodup_iff.2 hn
  refine List.pairwise_iff_getElem.2 fun i j hi hj hij => ?_
  have hne : (l[i].dr, l[i].ds) ≠ (l[j].dr, l[j].ds) := by
    have := List.pairwise_iff_getElem.1 hn' i j (by simpa [dots] using hi) (by simpa [dots] using hj) hij
    simpa [dots] using this
  rcases before_tot hne with h | h
  · exact h
  · rw [hl i j hij hj] at h; cases h
/-! What StateOk says. -/
theorem stOk_ctx' {s : St} (h : stOk s = true) : ctxOk s.c = true := by unfold stOk at h; simp only [Bool.and_eq_true] at h; exact h.1
theorem stOk_len' {s : St} (h : stOk s = true) : s.l.length ≤ 1000 := by unfold stOk at h; simp only [Bool.and_eq_true, decide_eq_true_eq] at h; exact h.2.1
theorem stOk_at {s : St} (h : stOk s = true) {i : Nat} (hi : i < s.l.length) : okAt s.c s.l i = true := by
  unfold stOk at h; simp only [Bool.and_eq_true] at h
  exact List.all_eq_true.1 h.2.2 i (List.mem_range.2 hi)
theorem stOk_leaf {s : St} (h : stOk s = true) : ∀ x ∈ s.l, okLeaf s.c x = true := by
  intro x hx
  obtain ⟨i, hi, rfl⟩ := List.getElem_of_mem hx
  exact okAt_is hi (stOk_at h hi)
theorem stOk_nodup {s : St} (h : stOk s = true) : (dots s.l).Nodup := by
  refine List.pairwise_iff_getElem.2 fun i j hi hj hij => ?_
  have hi' : i < s.l.length := by simpa [dots] using hi
  have hj' : j < s.l.length := by simpa [dots] using hj
  intro e
  have hd : sameDot s.l[i] s.l[j] = true := by
    simp only [dots, List.getElem_map, Prod.mk.injEq] at e
    simp [sameDot, e]
  have := okAt_again (c := s.c) hj' hij hd
  rw [stOk_at h hj'] at this; cases this
theorem stOk_inc {s : St} (h : stOk s = true) : Inc s.l := by
  have hstep : ∀ i (hi : i + 1 < s.l.length), before (s.l[i]'(by omega)) s.l[i + 1] = true := by
    intro i hi
    cases hb : before (s.l[i]'(by omega)) s.l[i + 1]
    · have := okAt_before (c := s.c) hi (by omega) (by simpa using hb)
      rw [stOk_at h hi] at this; cases this
    · rfl
  have key : ∀ (d i : Nat) (hi : i + d + 1 < s.l.length), before (s.l[i]'(by omega)) (s.l[i + d + 1]) = true := by
    intro d
    induction d with
    | zero => intro i hi; exact hstep i hi
    | succ d ih => intro i hi; exact before_trans (ih i (by omega)) (hstep (i + d + 1) (by omega))
  refine List.pairwise_iff_getElem.2 fun i j hi hj hij => ?_
  have := key (j - i - 1) i (by omega)
  have e : i + (j - i - 1) + 1 = j := by omega
  simpa only [e] using this
theorem stOk_mk {s : St} (hc : ctxOk s.c = true) (hn : s.l.length ≤ 1000) (hl : ∀ x ∈ s.l, okLeaf s.c x = true) (hi : Inc s.l) (hd : (dots s.l).Nodup) : stOk s = true := by
  refine stOk_good hc hn fun i hi' => okAt_good hi' (hl _ (List.getElem_mem hi')) (fun hp => ?_) (fun k hk => ?_)
  · exact List.pairwise_iff_getElem.1 hi (i - 1) i (by omega) hi' (by omega)
  · cases hs : sameDot (s.l[k]'(by omega)) s.l[i]
    · rfl
    · exfalso
      have := List.pairwise_iff_getElem.1 hd k i (by simp [dots]; omega) (by simpa [dots] using hi') hk
      apply this
      simp [sameDot] at hs
      simp [dots, hs]
/-! The join. -/
def keepA (a b : St) : List Lf := a.l.filter fun x => decide (x ∈ b.l) || !hasB b.c x.dr x.ds
def keepB (a b : St) : List Lf := b.l.filter fun x => !hasB a.c x.dr x.ds
def joinL (a b : St) : List Lf := (keepA a b ++ keepB a b).foldl insL []
theorem keep_nodup {a b : St} (ha : stOk a = true) (hb : stOk b = true) : (dots (keepA a b ++ keepB a b)).Nodup := by
  have h1 : (dots (keepA a b)).Nodup := List.Sublist.nodup (List.filter_sublist.map _) (stOk_nodup ha)
  have h2 : (dots (keepB a b)).Nodup := List.Sublist.nodup (List.filter_sublist.map _) (stOk_nodup hb)
  unfold dots at *
  rw [List.map_append]
  refine List.nodup_append.2 ⟨h1, h2, ?_⟩
  intro d hd e he hde
  subst hde
  obtain ⟨x, hx, rfl⟩ := List.mem_map.1 hd
  obtain ⟨y, hy, he⟩ := List.mem_map.1 he
  have hx' := (List.mem_filter.1 hx).1
  have hy' := (List.mem_filter.1 hy).2
  have h3 := stOk_leaf ha x hx'
  unfold okLeaf at h3
  simp only [Bool.and_eq_true] at h3
  simp only [Prod.mk.injEq] at he
  rw [he.1, he.2, h3.2.2.2] at hy'
  cases hy'
theorem joinL_ok {a b : St} (ha : stOk a = true) (hb : stOk b = true) : Inc (joinL a b) ∧ (joinL a b).Perm (keepA a b ++ keepB a b) :=
  foldL_ok (keepA a b ++ keepB a b) [] (by simpa using keep_nodup ha hb) List.Pairwise.nil
theorem joinL_len {a b : St} (ha : stOk a = true) (hb : stOk b = true) : (joinL a b).length ≤ 2000 := by
  have h1 := (joinL_ok ha hb).2.length_eq
  have h2 : (keepA a b).length ≤ a.l.length := List.length_filter_le _ _
  have h3 : (keepB a b).length ≤ b.l.length := List.length_filter_le _ _
  have h4 := stOk_len' ha
  have h5 := stOk_len' hb
  rw [List.length_append] at h1; omega
end Go.Ow

/- Spans of one replica, joined; the runs of a live context. -/
namespace Go.Ow
set_option linter.unusedSimpArgs false
set_option linter.unusedVariables false
open Go.RowKit
def Vs (s : Sp) : Prop := 1 ≤ s.f ∧ s.f ≤ s.t ∧ s.t ≤ 1000000000
def Ns (l : List Sp) : Prop := l.Pairwise (fun u v => u.t + 1 < v.f) ∧ ∀ s ∈ l, Vs s
def SpIn (l : List Sp) (q : Int) : Prop := ∃ s ∈ l, s.f ≤ q ∧ q ≤ s.t
theorem spIn_app (a b : List Sp) (q : Int) : SpIn (a ++ b) q ↔ SpIn a q ∨ SpIn b q := by
  constructor
  · rintro ⟨v, hv, h⟩
    rcases List.mem_append.1 hv with hv | hv
    · exact .inl ⟨v, hv, h⟩
    · exact .inr ⟨v, hv, h⟩
  · rintro (⟨v, hv, h⟩ | ⟨v, hv, h⟩)
    · exact ⟨v, by simp [hv], h⟩
    · exact ⟨v, by simp [hv], h⟩
theorem spIn_one (s : Sp) (q : Int) : SpIn [s] q ↔ s.f ≤ q ∧ q ≤ s.t :=
  ⟨by rintro ⟨v, hv, h⟩; rw [List.mem_singleton] at hv; subst hv; exact h, fun h => ⟨s, by simp, h⟩⟩
theorem spIn_nil (q : Int) : ¬ SpIn [] q := by rintro ⟨v, hv, _⟩; cases hv
theorem spIn_perm {a b : List Sp} (h : a.Perm b) (q : Int) : SpIn a q ↔ SpIn b q :=
  ⟨fun ⟨v, hv, h'⟩ => ⟨v, h.mem_iff.1 hv, h'⟩, fun ⟨v, hv, h'⟩ => ⟨v, h.mem_iff.2 hv, h'⟩⟩
theorem ns_nil : Ns [] := ⟨List.Pairwise.nil, by simp⟩
def stp (out : List Sp) (s : Sp) : List Sp :=
  match out[out.length - 1]? with
  | some u => if s.f ≤ u.t + 1 then out.set (out.length - 1) ⟨u.f, if u.t < s.t then s.t else u.t⟩ else out ++ [s]
  | none => out ++ [s]
theorem stp_nil (s : Sp) : stp [] s = [s] := rfl
theorem stp_snoc (o : List Sp) (u s : Sp) : stp (o ++ [u]) s = if s.f ≤ u.t + 1 then o ++ [⟨u.f, if u.t < s.t then s.t else u.t⟩] else o ++ [u, s] := by
  unfold stp
  have e : (o ++ [u]).length - 1 = o.length := by simp
  rw [e]
  have e2 : (o ++ [u])[o.length]? = some u := by simp
  rw [e2]
  simp only
  split
  · simp
  · simp
theorem stp_len (o : List Sp) (s : Sp) : (stp o s).length ≤ o.length + 1 := by
  unfold stp
  split
  · split <;> simp
  · simp
theorem stp_ns (o : List Sp) (s : Sp) (h : Ns o) (hs : Vs s) (hf : ∀ u ∈ o, u.f ≤ s.f) : Ns (stp o s) ∧ (∀ q, SpIn (stp o s) q ↔ SpIn o q ∨ (s.f ≤ q ∧ q ≤ s.t)) ∧ ∀ u ∈ stp o s, u.f ≤ s.f := by
  rcases List.eq_nil_or_concat o with rfl | ⟨p, u, rfl⟩
  · refine ⟨⟨by simp [stp_nil], by simpa [stp_nil] using hs⟩, fun q => ?_, by simp [stp_nil]⟩
    rw [stp_nil, spIn_one]
    have := spIn_nil q
    exact ⟨.inr, fun h => h.elim (fun h => absurd h this) id⟩
  · rw [List.concat_eq_append] at *
    have hu := hf u (by simp)
    obtain ⟨hp, hv⟩ := h
    rw [List.pairwise_append] at hp
    obtain ⟨p1, _, p3⟩ := hp
    have vu := hv u (by simp)
    rw [stp_snoc]
    by_cases hc : s.f ≤ u.t + 1
    · rw [if_pos hc]
      obtain ⟨u1, u2, u3⟩ := vu
      obtain ⟨s1, s2, s3⟩ := hs
      refine ⟨⟨List.pairwise_append.2 ⟨p1, by simp, fun a ha b hb => ?_⟩, fun a ha => ?_⟩, fun q => ?_, fun a ha => ?_⟩
      · rw [List.mem_singleton] at hb; subst hb
        exact p3 a ha u (by simp)
      · rcases List.mem_append.1 ha with ha | ha
        · exact hv a (by simp [ha])
        · rw [List.mem_singleton] at ha; subst ha
          refine ⟨u1, ?_, ?_⟩
          · show u.f ≤ (if u.t < s.t then s.t else u.t); split <;> omega
          · show (if u.t < s.t then s.t else u.t) ≤ _; split <;> omega
      · rw [spIn_app, spIn_app, spIn_one, spIn_one]
        have : (u.f ≤ q ∧ q ≤ (if u.t < s.t then s.t else u.t)) ↔ (u.f ≤ q ∧ q ≤ u.t) ∨ (s.f ≤ q ∧ q ≤ s.t) := by
          split <;> omega
        simp only [this]
        exact or_assoc.symm
      · rcases List.mem_append.1 ha with ha | ha
        · exact hf a (by simp [ha])
        · rw [List.mem_singleton] at ha; subst ha; exact hu
    · rw [if_neg hc]
      have e : p ++ [u, s] = (p ++ [u]) ++ [s] := by simp
      rw [e]
      refine ⟨⟨List.pairwise_append.2 ⟨List.pairwise_append.2 ⟨p1, by simp, p3⟩, by simp, fun a ha b hb => ?_⟩, fun a ha => ?_⟩, fun q => ?_, fun a ha => ?_⟩
      · rw [List.mem_singleton] at hb; subst hb
        rcases List.mem_append.1 ha with ha | ha
        · have := p3 a ha u (by simp); have := vu.2.1; omega
        · rw [List.mem_singleton] at ha; subst ha; omega
      · rcases List.mem_append.1 ha with ha | ha
        · exact hv a ha
        · rw [List.mem_singleton] at ha; subst ha; exact hs
      · rw [spIn_app, spIn_one]
      · rcases List.mem_append.1 ha with ha | ha
        · exact hf a ha
        · rw [List.mem_singleton] at ha; subst ha; omega
theorem join_ns : ∀ (l o : List Sp), Ns o → (∀ s ∈ l, Vs s) → l.Pairwise (fun a b => a.f ≤ b.f) → (∀ u ∈ o, ∀ s ∈ l, u.f ≤ s.f) → Ns (l.foldl stp o) ∧ ∀ q, SpIn (l.foldl stp o) q ↔ SpIn o q ∨ SpIn l q
  | [], o, h, _, _, _ => ⟨h, fun q => by have := spIn_nil q; exact ⟨.inl, fun h => h.elim id (fun h => absurd h this)⟩⟩
  | s :: l, o, h, hv, hp, hf => by
    obtain ⟨hp1, hp2⟩ := List.pairwise_cons.1 hp
    obtain ⟨a, b, c⟩ := stp_ns o s h (hv s (by simp)) (fun u hu => hf u hu s (by simp))
    have ih := join_ns l (stp o s) a (fun x hx => hv x (by simp [hx])) hp2 (fun u hu x hx => by have := c u hu; have := hp1 x hx; omega)
    refine ⟨ih.1, fun q => ?_⟩
    rw [List.foldl_cons, ih.2, b]
    have e : s :: l = [s] ++ l := rfl
    rw [e, spIn_app, spIn_one]
    exact or_assoc
theorem join_len : ∀ (l o : List Sp), (l.foldl stp o).length ≤ o.length + l.length
  | [], o => by simp
  | s :: l, o => by
    have := join_len l (stp o s)
    have := stp_len o s
    simp only [List.foldl_cons, List.length_cons]; omega
theorem spaced_ns : ∀ {l : List Sp}, Spaced l → Ns l
  | [], _ => ns_nil
  | s :: l, h => by
    obtain ⟨h1, h2, h3⟩ := h
    have ih := spaced_ns h3
    exact ⟨List.pairwise_cons.2 ⟨h2, ih.1⟩, fun u hu => by
      rcases List.mem_cons.1 hu with rfl | hu
      · exact h1
      · exact ih.2 u hu⟩
/-- The runs of a live context's replicas from k on, n of them. -/
def runsN (g : List (Int × List Sp)) : Nat → Nat → List Rn
  | 0, _ => []
  | n + 1, k => ((mget g (k : Int)).map fun s => (⟨(k : Int), s.f, s.t⟩ : Rn)) ++ runsN g n (k + 1)
theorem runsN_nf (g : List (Int × List Sp)) (hg : ∀ k : Int, Ns (mget g k)) : ∀ (n k : Nat), k + n = 8 → Nf (runsN g n k) ∧ (∀ u ∈ runsN g n k, (k : Int) ≤ u.r) ∧ ∀ r q, In (runsN g n k) r q ↔ ((k : Int) ≤ r ∧ r < 8 ∧ SpIn (mget g r) q)
  | 0, k, hk => by
    refine ⟨⟨List.Pairwise.nil, by simp [runsN]⟩, by simp [runsN], fun r q => ⟨fun h => absurd h (in_nil _ _), fun h => by omega⟩⟩
  | n + 1, k, hk => by
    obtain ⟨a, b, c⟩ := runsN_nf g hg n (k + 1) (by omega)
    obtain ⟨p, v⟩ := hg k
    have hm : ∀ u : Rn, u ∈ ((mget g (k : Int)).map fun s => (⟨(k : Int), s.f, s.t⟩ : Rn)) → u.r = k := by
      intro u hu; obtain ⟨s, _, rfl⟩ := List.mem_map.1 hu; rfl
    have hn : Nf ((mget g (k : Int)).map fun s => (⟨(k : Int), s.f, s.t⟩ : Rn)) := by
      refine ⟨?_, fun u hu => ?_⟩
      · rw [List.pairwise_map]
        exact p.imp fun h => .inr ⟨rfl, h⟩
      · obtain ⟨s, hs, rfl⟩ := List.mem_map.1 hu
        exact ⟨⟨by show (0 : Int) ≤ (k : Int); omega, by show (k : Int) < 8; omega⟩, v s hs⟩
    refine ⟨nf_app.2 ⟨hn, a, fun u hu x hx => .inl ?_⟩, fun u hu => ?_, fun r q => ?_⟩
    · have := hm u hu; have := b x hx; omega
    · rcases List.mem_append.1 hu with hu | hu
      · have := hm u hu; omega
      · have := b u hu; omega
    · rw [runsN, in_app, c]
      have hi : In ((mget g (k : Int)).map fun s => (⟨(k : Int), s.f, s.t⟩ : Rn)) r q ↔ r = k ∧ SpIn (mget g r) q := by
        constructor
        · rintro ⟨u, hu, h1, h2⟩
          obtain ⟨s, hs, rfl⟩ := List.mem_map.1 hu
          have : r = k := h1.symm
          subst this
          exact ⟨rfl, s, hs, h2⟩
        · rintro ⟨rfl, s, hs, h⟩
          exact ⟨_, List.mem_map.2 ⟨s, hs, rfl⟩, rfl, h⟩
      rw [hi]
      constructor
      · rintro (⟨h1, h2⟩ | ⟨h1, h2, h3⟩)
        · exact ⟨by omega, by omega, h2⟩
        · exact ⟨by omega, h2, h3⟩
      · rintro ⟨h1, h2, h3⟩
        by_cases hr : r = k
        · exact .inl ⟨hr, h3⟩
        · exact .inr ⟨by omega, h2, h3⟩
theorem spIn_of (xs : List Rn) (r q : Int) : SpIn (spansOf xs r) q ↔ In xs r q := by
  rw [← hasB_in, hasB_spans, List.any_eq_true]
  unfold SpIn
  simp
theorem in_rep {xs : List Rn} (h : Nf xs) {r q : Int} (hi : In xs r q) : 0 ≤ r ∧ r < 8 := by
  obtain ⟨u, hu, h1, _⟩ := hi
  have := (h.2 u hu).1; omega
/-- What the program builds is what the reference builds. -/
theorem runs_uni {a b : List Rn} {g : List (Int × List Sp)} (ha : Nf a) (hb : Nf b) (hg : ∀ k : Int, Ns (mget g k)) (hi : ∀ k q, SpIn (mget g k) q ↔ SpIn (spansOf a k) q ∨ SpIn (spansOf b k) q) : runsN g 8 0 = uni a b := by
  obtain ⟨n1, _, i1⟩ := runsN_nf g hg 8 0 rfl
  obtain ⟨n2, i2⟩ := uni_nf b a ha hb.2
  refine nf_unique _ _ n1 n2 fun r q => ?_
  rw [i1, i2, hi, spIn_of, spIn_of]
  constructor
  · exact fun h => h.2.2
  · intro h
    have : 0 ≤ r ∧ r < 8 := h.elim (fun h => in_rep ha h) (fun h => in_rep hb h)
    exact ⟨by omega, by omega, h⟩
/-! Covers. -/
def within (a : List Rn) (r : Rn) : Bool := a.any fun s => decide (s.r = r.r) && (decide (s.f ≤ r.f) && decide (r.t ≤ s.t))
theorem within_in {a : List Rn} {r : Rn} (ha : Nf a) (hr : Vd r) : within a r = true ↔ ∀ q, Hs r r.r q → In a r.r q := by
  unfold within
  rw [List.any_eq_true]
  constructor
  · rintro ⟨s, hs, h⟩ q ⟨_, h1, h2⟩
    simp at h
    exact ⟨s, hs, h.1, by omega, by omega⟩
  · intro h
    have h3 := hr.2.2.1
    obtain ⟨s, hs, s1, s2, s3⟩ := h r.f ⟨rfl, by omega, h3⟩
    refine ⟨s, hs, ?_⟩
    have : r.t ≤ s.t := by
      by_cases hlt : s.t < r.t
      · obtain ⟨u, hu, u1, u2, u3⟩ := h (s.t + 1) ⟨rfl, by omega, by omega⟩
        have vs := (ha.2 s hs).2
        obtain ⟨i, hi, rfl⟩ := List.getElem_of_mem hs
        obtain ⟨j, hj, rfl⟩ := List.getElem_of_mem hu
        have hp := List.pairwise_iff_getElem.1 ha.1
        rcases Nat.lt_trichotomy i j with hij | hij | hij
        · have := hp i j hi hj hij; unfold Ap at this; omega
        · subst hij; omega
        · have := hp j i hj hi hij; unfold Ap at this; omega
      · omega
    simp [s1, s2, this]
theorem covers_uni {a b : List Rn} (ha : Nf a) (hb : Nf b) : (decide (uni a b = a)) = b.all (within a) := by
  obtain ⟨n2, i2⟩ := uni_nf b a ha hb.2
  rw [Bool.eq_iff_iff, decide_eq_true_eq, List.all_eq_true]
  constructor
  · intro h r hr
    rw [within_in ha (hb.2 r hr)]
    intro q hq
    rw [← h]
    exact (i2 _ _).2 (.inr ⟨r, hr, hq⟩)
  · intro h
    refine nf_unique _ _ n2 ha fun r q => ?_
    rw [i2]
    refine ⟨fun h' => h'.elim id ?_, .inl⟩
    rintro ⟨u, hu, h1, h2⟩
    have := (within_in ha (hb.2 u hu)).1 (h u hu) q ⟨rfl, h2⟩
    rw [h1] at this; exact this
end Go.Ow
namespace Go.Ow
set_option linter.unusedSimpArgs false
set_option linter.unusedVariables false
open Go.RowKit
theorem mhas_mp (k : Int) (xs : List Sp) (j : Int) : ∀ g : List (Int × List Sp), mhas (mput g k xs) j = (decide (j = k) || mhas g j)
  | [] => by rw [Bool.eq_iff_iff]; simp only [mput, mhas, List.any_cons, List.any_nil, Bool.or_false, beq_iff_eq, decide_eq_true_eq]; exact ⟨fun h => h.symm, fun h => h.symm⟩
  | p :: g => by
    have ih := mhas_mp k xs j g
    by_cases hp : p.1 = k
    · by_cases hj : j = k
      · simp [mput, mhas, hp, hj]
      · have : ¬ k = j := fun e => hj e.symm
        simp [mput, mhas, hp, hj, this]
    · simp only [mput, if_neg hp, mhas, List.any_cons] at ih ⊢
      rw [ih]
      cases decide (j = k) <;> cases (p.1 == j) <;> rfl
theorem mhas_cg (k : Int) : ∀ (xs : List Rn) (g : List (Int × List Sp)), mhas (cloud g xs) k = (mhas g k || !decide (spansOf xs k = []))
  | [], g => by simp [cloud, spansOf]
  | r :: xs, g => by
    rw [cloud, mhas_cg k xs, mhas_mp]
    by_cases h : r.r = k
    · simp [spansOf, List.filter_cons, h]
    · have h2 : ¬ k = r.r := fun e => h e.symm
      simp [spansOf, List.filter_cons, h, h2]
theorem mhas_cl (xs : List Rn) (k : Int) : mhas (cloud [] xs) k = !decide (spansOf xs k = []) := by
  rw [mhas_cg]; simp [mhas]
end Go.Ow
namespace Go.Ow
set_option linter.unusedSimpArgs false
set_option linter.unusedVariables false
def uniOk (xs ys : List Rn) : Bool := ctxOk xs && (ctxOk ys && decide ((uni xs ys).length ≤ 1000))
def uniR (xs ys : List Rn) : List Rn := if uniOk xs ys then uni xs ys else []
end Go.Ow
