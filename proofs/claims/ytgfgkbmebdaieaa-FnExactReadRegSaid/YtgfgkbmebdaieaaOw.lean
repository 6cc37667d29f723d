/- Memory in lists: what a call owns, what it reads. Plain lemmas over the model; no program. -/
import Derived.Below
import Derived.Deep.Draws
import Derived.Deep.AppendLies
import Derived.Maps.AppendAt
import Derived.Laws.AppendOwnNone
import Derived.OwnWalk
import Derived.Laws.BytesArg
import Derived.Laws.MakeOwn
import Derived.Laws.OwnMore
import Derived.Deep.OwnRows
import Derived.Tactics
import Derived.Lib.ConvBytes
import Derived.Laws.Slices
import Derived.WalkKit
import Derived.KernelRfl
import Derived.RowKit3
import Derived.Deep.LoopGhost
import Derived.Deep.QuietTactic
import Derived.BigQuiet
import Derived.WideLaws
import Derived.WalkLawsBesides
import Derived.WalkSpells
import Derived.Lib.Hide
import Derived.Deep.RegionHeld3
namespace Go.Ow
set_option linter.unusedSimpArgs false
set_option linter.unusedVariables false
open Go.RowKit

/-- These blocks stand as they stood. -/
def Same (w w' : World) (fp : List Nat) : Prop := ∀ b ∈ fp, w'.heap[b]? = w.heap[b]?

/-- How a value of a type lies in cells: what is read, what is owned with the blocks that it takes. -/
class Cd (α : Type) where
  z : Nat
  zpos : 0 < z
  rd : World → α → List Value → Prop
  dp : World → α → List Value → List Nat → Prop
  rd_len : ∀ {w x cs}, rd w x cs → cs.length = z
  rd_one : ∀ {w x cs}, rd w x cs → ∀ c ∈ cs, c.oneCell' = true
  rd_low : ∀ {w w' x cs}, rd w x cs → (∀ b, b < w.heap.size → w'.heap[b]? = w.heap[b]?) → rd w' x cs
  dp_rd : ∀ {w x cs fp}, dp w x cs fp → rd w x cs
  dp_loc : ∀ {w w' x cs fp}, dp w x cs fp → Same w w' fp → dp w' x cs fp
  dp_lt : ∀ {w x cs fp}, dp w x cs fp → ∀ b ∈ fp, b < w.heap.size

/-- The number of the type in the program. -/
class Ty (α : Type) where
  id : Nat

/-- A type whose cells say all. -/
class Fl (α : Type) extends Cd α where
  fl : α → List Value
  rd_fl : ∀ {w x cs}, rd w x cs ↔ cs = fl x
  dp_fl : ∀ {w x cs fp}, dp w x cs fp ↔ cs = fl x ∧ fp = []

@[reducible] def Fl.scalar {α : Type} (enc : α → Value) (h : ∀ x, (enc x).oneCell' = true) : Fl α where
  z := 1
  zpos := Nat.one_pos
  rd _ x cs := cs = [enc x]
  dp _ x cs fp := cs = [enc x] ∧ fp = []
  rd_len := by rintro _ _ _ rfl; rfl
  rd_one := by rintro _ x _ rfl c hc; simp at hc; subst hc; exact h x
  rd_low := by rintro _ _ _ _ rfl _; rfl
  dp_rd := fun h => h.1
  dp_loc := fun h _ => h
  dp_lt := by rintro _ _ _ _ ⟨_, rfl⟩ b hb; cases hb
  fl x := [enc x]
  rd_fl := Iff.rfl
  dp_fl := Iff.rfl

instance : Fl Int := Fl.scalar (Value.int .i64) (fun _ => rfl)
instance : Fl UInt8 := Fl.scalar (fun b => Value.int .u8 (b.toNat : Int)) (fun _ => rfl)
instance : Fl Bool := Fl.scalar Value.bool (fun _ => rfl)
instance : Fl ByteArray := Fl.scalar Value.string (fun _ => rfl)

instance Cd.pair {α β : Type} [Cd α] [Cd β] : Cd (α × β) where
  z := Cd.z α + Cd.z β
  zpos := by have := Cd.zpos (α := α); omega
  rd w p cs := ∃ a b, cs = a ++ b ∧ Cd.rd w p.1 a ∧ Cd.rd w p.2 b
  dp w p cs fp := ∃ a b f g, cs = a ++ b ∧ fp = f ++ g ∧ Cd.dp w p.1 a f ∧ Cd.dp w p.2 b g
  rd_len := by rintro _ _ _ ⟨a, b, rfl, ha, hb⟩; rw [List.length_append, Cd.rd_len ha, Cd.rd_len hb]
  rd_one := by
    rintro _ _ _ ⟨a, b, rfl, ha, hb⟩ c hc
    rcases List.mem_append.1 hc with h | h
    · exact Cd.rd_one ha c h
    · exact Cd.rd_one hb c h
  rd_low := by rintro _ _ _ _ ⟨a, b, rfl, ha, hb⟩ h; exact ⟨a, b, rfl, Cd.rd_low ha h, Cd.rd_low hb h⟩
  dp_rd := by rintro _ _ _ _ ⟨a, b, f, g, rfl, _, ha, hb⟩; exact ⟨a, b, rfl, Cd.dp_rd ha, Cd.dp_rd hb⟩
  dp_loc := by
    rintro _ _ _ _ _ ⟨a, b, f, g, rfl, rfl, ha, hb⟩ h
    exact ⟨a, b, f, g, rfl, rfl, Cd.dp_loc ha (fun x hx => h x (List.mem_append_left _ hx)), Cd.dp_loc hb (fun x hx => h x (List.mem_append_right _ hx))⟩
  dp_lt := by
    rintro _ _ _ _ ⟨a, b, f, g, _, rfl, ha, hb⟩ x hx
    rcases List.mem_append.1 hx with h | h
    · exact Cd.dp_lt ha x h
    · exact Cd.dp_lt hb x h

instance Fl.pair {α β : Type} [Fl α] [Fl β] : Fl (α × β) where
  fl p := Fl.fl p.1 ++ Fl.fl p.2
  rd_fl := by
    intro w x cs
    constructor
    · rintro ⟨a, b, rfl, ha, hb⟩; rw [Fl.rd_fl.1 ha, Fl.rd_fl.1 hb]
    · rintro rfl; exact ⟨_, _, rfl, Fl.rd_fl.2 rfl, Fl.rd_fl.2 rfl⟩
  dp_fl := by
    intro w x cs fp
    constructor
    · rintro ⟨a, b, f, g, rfl, rfl, ha, hb⟩
      obtain ⟨rfl, rfl⟩ := Fl.dp_fl.1 ha
      obtain ⟨rfl, rfl⟩ := Fl.dp_fl.1 hb
      exact ⟨rfl, rfl⟩
    · rintro ⟨rfl, rfl⟩; exact ⟨_, _, [], [], rfl, rfl, Fl.dp_fl.2 ⟨rfl, rfl⟩, Fl.dp_fl.2 ⟨rfl, rfl⟩⟩

/-- A type told by another one. -/
@[reducible] def Cd.iso {α β : Type} [Cd α] (f : β → α) : Cd β where
  z := Cd.z α
  zpos := Cd.zpos
  rd w x := Cd.rd w (f x)
  dp w x := Cd.dp w (f x)
  rd_len := Cd.rd_len
  rd_one := Cd.rd_one
  rd_low := Cd.rd_low
  dp_rd := Cd.dp_rd
  dp_loc := Cd.dp_loc
  dp_lt := Cd.dp_lt

@[reducible] def Fl.iso {α β : Type} [Fl α] (f : β → α) : Fl β where
  toCd := Cd.iso f
  fl x := Fl.fl (f x)
  rd_fl := Fl.rd_fl
  dp_fl := Fl.dp_fl

/-! ### Slices -/

section
variable {α : Type} [Cd α]

/-- v reads as xs in w. -/
def Rd (w : World) (v : Value) (xs : List α) : Prop :=
  ∃ A c, v = .slice A xs.length c ∧ xs.length ≤ c ∧ c ≤ maxLen ∧ xs.length ≤ 140737488355328 ∧ (A = none → c = 0) ∧
    ∀ i (h : i < xs.length), ∃ b o cs, A = some ⟨b, o, none⟩ ∧ Cd.rd w xs[i] cs ∧ ∀ j, j < Cd.z α → w.cell? ⟨b, o + i * Cd.z α + j, none⟩ = cs[j]?

/-- v is xs, deep, and these are its blocks. -/
def Dp (e : Nat) (w : World) (v : Value) (xs : List α) (fp : List Nat) : Prop :=
  (v = .slice none 0 0 ∧ xs = [] ∧ fp = []) ∨
  ∃ (g cap : Nat) (cur : Array Value) (css : List (List Value)) (fps : List (List Nat)), v = .slice (some ⟨g, 0, none⟩) xs.length cap ∧ w.heap[g]? = some (.cells cur e (0, 0)) ∧ xs.length ≤ cap ∧ cap ≤ maxLen ∧ xs.length ≤ 140737488355328 ∧
    cur.size = cap * Cd.z α ∧ css.length = xs.length ∧ fps.length = xs.length ∧ cur.toList.take (xs.length * Cd.z α) = List.flatten css ∧
    (∀ (i : Nat) (x : α) (cs : List Value) (f : List Nat), xs[i]? = some x → css[i]? = some cs → fps[i]? = some f → Cd.dp w x cs f) ∧ fp = g :: List.flatten fps
end

theorem cell_low {w w' : World} {a : Addr} {v : Value} (h : ∀ b, b < w.heap.size → w'.heap[b]? = w.heap[b]?) (hc : w.cell? a = some v) : w'.cell? a = some v :=
  (World.cell?_of_block (h _ (World.block_lt_of_cell? w a hc))).trans hc

/-- What a callee leaves: old cells and marks read as before. -/
theorem bcell {W w1 : World} (hb : Below W.heap.size W w1) : (∀ b o, b < W.heap.size → w1.cell? ⟨b, o, none⟩ = W.cell? ⟨b, o, none⟩) ∧ (∀ b o, b < W.heap.size → w1.frozen? ⟨b, o, none⟩ = W.frozen? ⟨b, o, none⟩) :=
  ⟨fun b o h => hb.cell (p := ⟨b, o, none⟩) h, fun b o h => hb.frozen (p := ⟨b, o, none⟩) h⟩

theorem flatten_at {α : Type} {css : List (List α)} {k : Nat} (hk : ∀ cs ∈ css, cs.length = k) {i : Nat} {cs : List α} (hi : css[i]? = some cs) {j : Nat} (hj : j < k) : css.flatten[i * k + j]? = cs[j]? := by
  induction css generalizing i with
  | nil => simp at hi
  | cons c css ih =>
    have hc := hk c (by simp)
    cases i with
    | zero =>
      simp at hi; subst hi
      simp only [Nat.zero_mul, Nat.zero_add, List.flatten_cons]
      rw [List.getElem?_append_left (by omega)]
    | succ i =>
      simp only [List.getElem?_cons_succ] at hi
      rw [List.flatten_cons, List.getElem?_append_right (by rw [hc, Nat.succ_mul]; omega), show (i + 1) * k + j - c.length = i * k + j by rw [hc, Nat.succ_mul]; omega]
      exact ih (fun cs h => hk cs (by simp [h])) hi

theorem length_flatten {α : Type} {css : List (List α)} {k : Nat} (hk : ∀ cs ∈ css, cs.length = k) : css.flatten.length = css.length * k := by
  induction css with
  | nil => simp
  | cons c css ih => rw [List.flatten_cons, List.length_append, ih (fun cs h => hk cs (by simp [h])), hk c (by simp), List.length_cons, Nat.succ_mul]; omega

section
variable {α : Type} [Cd α]

theorem Rd.low {w w' : World} {v : Value} {xs : List α} (h : Rd w v xs) (hw : ∀ b, b < w.heap.size → w'.heap[b]? = w.heap[b]?) : Rd w' v xs := by
  obtain ⟨A, c, rfl, h1, h2, h3, hA0, h4⟩ := h
  refine ⟨A, c, rfl, h1, h2, h3, hA0, fun i hi => ?_⟩
  obtain ⟨b, o, cs, hA, hr, hc⟩ := h4 i hi
  refine ⟨b, o, cs, hA, Cd.rd_low hr hw, fun j hj => ?_⟩
  have hl := Cd.rd_len hr
  have h0 := hc j hj
  rw [List.getElem?_eq_getElem (by omega)] at h0 ⊢
  exact cell_low hw h0

theorem Rd.alloc {w : World} {v : Value} {xs : List α} (h : Rd w v xs) (o : Obj) : Rd (w.alloc o) v xs := h.low (fun b hb => Below.heap_alloc w o b hb)
theorem Rd.bel {w w' : World} {v : Value} {xs : List α} (h : Rd w v xs) (hb : Below w.heap.size w w') : Rd w' v xs := h.low hb.block

theorem Dp.rd {e : Nat} {w : World} {v : Value} {xs : List α} {fp : List Nat} (h : Dp e w v xs fp) : Rd w v xs := by
  rcases h with ⟨rfl, rfl, rfl⟩ | ⟨g, cap, cur, css, fps, rfl, hg, h1, h2, h3, hcs, hl, hlf, ht, hd, rfl⟩
  · exact ⟨none, 0, rfl, Nat.zero_le _, Nat.zero_le _, Nat.zero_le _, fun _ => rfl, fun i hi => by simp at hi⟩
  · refine ⟨_, cap, rfl, h1, h2, h3, fun h => (by cases h), fun i hi => ?_⟩
    have hx : xs[i]? = some xs[i] := List.getElem?_eq_getElem hi
    have hc : css[i]? = some css[i] := List.getElem?_eq_getElem (by omega)
    have hf : fps[i]? = some fps[i] := List.getElem?_eq_getElem (by omega)
    refine ⟨g, 0, css[i], rfl, Cd.dp_rd (hd i _ _ _ hx hc hf), fun j hj => ?_⟩
    have hall : ∀ cs ∈ css, cs.length = Cd.z α := by
      intro cs hcs'
      obtain ⟨k, hk, rfl⟩ := List.getElem_of_mem hcs'
      exact Cd.rd_len (Cd.dp_rd (hd k xs[k] css[k] fps[k] (List.getElem?_eq_getElem (by omega)) (List.getElem?_eq_getElem (by omega)) (List.getElem?_eq_getElem (by omega))))
    have := flatten_at hall hc hj
    rw [← ht, List.getElem?_take] at this
    have hlt : i * Cd.z α + j < xs.length * Cd.z α := by
      have : (i + 1) * Cd.z α ≤ xs.length * Cd.z α := Nat.mul_le_mul_right _ hi
      rw [Nat.succ_mul] at this; omega
    rw [if_pos hlt] at this
    rw [Nat.zero_add, cell_of_row w g _ cur e (0, 0) hg, ← this]
    simp

theorem Dp.loc {e : Nat} {w w' : World} {v : Value} {xs : List α} {fp : List Nat} (h : Dp e w v xs fp) (hs : Same w w' fp) : Dp e w' v xs fp := by
  rcases h with ⟨rfl, rfl, rfl⟩ | ⟨g, cap, cur, css, fps, rfl, hg, h1, h2, h3, hcs, hl, hlf, ht, hd, rfl⟩
  · exact .inl ⟨rfl, rfl, rfl⟩
  · refine .inr ⟨g, cap, cur, css, fps, rfl, (hs g (by simp)).trans hg, h1, h2, h3, hcs, hl, hlf, ht, fun i x cs f hx hc hf => ?_, rfl⟩
    exact Cd.dp_loc (hd i x cs f hx hc hf) (fun b hb => hs b (List.mem_cons_of_mem _ (List.mem_flatten.2 ⟨f, List.mem_of_getElem? hf, hb⟩)))

theorem Dp.lt {e : Nat} {w : World} {v : Value} {xs : List α} {fp : List Nat} (h : Dp e w v xs fp) : ∀ b ∈ fp, b < w.heap.size := by
  rcases h with ⟨rfl, rfl, rfl⟩ | ⟨g, cap, cur, css, fps, rfl, hg, h1, h2, h3, hcs, hl, hlf, ht, hd, rfl⟩
  · intro b hb; cases hb
  · intro b hb
    rcases List.mem_cons.1 hb with rfl | hb
    · exact (Array.getElem?_eq_some_iff.1 hg).1
    · obtain ⟨f, hf, hbf⟩ := List.mem_flatten.1 hb
      obtain ⟨k, hk, rfl⟩ := List.getElem_of_mem hf
      exact Cd.dp_lt (hd k xs[k] css[k] fps[k] (List.getElem?_eq_getElem (by omega)) (List.getElem?_eq_getElem (by omega)) (List.getElem?_eq_getElem (by omega))) b hbf

theorem Rd.oneCell {w : World} {v : Value} {xs : List α} (h : Rd w v xs) : v.oneCell' = true := by obtain ⟨A, c, rfl, _⟩ := h; rfl
end

/-- A slice as an element or a field. -/
instance Cd.list {α : Type} [Cd α] [Ty α] : Cd (List α) where
  z := 1
  zpos := Nat.one_pos
  rd w xs cs := ∃ v, cs = [v] ∧ Rd w v xs
  dp w xs cs fp := ∃ v, cs = [v] ∧ Dp (Ty.id α) w v xs fp
  rd_len := by rintro _ _ _ ⟨v, rfl, _⟩; rfl
  rd_one := by rintro _ _ _ ⟨v, rfl, h⟩ c hc; simp at hc; subst hc; exact h.oneCell
  rd_low := by rintro _ _ _ _ ⟨v, rfl, h⟩ hw; exact ⟨v, rfl, h.low hw⟩
  dp_rd := by rintro _ _ _ _ ⟨v, rfl, h⟩; exact ⟨v, rfl, h.rd⟩
  dp_loc := by rintro _ _ _ _ _ ⟨v, rfl, h⟩ hs; exact ⟨v, rfl, h.loc hs⟩
  dp_lt := by rintro _ _ _ _ ⟨v, rfl, h⟩; exact h.lt

/-! ### What a call owns -/

inductive Ds : Type 1 where
  | box (b : Nat) (t : TypeId) (cs : List Value)
  | own {α : Type} [ic : Cd α] [it : Ty α] (v : Value) (xs : List α)
  | elt {α : Type} [ic : Cd α] (cs : List Value) (x : α)
  | any (P : World → List Nat → Prop) (hl : ∀ {w w' fp}, P w fp → Same w w' fp → P w' fp) (hlt : ∀ {w fp}, P w fp → ∀ b ∈ fp, b < w.heap.size)

def Ds.P : Ds → World → List Nat → Prop
  | .box b t cs, w, fp => fp = [b] ∧ w.heap[b]? = some (.cells cs.toArray t (0, 0))
  | @Ds.own α ic it v xs, w, fp => @Dp α ic (@Ty.id α it) w v xs fp
  | @Ds.elt α ic cs x, w, fp => @Cd.dp α ic w x cs fp
  | .any P _ _, w, fp => P w fp

theorem Ds.loc {r : Ds} {w w' : World} {fp : List Nat} (h : r.P w fp) (hs : Same w w' fp) : r.P w' fp := by
  cases r with
  | box b t cs => exact ⟨h.1, (hs b (by rw [h.1]; simp)).trans h.2⟩
  | own v xs => exact Dp.loc h hs
  | elt cs x => exact Cd.dp_loc h hs
  | any P hl hlt => exact hl h hs

theorem Ds.lt {r : Ds} {w : World} {fp : List Nat} (h : r.P w fp) : ∀ b ∈ fp, b < w.heap.size := by
  cases r with
  | box b t cs =>
    intro x hx
    rw [h.1] at hx
    simp at hx; subst hx
    exact (Array.getElem?_eq_some_iff.1 h.2).1
  | own v xs => exact Dp.lt h
  | elt cs x => exact Cd.dp_lt h
  | any P hl hlt => exact hlt h

def Holds (w : World) : List Ds → List Nat → Prop
  | [], fp => fp = []
  | r :: R, fp => ∃ f g, fp = f ++ g ∧ r.P w f ∧ Holds w R g

theorem Holds.loc {w w' : World} : ∀ {R : List Ds} {fp : List Nat}, Holds w R fp → Same w w' fp → Holds w' R fp
  | [], _, h, _ => h
  | _ :: _, _, ⟨f, g, e, hr, hR⟩, hs => by
    subst e
    exact ⟨f, g, rfl, Ds.loc hr (fun b hb => hs b (List.mem_append_left _ hb)), Holds.loc hR (fun b hb => hs b (List.mem_append_right _ hb))⟩

theorem Holds.lt {w : World} : ∀ {R : List Ds} {fp : List Nat}, Holds w R fp → ∀ b ∈ fp, b < w.heap.size
  | [], _, h, b, hb => by rw [h] at hb; cases hb
  | _ :: _, _, ⟨f, g, e, hr, hR⟩, b, hb => by
    subst e
    rcases List.mem_append.1 hb with h | h
    · exact Ds.lt hr b h
    · exact Holds.lt hR b h

theorem Holds.append {w : World} : ∀ {R S : List Ds} {fp : List Nat}, Holds w (R ++ S) fp ↔ ∃ f g, fp = f ++ g ∧ Holds w R f ∧ Holds w S g
  | [], S, fp => by
    constructor
    · intro h; exact ⟨[], fp, rfl, rfl, h⟩
    · rintro ⟨f, g, rfl, hf, hg⟩; rw [show f = [] from hf]; exact hg
  | r :: R, S, fp => by
    constructor
    · rintro ⟨f, g, rfl, hr, hR⟩
      obtain ⟨f', g', rfl, h1, h2⟩ := Holds.append.1 hR
      exact ⟨f ++ f', g', by simp, ⟨f, f', rfl, hr, h1⟩, h2⟩
    · rintro ⟨_, g, rfl, ⟨f, f', rfl, hr, h1⟩, h2⟩
      exact ⟨f, f' ++ g, by simp, hr, Holds.append.2 ⟨f', g, rfl, h1, h2⟩⟩

theorem Holds.perm {w : World} {R R' : List Ds} (hp : R.Perm R') : ∀ {fp : List Nat}, Holds w R fp → ∃ fp', fp'.Perm fp ∧ Holds w R' fp' := by
  induction hp with
  | nil => intro fp h; exact ⟨fp, .refl _, h⟩
  | cons x _ ih =>
    rintro fp ⟨f, g, rfl, hr, hR⟩
    obtain ⟨g', hg, h'⟩ := ih hR
    exact ⟨f ++ g', (List.Perm.append_left f hg), f, g', rfl, hr, h'⟩
  | swap x y l =>
    rintro fp ⟨f, _, rfl, hr, ⟨f', g, rfl, hr', hR⟩⟩
    refine ⟨f' ++ (f ++ g), ?_, f', f ++ g, rfl, hr', f, g, rfl, hr, hR⟩
    rw [← List.append_assoc, ← List.append_assoc]
    exact List.Perm.append_right g List.perm_append_comm
  | trans _ _ ih1 ih2 =>
    intro fp h
    obtain ⟨fp1, hp1, h1⟩ := ih1 h
    obtain ⟨fp2, hp2, h2⟩ := ih2 h1
    exact ⟨fp2, hp2.trans hp1, h2⟩

/-- Below W's size all is as in W; from there on the call owns R, each in blocks of its own. -/
def Own (W : World) (R : List Ds) (w : World) : Prop :=
  Below W.heap.size W w ∧ ∃ fp, Holds w R fp ∧ fp.Nodup ∧ ∀ b ∈ fp, W.heap.size ≤ b

namespace Own
variable {W w w' : World} {R : List Ds}

theorem start (w : World) : Own w [] w := ⟨Below.refl _ _, [], rfl, List.nodup_nil, fun _ h => by cases h⟩

theorem below (h : Own W R w) : Below W.heap.size W w := h.1
theorem size (h : Own W R w) : W.heap.size ≤ w.heap.size := h.1.size

theorem perm {R' : List Ds} (h : Own W R w) (hp : R.Perm R') : Own W R' w := by
  obtain ⟨hb, fp, hh, hn, hl⟩ := h
  obtain ⟨fp', hp', hh'⟩ := hh.perm hp
  exact ⟨hb, fp', hh', (hp'.nodup_iff).2 hn, fun b hb => hl b (hp'.mem_iff.1 hb)⟩

theorem drop {r : Ds} (h : Own W (r :: R) w) : Own W R w := by
  obtain ⟨hb, fp, ⟨f, g, rfl, hr, hR⟩, hn, hl⟩ := h
  exact ⟨hb, g, hR, (List.nodup_append.1 hn).2.1, fun b hb => hl b (List.mem_append_right _ hb)⟩

theorem pick_perm : ∀ (R : List Ds) (i : Nat) (hi : i < R.length), R.Perm (R[i] :: R.eraseIdx i)
  | _ :: _, 0, _ => .refl _
  | x :: R, i + 1, hi => ((pick_perm R i (by simpa using hi)).cons x).trans (.swap _ _ _)

theorem pick (i : Nat) {r : Ds} (hi : R[i]? = some r) (h : Own W R w) : Own W (r :: R.eraseIdx i) w := by
  obtain ⟨hlt, rfl⟩ := List.getElem?_eq_some_iff.1 hi
  exact h.perm (pick_perm R i hlt)

/-- The world turns nowhere but in what stands in front and in new blocks. -/
theorem upd {R1 R1' : List Ds} (h : Own W (R1 ++ R) w) (os : w'.os = w.os) (tape : w'.tape = w.tape) (output : w'.output = w.output) (hsz : w.heap.size ≤ w'.heap.size)
    (hu : ∀ fp, Holds w R1 fp → fp.Nodup → (∀ b, b < w.heap.size → b ∉ fp → w'.heap[b]? = w.heap[b]?) ∧ ∃ fp', Holds w' R1' fp' ∧ fp'.Nodup ∧ ∀ b ∈ fp', b ∈ fp ∨ w.heap.size ≤ b) : Own W (R1' ++ R) w' := by
  obtain ⟨hb, fp, hh, hn, hl⟩ := h
  obtain ⟨f, g, rfl, h1, h2⟩ := Holds.append.1 hh
  obtain ⟨hnf, hng, hdis⟩ := List.nodup_append.1 hn
  obtain ⟨hk, f', h1', hn', hl'⟩ := hu f h1 hnf
  have hsame : Same w w' g := fun b hb => hk b (h2.lt b hb) (fun hbf => hdis b hbf b hb rfl)
  refine ⟨hb.trans ⟨os, tape, output, hsz, fun k hk' => hk k (by have := hb.size; omega) (fun hkf => by have := hl k (List.mem_append_left _ hkf); omega)⟩, f' ++ g, Holds.append.2 ⟨f', g, rfl, h1', h2.loc hsame⟩, ?_, ?_⟩
  · refine List.nodup_append.2 ⟨hn', hng, fun a ha b hbg hab => ?_⟩
    subst hab
    rcases hl' a ha with h' | h'
    · exact hdis a h' a hbg rfl
    · have := h2.lt a hbg; omega
  · intro b hb'
    rcases List.mem_append.1 hb' with h' | h'
    · rcases hl' b h' with h'' | h''
      · exact hl b (List.mem_append_left _ h'')
      · have := hb.size; omega
    · exact hl b (List.mem_append_right _ h')

/-- A callee that leaves all that stands and hands new things over. -/
theorem call {Rn : List Ds} (h : Own W R w) (hn : Own w Rn w') : Own W (Rn ++ R) w' := by
  obtain ⟨hb', fp', hh', hn', hl'⟩ := hn
  refine upd (R1 := []) (R1' := Rn) h hb'.os hb'.tape hb'.output hb'.size (fun fp hfp _ => ⟨fun b hb _ => hb'.block b hb, fp', hh', hn', fun b hb => .inr (hl' b hb)⟩)

theorem call1 {r : Ds} (h : Own W R w) (hn : Own w [r] w') : Own W (r :: R) w' := h.call hn
theorem call2 {r s : Ds} (h : Own W R w) (hn : Own w [r, s] w') : Own W (r :: s :: R) w' := h.call hn

theorem of_below (h : Own W R w) (hb : Below w.heap.size w w') : Own W R w' :=
  call (Rn := []) h ⟨hb, [], rfl, List.nodup_nil, fun _ h => by cases h⟩

theorem drewN (h : Own W R w) (n : Nat) : Own W R (w.drewN n) := h.of_below ⟨rfl, rfl, rfl, Nat.le_refl _, fun _ _ => rfl⟩
theorem drew (h : Own W R w) : Own W R w.drew := h.of_below ⟨rfl, rfl, rfl, Nat.le_refl _, fun _ _ => rfl⟩

/-- A block that nobody needs. -/
theorem alloc (h : Own W R w) (o : Obj) : Own W R (w.alloc o) := h.of_below ((Below.refl _ _).alloc (Nat.le_refl _) o)

theorem box {b : Nat} (h : Own W R w) (cs : List Value) (t : TypeId) (hb : w.heap.size = b := by first | rfl | simp) : Own W (.box b t cs :: R) (w.alloc (.cells cs.toArray t)) := by
  subst hb
  exact call (Rn := [.box w.heap.size t cs]) h ⟨(Below.refl _ _).alloc (Nat.le_refl _) _, [w.heap.size], ⟨[w.heap.size], [], rfl, ⟨rfl, heap_alloc_new w _⟩, rfl⟩, by simp, by simp⟩

theorem box0 (h : Own W R w) (cs : List Value) (t : TypeId) : Own W (.box w.heap.size t cs :: R) (w.alloc (.cells cs.toArray t)) := h.box cs t rfl

theorem set {b t : Nat} {cs : List Value} (h : Own W (.box b t cs :: R) w) (j : Nat) (u : Value) : Own W (.box b t (cs.set j u) :: R) (w.setCell ⟨b, j, none⟩ u) := by
  refine upd (R1 := [.box b t cs]) (R1' := [.box b t (cs.set j u)]) h rfl rfl rfl (by simp [World.setCell]) ?_
  rintro fp ⟨f, g, rfl, ⟨rfl, hh⟩, rfl⟩ _
  refine ⟨fun k _ hk => Below.heap_setCell _ _ _ _ (fun e => hk (by simp [e])), [b], ⟨[b], [], rfl, ⟨rfl, ?_⟩, rfl⟩, by simp, fun x hx => .inl (by simpa using hx)⟩
  simp only [World.setCell, Array.getElem?_modify, hh, Option.map_some]
  simp [List.setIfInBounds_toArray]

theorem rd {α : Type} [Cd α] [Ty α] {v : Value} {xs : List α} (i : Nat) (hi : R[i]? = some (.own v xs)) (h : Own W R w) : Rd w v xs := by
  obtain ⟨_, fp, ⟨f, g, _, hr, _⟩, _⟩ := h.pick i hi
  exact Dp.rd hr

theorem old {α : Type} [Cd α] {v : Value} {xs : List α} (h : Own W R w) (hv : Rd W v xs) : Rd w v xs := hv.low h.1.block

/-- What the boxes hold. -/
def Cells (w : World) (b : Nat) : Nat → List Value → Prop
  | _, [] => True
  | k, c :: cs => w.cell? ⟨b, k, none⟩ = some c ∧ Cells w b (k + 1) cs
def Facts (w : World) : List Ds → Prop
  | [] => True
  | .box b _ cs :: R => (Cells w b 0 cs ∧ (∀ j, w.frozen? ⟨b, j, none⟩ = false) ∧ b < w.heap.size) ∧ Facts w R
  | _ :: R => Facts w R

theorem cells {b t : Nat} {cs : List Value} (hb : w.heap[b]? = some (.cells cs.toArray t (0, 0))) : ∀ (k : Nat) (ds : List Value), cs.drop k = ds → Cells w b k ds
  | _, [], _ => trivial
  | k, d :: ds, h => by
    have hk : cs[k]? = some d := by have := List.getElem?_drop (xs := cs) (i := k) (j := 0); rw [h] at this; simpa using this.symm
    exact ⟨by rw [cell_of_row w b k _ t (0, 0) hb]; simpa using hk, cells hb (k + 1) ds (by rw [← List.drop_drop, h]; rfl)⟩

theorem facts : ∀ {R : List Ds}, Own W R w → Facts w R
  | [], _ => trivial
  | .box b t cs :: R, h => by
    obtain ⟨_, fp, ⟨f, g, _, ⟨_, hb⟩, _⟩, _⟩ := id h
    exact ⟨⟨cells hb 0 cs rfl, fun j => by simp [World.frozen?, hb], (Array.getElem?_eq_some_iff.1 hb).1⟩, facts h.drop⟩
  | @Ds.own _ _ _ _ _ :: R, h => facts (R := R) h.drop
  | @Ds.elt _ _ _ _ :: R, h => facts (R := R) h.drop
  | .any _ _ _ :: R, h => facts (R := R) h.drop
end Own
end Go.Ow
namespace Go.Ow
open Go.RowKit

/-! ### Rows: to and from the library's words -/
section
variable {α : Type} [Cd α]

theorem Dp.row {e : Nat} {w : World} {v : Value} {xs : List α} {fp : List Nat} {base : Nat} (h : Dp e w v xs fp) (hb : ∀ b ∈ fp, base ≤ b) :
    ∃ (css : List (List Value)) (fps : List (List Nat)), w.ownsRow base e (Cd.z α) v xs.length css.flatten ∧ css.length = xs.length ∧ fps.length = xs.length ∧ xs.length ≤ 140737488355328 ∧
      (∀ (i : Nat) (x : α) (cs : List Value) (f : List Nat), xs[i]? = some x → css[i]? = some cs → fps[i]? = some f → Cd.dp w x cs f) ∧ fp = v.ownBlock.toList ++ fps.flatten := by
  rcases h with ⟨rfl, rfl, rfl⟩ | ⟨g, cap, cur, css, fps, rfl, hg, h1, h2, h3, hcs, hl, hlf, ht, hd, rfl⟩
  · exact ⟨[], [], World.ownsRow_nil w base e _, rfl, rfl, Nat.zero_le _, fun i x cs f hx => by simp at hx, rfl⟩
  · have hall : ∀ cs ∈ css, cs.length = Cd.z α := by
      intro cs hcs'
      obtain ⟨k, hk, rfl⟩ := List.getElem_of_mem hcs'
      exact Cd.rd_len (Cd.dp_rd (hd k xs[k] css[k] fps[k] (List.getElem?_eq_getElem (by omega)) (List.getElem?_eq_getElem (by omega)) (List.getElem?_eq_getElem (by omega))))
    exact ⟨css, fps, ⟨by rw [length_flatten hall, hl], .inr ⟨g, cap, cur, rfl, hb g (by simp), hg, h1, h2, hcs, ht⟩⟩, hl, hlf, h3, hd, rfl⟩

theorem row_dp {e : Nat} {w : World} {v : Value} {xs : List α} {base : Nat} {css : List (List Value)} {fps : List (List Nat)} (h : w.ownsRow base e (Cd.z α) v xs.length css.flatten) (hl : css.length = xs.length)
    (hlf : fps.length = xs.length) (hbig : xs.length ≤ 140737488355328) (hd : ∀ (i : Nat) (x : α) (cs : List Value) (f : List Nat), xs[i]? = some x → css[i]? = some cs → fps[i]? = some f → Cd.dp w x cs f) :
    Dp e w v xs (v.ownBlock.toList ++ fps.flatten) := by
  rcases h.2 with ⟨rfl, h0⟩ | ⟨g, cap, cur, rfl, hb, hg, h1, h2, hcs, ht⟩
  · obtain rfl := List.eq_nil_of_length_eq_zero h0
    obtain rfl := List.eq_nil_of_length_eq_zero hlf
    exact .inl ⟨rfl, rfl, rfl⟩
  · exact .inr ⟨g, cap, cur, css, fps, rfl, hg, h1, h2, hbig, hcs, hl, hlf, ht, hd, rfl⟩
end

section
variable {α : Type} [Fl α]
theorem fl_len (x : α) : (Fl.fl x).length = Cd.z α := by
  have h : Cd.rd (default : World) x (Fl.fl x) := Fl.rd_fl.2 rfl
  exact Cd.rd_len h
theorem fl_one (x : α) : ∀ c ∈ Fl.fl x, c.oneCell' = true := by
  have h : Cd.rd (default : World) x (Fl.fl x) := Fl.rd_fl.2 rfl
  exact Cd.rd_one h

theorem css_fl {w : World} {xs : List α} {css : List (List Value)} {fps : List (List Nat)} (hl : css.length = xs.length) (hlf : fps.length = xs.length)
    (hd : ∀ (i : Nat) (x : α) (cs : List Value) (f : List Nat), xs[i]? = some x → css[i]? = some cs → fps[i]? = some f → Cd.dp w x cs f) : css = xs.map Fl.fl ∧ fps.flatten = [] := by
  have key : ∀ i (h : i < xs.length), css[i]'(by omega) = Fl.fl xs[i] ∧ fps[i]'(by omega) = [] := fun i h =>
    Fl.dp_fl.1 (hd i _ _ _ (List.getElem?_eq_getElem h) (List.getElem?_eq_getElem (by omega)) (List.getElem?_eq_getElem (by omega)))
  constructor
  · refine List.ext_getElem (by simp [hl]) (fun i h1 h2 => ?_)
    rw [List.getElem_map]; exact (key i (by omega)).1
  · rw [List.flatten_eq_nil_iff]
    intro f hf
    obtain ⟨k, hk, rfl⟩ := List.getElem_of_mem hf
    exact (key k (by omega)).2

theorem Dp.flat {e : Nat} {w : World} {v : Value} {xs : List α} {fp : List Nat} {base : Nat} (h : Dp e w v xs fp) (hb : ∀ b ∈ fp, base ≤ b) :
    w.ownsRow base e (Cd.z α) v xs.length (xs.map Fl.fl).flatten ∧ xs.length ≤ 140737488355328 ∧ fp = v.ownBlock.toList := by
  obtain ⟨css, fps, h1, h2, h3, h4, h5, h6⟩ := h.row hb
  obtain ⟨rfl, he⟩ := css_fl h2 h3 h5
  exact ⟨h1, h4, by rw [h6, he, List.append_nil]⟩

theorem flat_dp {e : Nat} {w : World} {v : Value} {xs : List α} {base : Nat} (h : w.ownsRow base e (Cd.z α) v xs.length (xs.map Fl.fl).flatten) (hbig : xs.length ≤ 140737488355328) : Dp e w v xs v.ownBlock.toList := by
  have := row_dp (fps := List.replicate xs.length []) h (by simp) (by simp) hbig (fun i x cs f hx hc hf => by
    rw [List.getElem?_map, hx] at hc
    simp only [Option.map_some, Option.some.injEq] at hc
    subst hc
    rw [List.getElem?_replicate] at hf
    split at hf
    · simp at hf; subst hf; exact Fl.dp_fl.2 ⟨rfl, rfl⟩
    · cases hf)
  rwa [show (List.replicate xs.length ([] : List Nat)).flatten = [] by rw [List.flatten_eq_nil_iff]; intro f hf; exact (List.mem_replicate.1 hf).2, List.append_nil] at this
end

/-- What the program says of an element's type. -/
class El (P : Program) (α : Type) [Cd α] [Ty α] where
  bytes : Nat
  info : ∃ i z, P.info? (Ty.id α) = some i ∧ i.zero = some z ∧ i.size = Cd.z α ∧ i.bytes = bytes ∧ z.cells.size = Cd.z α

theorem El.of {P : Program} {α : Type} [Cd α] [Ty α] {b : Nat} (h : (P.info? (Ty.id α)).map (fun i => (i.zero.map (fun z => z.cells.size), i.size, i.bytes)) = some (some (Cd.z α), Cd.z α, b)) :
    ∃ i z, P.info? (Ty.id α) = some i ∧ i.zero = some z ∧ i.size = Cd.z α ∧ i.bytes = b ∧ z.cells.size = Cd.z α := by
  obtain ⟨i, hi, h⟩ := Option.map_eq_some_iff.1 h
  simp only [Prod.mk.injEq, Option.map_eq_some_iff] at h
  obtain ⟨⟨z, hz, hzs⟩, h1, h2⟩ := h
  exact ⟨i, z, hi, hz, h1, h2, hzs⟩

section
variable {P : Program} {ops : Array Oper} {rest : List Oper} {o : Oper} {a : Act} {Q : Exit → Act → World → Prop} {w W : World} {R : List Ds}

theorem Own.grow {w' : World} {v v' : Value} {α : Type} [Fl α] [Ty α] {xs ys : List α} {base : Nat} (HS : Own W (.own v xs :: R) w) (h1 : w'.ownsRow base (Ty.id α) (Cd.z α) v' ys.length (ys.map Fl.fl).flatten) (hl : ys.length ≤ 140737488355328)
    (hg : w.grownBy w' v.ownBlock) (hv : ∀ k, v'.ownBlock = some k → v.ownBlock = some k ∨ w.heap.size ≤ k) : Own W (.own v' ys :: R) w' := by
  refine Own.upd (R1 := [.own v xs]) (R1' := [.own v' ys]) HS hg.os hg.tape hg.output hg.size ?_
  rintro fp ⟨f, g, rfl, hr, rfl⟩ hn
  obtain ⟨hrow, _, hf⟩ := Dp.flat (base := 0) hr (fun _ _ => Nat.zero_le _)
  subst hf
  refine ⟨fun b hb hbn => hg.block b hb (fun e => hbn ?_), v'.ownBlock.toList, ⟨v'.ownBlock.toList, [], by simp, flat_dp h1 hl, rfl⟩, ?_, fun b hb => ?_⟩
  · rw [← e]; simp
  · cases v'.ownBlock <;> simp
  · have hb' : v'.ownBlock = some b := by
      cases h : v'.ownBlock with
      | none => rw [h] at hb; cases hb
      | some k => rw [h] at hb; simp at hb; rw [hb]
    rcases hv b hb' with h | h
    · left; rw [h]; simp
    · exact .inr h

theorem news_of {α : Type} [Fl α] {b o0 : Nat} {ys : List α} (hy : ∀ i (h : i < ys.length), ∃ cs, Cd.rd w ys[i] cs ∧ ∀ j, j < Cd.z α → w.cell? ⟨b, o0 + i * Cd.z α + j, none⟩ = cs[j]?) :
    ∀ j u, (ys.map Fl.fl).flatten[j]? = some u → w.cell? ((⟨b, o0, none⟩ : Addr).add j) = some u := by
  intro j u hu
  have hall : ∀ cs ∈ ys.map Fl.fl, cs.length = Cd.z α := by
    intro cs hcs
    obtain ⟨y, _, rfl⟩ := List.mem_map.1 hcs
    exact fl_len y
  have hz := Cd.zpos (α := α)
  have hjl : j < (ys.map Fl.fl).flatten.length := (List.getElem?_eq_some_iff.1 hu).1
  rw [length_flatten hall, List.length_map] at hjl
  have hi : j / Cd.z α < ys.length := Nat.div_lt_of_lt_mul (by rwa [Nat.mul_comm])
  have hj : j % Cd.z α < Cd.z α := Nat.mod_lt _ hz
  have hsp : j / Cd.z α * Cd.z α + j % Cd.z α = j := by rw [Nat.mul_comm]; exact Nat.div_add_mod j _
  obtain ⟨cs, hr, hc⟩ := hy _ hi
  have e := flatten_at hall (i := j / Cd.z α) (cs := Fl.fl ys[j / Cd.z α]) (by rw [List.getElem?_map, List.getElem?_eq_getElem hi]; rfl) hj
  rw [hsp, hu] at e
  have := hc _ hj
  rw [Fl.rd_fl.1 hr, ← e, Nat.add_assoc, hsp] at this
  rw [← this]
  congr 1
  unfold Addr.add
  split <;> simp_all

theorem one_flat {α : Type} [Fl α] (ys : List α) : ∀ u ∈ (ys.map Fl.fl).flatten, u.oneCell' = true := by
  intro u hu
  obtain ⟨cs, hcs, hu⟩ := List.mem_flatten.1 hu
  obtain ⟨y, _, rfl⟩ := List.mem_map.1 hcs
  exact fl_one y u hu
theorem len_flat {α : Type} [Fl α] (ys : List α) : (ys.map Fl.fl).flatten.length = ys.length * Cd.z α := by
  rw [length_flatten (k := Cd.z α) (by intro cs hcs; obtain ⟨y, _, rfl⟩ := List.mem_map.1 hcs; exact fl_len y), List.length_map]

theorem wp_app {α : Type} [Fl α] [Ty α] [El P α] (hgd : o.guard = none) (s x : Operand) (t : TypeId) (ho : o.op = .call { callee := .builtin .append, args := #[s, x], argTypes := #[t, t] })
    (ht : P.underlying t = some (.slice (Ty.id α))) (v : Value) (xs : List α) (HS : Own W (.own v xs :: R) w) (hs : a.eval s = v) (vy : Value) (ys : List α) (hx : a.eval x = vy) (hy : Rd w vy ys)
    (hlen : (xs.length + ys.length) * El.bytes P α ≤ 140737488355328) (hl2 : xs.length + ys.length ≤ 140737488355328)
    (h : ∀ v' w', Own W (.own v' (xs ++ ys) :: R) w' → wpList P ops Q rest (a.put o.dst v') w') : wpList P ops Q (o :: rest) a w := by
  obtain ⟨i, z, hi, hz, h1, h2, h3⟩ := El.info (P := P) (α := α)
  obtain ⟨_, fp, ⟨f, g, hfp, hr, hR⟩, hn, hlow⟩ := id HS
  obtain ⟨hrow, hbig, hf⟩ := Dp.flat (base := 0) hr (fun _ _ => Nat.zero_le _)
  obtain ⟨A, c, rfl, hy1, hy2, hy3, hA, hy4⟩ := hy
  cases A with
  | none =>
    obtain rfl := hA rfl
    obtain rfl : ys = [] := List.eq_nil_of_length_eq_zero (by omega)
    refine wpList_append_own_none hgd s x t ho 0 (Ty.id α) i (Cd.z α) ht hi v xs.length _ hs hrow hx (h v w ?_)
    rw [List.append_nil]; exact HS
  | some ad =>
    have hnews : ∀ j u, (ys.map Fl.fl).flatten[j]? = some u → w.cell? (ad.add j) = some u := by
      cases ys with
      | nil => intro j u hu; simp at hu
      | cons y ys =>
        obtain ⟨b, o0, _, hab, _, _⟩ := hy4 0 (by simp)
        obtain rfl := Option.some.inj hab
        refine news_of (fun k hk => ?_)
        obtain ⟨b', o', cs, hab', hr', hc'⟩ := hy4 k hk
        obtain ⟨rfl, rfl⟩ : b = b' ∧ o0 = o' := by simpa using hab'
        exact ⟨cs, hr', hc'⟩
    refine wpList_plain hgd fun K hK => ?_
    obtain ⟨v', w', hrun, h4, h5, _, h7⟩ := run_append_own_at (P := P) w 0 t o.type (Ty.id α) i z (Cd.z α) (El.bytes P α) ht hi hz h1 h2 h3 Cd.zpos v xs.length _ hrow ad ys.length c _ (len_flat ys) hnews (one_flat ys) (by simp only [maxLen] at *; omega) hlen (Nat.zero_le _)
    unfold Oper.wp execOp
    simp only [ho, resolve, invoke, builtin, Sem.run_bind, Sem.run_pure, Result.andThen_ok, List.map_toArray, List.map_cons, List.map_nil, hs, hx, hrun]
    refine hK _ _ (h v' w' (HS.grow (by rw [List.length_append, List.map_append, List.flatten_append]; exact h4) (by rw [List.length_append]; exact hl2) h5 ?_))
    intro k hk
    rcases h7 with h7 | h7
    · exact .inl (h7 ▸ hk)
    · rw [h7] at hk; simp at hk; exact .inr (by omega)

theorem Own.lit {α : Type} [Fl α] [Ty α] (HS : Own W R w) (xs : List α) (cs : Array Value) (t : TypeId) (ht : t = Ty.id α) (hcs : cs.toList = (xs.map Fl.fl).flatten) (hl : xs.length ≤ 140737488355328) :
    Own W (.own (.slice (some ⟨w.heap.size, 0, none⟩) xs.length xs.length) xs :: R) (w.alloc (.cells cs t)) := by
  subst ht
  have hrow : (w.alloc (.cells cs (Ty.id α))).ownsRow 0 (Ty.id α) (Cd.z α) (.slice (some ⟨w.heap.size, 0, none⟩) xs.length xs.length) xs.length (xs.map Fl.fl).flatten := by
    rw [← hcs]
    exact World.ownsRow_lit w cs xs.length (Nat.zero_le _) (by simp only [maxLen] at *; omega) (by rw [← Array.length_toList, hcs, len_flat])
  exact Own.call (Rn := [.own _ xs]) HS ⟨(Below.refl _ _).alloc (Nat.le_refl _) _, [w.heap.size], ⟨[w.heap.size], [], rfl, flat_dp hrow hl, rfl⟩, by simp, by simp⟩

/-- What stands at a place of a slice that is read. -/
theorem Rd.at_ {α : Type} [Fl α] {v : Value} {xs : List α} (h : Rd w v xs) (i : Nat) (hi : i < xs.length) :
    ∃ b o c, v = .slice (some ⟨b, o, none⟩) xs.length c ∧ ∀ j, j < Cd.z α → w.cell? ⟨b, o + i * Cd.z α + j, none⟩ = (Fl.fl xs[i])[j]? := by
  obtain ⟨A, c, rfl, _, _, _, _, h4⟩ := h
  obtain ⟨b, o, cs, rfl, hr, hc⟩ := h4 i hi
  exact ⟨b, o, c, rfl, fun j hj => by rw [hc j hj, Fl.rd_fl.1 hr]⟩

/-- The same once the address is known. -/
theorem Rd.get {α : Type} [Fl α] {b o c n : Nat} {xs : List α} (h : Rd w (.slice (some ⟨b, o, none⟩) n c) xs) (i : Nat) (hi : i < xs.length) (j : Nat) (hj : j < Cd.z α) :
    w.cell? ⟨b, o + i * Cd.z α + j, none⟩ = (Fl.fl xs[i])[j]? := by
  obtain ⟨b', o', c', he, h'⟩ := h.at_ i hi
  injection he with he _ _
  injection he with he
  injection he with h1 h2
  subst h1 h2
  exact h' j hj
theorem Rd.len {α : Type} [Cd α] {A : Option Addr} {n c : Nat} {xs : List α} (h : Rd w (.slice A n c) xs) : n = xs.length := by
  obtain ⟨_, _, he, _⟩ := h
  injection he
theorem Rd.some {α : Type} [Cd α] {v : Value} {xs : List α} (h : Rd w v xs) (hx : 0 < xs.length) : ∃ b o c, v = .slice (some ⟨b, o, none⟩) xs.length c ∧ xs.length ≤ c := by
  obtain ⟨A, c, rfl, h1, _, _, _, h4⟩ := h
  obtain ⟨b, o, cs, rfl, _⟩ := h4 0 hx
  exact ⟨b, o, c, rfl, h1⟩
theorem Rd.fix {α : Type} [Cd α] {A : Option Addr} {n c : Nat} {xs : List α} (h : Rd w (.slice A n c) xs) (hx : 0 < xs.length) : ∃ b o, A = Option.some ⟨b, o, none⟩ := by
  obtain ⟨A', c', he, _, _, _, _, h4⟩ := h
  obtain ⟨b, o, cs, rfl, _⟩ := h4 0 hx
  injection he with he _ _
  exact ⟨b, o, he⟩
theorem Rd.val {α : Type} [Cd α] {v : Value} {xs : List α} (h : Rd w v xs) : ∃ A c, v = .slice A xs.length c ∧ xs.length ≤ c ∧ xs.length ≤ 140737488355328 := by
  obtain ⟨A, c, rfl, h1, _, h3, _⟩ := h
  exact ⟨A, c, rfl, h1, h3⟩

/-- The row that v is. -/
theorem Own.row {α : Type} [Fl α] [Ty α] {v : Value} {xs : List α} (h : Own W (.own v xs :: R) w) (hx : 0 < xs.length) :
    ∃ g cap, v = .slice (Option.some ⟨g, 0, none⟩) xs.length cap ∧ xs.length ≤ cap ∧ (∀ i (hi : i < xs.length) j, j < Cd.z α → w.cell? ⟨g, i * Cd.z α + j, none⟩ = (Fl.fl xs[i])[j]?) ∧ (∀ j, w.frozen? ⟨g, j, none⟩ = false) := by
  have hr := h.rd 0 rfl
  obtain ⟨_, fp, ⟨f, g, _, hd, _⟩, _⟩ := h
  rcases hd with ⟨_, rfl, _⟩ | ⟨b, cap, cur, css, fps, rfl, hg, h1, _⟩
  · simp at hx
  · refine ⟨b, cap, rfl, h1, fun i hi j hj => ?_, fun j => by simp [World.frozen?, hg]⟩
    have := hr.get i hi j hj
    rwa [Nat.zero_add] at this

/-- Its cells, the address known. -/
theorem Own.rowc {α : Type} [Fl α] [Ty α] {g n cap : Nat} {xs : List α} (h : Own W (.own (.slice (Option.some ⟨g, 0, none⟩) n cap) xs :: R) w) :
    (∀ i (hi : i < xs.length) j, j < Cd.z α → w.cell? ⟨g, i * Cd.z α + j, none⟩ = (Fl.fl xs[i])[j]?) ∧ (∀ j, w.frozen? ⟨g, j, none⟩ = false) := by
  refine ⟨fun i hi => ?_, ?_⟩
  · obtain ⟨g', cap', he, _, h1, _⟩ := h.row (by omega)
    injection he with he _ _
    injection he with he
    injection he with he _ _
    subst he
    exact h1 i hi
  · obtain ⟨_, fp, ⟨f, _, _, hd, _⟩, _⟩ := h
    rcases hd with ⟨he, _⟩ | ⟨b, cap', cur, css, fps, he, hg, _⟩
    · injection he with he; cases he
    · injection he with he _ _
      injection he with he
      injection he with he _ _
      subst he
      exact fun j => by simp [World.frozen?, hg]

theorem flat_set {α : Type} [Fl α] (xs : List α) (i : Nat) (hi : i < xs.length) (x : α) (j : Nat) (hj : j < Cd.z α) (u : Value) (hx : Fl.fl x = (Fl.fl xs[i]).set j u) :
    ((xs.set i x).map Fl.fl).flatten = ((xs.map Fl.fl).flatten).set (i * Cd.z α + j) u := by
  induction xs generalizing i with
  | nil => simp at hi
  | cons y ys ih =>
    have hy := fl_len y
    cases i with
    | zero =>
      simp only [List.set_cons_zero, List.map_cons, List.flatten_cons, Nat.zero_mul, Nat.zero_add, List.getElem_cons_zero] at hx ⊢
      rw [hx, List.set_append_left _ _ (by omega)]
    | succ i =>
      simp only [List.set_cons_succ, List.map_cons, List.flatten_cons, List.getElem_cons_succ] at hx ⊢
      rw [ih i (by simpa using hi) hx, List.set_append_right _ _ (by rw [hy, Nat.succ_mul]; omega), show (i + 1) * Cd.z α + j - (Fl.fl y).length = i * Cd.z α + j by rw [hy, Nat.succ_mul]; omega]

/-- One cell of a row is written. -/
theorem Own.put {α : Type} [Fl α] [Ty α] {g n cap : Nat} {xs : List α} (h : Own W (.own (.slice (Option.some ⟨g, 0, none⟩) n cap) xs :: R) w) (i : Nat) (hi : i < xs.length) (j : Nat) (hj : j < Cd.z α) (u : Value) (x : α) (hx : Fl.fl x = (Fl.fl xs[i]).set j u) :
    Own W (.own (.slice (Option.some ⟨g, 0, none⟩) n cap) (xs.set i x) :: R) (w.setCell ⟨g, i * Cd.z α + j, none⟩ u) := by
  have hn : n = xs.length := (h.rd 0 rfl).len
  subst hn
  obtain ⟨_, fp, ⟨f, g', _, hd, _⟩, _⟩ := id h
  obtain ⟨hrow, hbig, _⟩ := Dp.flat (base := 0) hd (fun _ _ => Nat.zero_le _)
  obtain ⟨hrow', hgr⟩ := hrow.stored (i * Cd.z α + j) u
  have := Own.grow (ys := xs.set i x) h (v' := .slice (Option.some ⟨g, 0, none⟩) xs.length cap) (w' := w.setCell ⟨g, i * Cd.z α + j, none⟩ u) (base := 0) (by rw [List.length_set, flat_set xs i hi x j hj u hx]; exact hrow') (by rw [List.length_set]; exact hbig) hgr (fun k hk => .inl hk)
  exact this

class ElZ (P : Program) (α : Type) [Fl α] [Ty α] extends El P α where
  zero : α
  infoz : ∃ i z, P.info? (Ty.id α) = Option.some i ∧ i.zero = Option.some z ∧ i.size = Cd.z α ∧ i.bytes = bytes ∧ z.cells.toList = Fl.fl zero

theorem ElZ.of {P : Program} {α : Type} [Fl α] [Ty α] {b : Nat} {x : α} (h : (P.info? (Ty.id α)).map (fun i => (i.zero.map (fun z => z.cells.toList), i.size, i.bytes)) = Option.some (Option.some (Fl.fl x), Cd.z α, b)) :
    ∃ i z, P.info? (Ty.id α) = Option.some i ∧ i.zero = Option.some z ∧ i.size = Cd.z α ∧ i.bytes = b ∧ z.cells.toList = Fl.fl x := by
  obtain ⟨i, hi, h⟩ := Option.map_eq_some_iff.1 h
  simp only [Prod.mk.injEq, Option.map_eq_some_iff] at h
  obtain ⟨⟨z, hz, hzs⟩, h1, h2⟩ := h
  exact ⟨i, z, hi, hz, h1, h2, hzs⟩
theorem made_flat {α : Type} [Fl α] (x : α) (z : Array Value) (hz : z.toList = Fl.fl x) (n : Nat) : (madeCells z (n * Cd.z α)).toList = ((List.replicate n x).map Fl.fl).flatten := by
  have hs : z.size = Cd.z α := by rw [← Array.length_toList, hz, fl_len]
  have hl := len_flat (List.replicate n x)
  rw [List.length_replicate] at hl
  refine List.ext_getElem (by rw [hl]; simp [madeCells]) (fun k h1 h2 => ?_)
  rw [hl] at h2
  have hp := Cd.zpos (α := α)
  have hj : k % Cd.z α < Cd.z α := Nat.mod_lt _ hp
  have hi : k / Cd.z α < n := Nat.div_lt_of_lt_mul (by rwa [Nat.mul_comm])
  have e := flatten_at (css := (List.replicate n x).map Fl.fl) (k := Cd.z α) (fun cs hcs => by obtain ⟨y, _, rfl⟩ := List.mem_map.1 hcs; exact fl_len y) (i := k / Cd.z α) (cs := Fl.fl x) (by simp [hi]) hj
  rw [Nat.mul_comm, Nat.div_add_mod] at e
  rw [List.getElem?_eq_getElem (by rw [hl]; exact h2), ← hz, List.getElem?_eq_getElem (by rw [Array.length_toList, hs]; exact hj)] at e
  rw [Option.some.inj e]
  simp only [madeCells, Array.toList_map, Array.toList_range, List.getElem_map, List.getElem_range, hs]
  rw [getElem!_pos z _ (by rw [hs]; exact hj)]
  simp

theorem wp_make {α : Type} [Fl α] [Ty α] [ElZ P α] (hgd : o.guard = none) (l c : Operand) (t : TypeId) (hop : o.op = Op.makeSlice t l c) (ht : P.underlying t = Option.some (.slice (Ty.id α))) (HS : Own W R w)
    (kl kc : IntKind) (L C : Int) (n : Nat) (hl : a.eval l = .int kl L) (hc : a.eval c = .int kc C) (hL : L = (n : Int)) (hC : C = (n : Int)) (hb : El.bytes P α * n ≤ 281474976710656) (hn : n ≤ 140737488355328)
    (h : ∀ w', Own W (.own (.slice (Option.some ⟨w.heap.size, 0, none⟩) n n) (List.replicate n (ElZ.zero P : α)) :: R) w' → wpList P ops Q rest (a.put o.dst (.slice (Option.some ⟨w.heap.size, 0, none⟩) n n)) w') : wpList P ops Q (o :: rest) a w := by
  obtain ⟨i, z, hi, hz, h1, h2, h3⟩ := ElZ.infoz (P := P) (α := α)
  refine wpList_make_full w hgd l c t hop 0 (Ty.id α) i z (Cd.z α) ht hi hz h1 kl kc L C n hl hc hL hC (by rw [h2]; exact hb) (by simp only [maxLen]; omega) (Nat.zero_le _) (fun w' hrow hg => h w' ?_)
  rw [made_flat (ElZ.zero P : α) z.cells h3] at hrow
  have hrow2 : w'.ownsRow 0 (Ty.id α) (Cd.z α) (.slice (Option.some ⟨w.heap.size, 0, none⟩) n n) (List.replicate n (ElZ.zero P : α)).length ((List.replicate n (ElZ.zero P : α)).map Fl.fl).flatten := by rw [List.length_replicate]; exact hrow
  have hdp := flat_dp hrow2 (by rw [List.length_replicate]; exact hn)
  exact Own.call (Rn := [.own _ _]) HS ⟨⟨hg.os, hg.tape, hg.output, hg.size, fun k hk => hg.block k hk (by simp)⟩, [w.heap.size], ⟨[w.heap.size], [], rfl, hdp, rfl⟩, by simp, by simp⟩
end
end Go.Ow
