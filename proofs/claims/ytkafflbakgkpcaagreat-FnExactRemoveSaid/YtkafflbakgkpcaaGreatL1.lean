/- The own library, part 1: Ow Pu Hp Hl Ap Aw Cr Cv Dc Lf Lm Pf Df Dr Gz Mp Mq Md Mr Mi Lw Na Rn1 St. -/
import Derived.Below
import Derived.Deep.Draws
import Derived.Deep.AppendLies
import Derived.Maps.AppendAt
import Derived.Laws.AppendOwnNone
import Derived.OwnWalk
import Derived.Laws.BytesArg
import Derived.Laws.MakeOwn
import Derived.Laws.OwnMore
import Derived.Deep.OwnRows
import Derived.Tactics
import Derived.Lib.ConvBytes
import Derived.Laws.Slices
import Derived.WalkKit
import Derived.KernelRfl
import Derived.RowKit3
import Derived.Deep.LoopGhost
import Derived.Deep.QuietTactic
import Derived.BigQuiet
import Derived.WideLaws
import Derived.WalkLawsBesides
import Derived.WalkSpells
import Derived.Lib.Hide
import Derived.Deep.RegionHeld3
import Derived.Outline
import Derived.Laws.BitsAllLaws
import Derived.Laws.IdiomStrings
import Derived.Lib.BufferRead
import Derived.ChangeArms
import Derived.DataReads
import Derived.ProofKit
import Derived.OpenShut
import Derived.ShutString
import Derived.ChangeOld
import Derived.SizedLaws
import Derived.Lib.AppendZerosOnto
import Derived.MapKept
import Derived.Laws.StructEq
import Derived.Maps.RangeRun
import Derived.Lib.AppendStr

/- Memory in lists: what a call owns, what it reads. Plain lemmas over the model; no program. -/
namespace Go.Ow
set_option linter.unusedSimpArgs false
set_option linter.unusedVariables false
open Go.RowKit

/-- These blocks stand as they stood. -/
def Same (w w' : World) (fp : List Nat) : Prop := ∀ b ∈ fp, w'.heap[b]? = w.heap[b]?

/-- How a value of a type lies in cells: what is read, what is owned with the blocks that it takes. -/
class Cd (α : Type) where
  z : Nat
  zpos : 0 < z
  rd : World → α → List Value → Prop
  dp : World → α → List Value → List Nat → Prop
  rd_len : ∀ {w x cs}, rd w x cs → cs.length = z
  rd_one : ∀ {w x cs}, rd w x cs → ∀ c ∈ cs, c.oneCell' = true
  rd_low : ∀ {w w' x cs}, rd w x cs → (∀ b, b < w.heap.size → w'.heap[b]? = w.heap[b]?) → rd w' x cs
  dp_rd : ∀ {w x cs fp}, dp w x cs fp → rd w x cs
  dp_loc : ∀ {w w' x cs fp}, dp w x cs fp → Same w w' fp → dp w' x cs fp
  dp_lt : ∀ {w x cs fp}, dp w x cs fp → ∀ b ∈ fp, b < w.heap.size

/-- The number of the type in the program. -/
class Ty (α : Type) where
  id : Nat

/-- A type whose cells say all. -/
class Fl (α : Type) extends Cd α where
  fl : α → List Value
  rd_fl : ∀ {w x cs}, rd w x cs ↔ cs = fl x
  dp_fl : ∀ {w x cs fp}, dp w x cs fp ↔ cs = fl x ∧ fp = []

@[reducible] def Fl.scalar {α : Type} (enc : α → Value) (h : ∀ x, (enc x).oneCell' = true) : Fl α where
  z := 1
  zpos := Nat.one_pos
  rd _ x cs := cs = [enc x]
  dp _ x cs fp := cs = [enc x] ∧ fp = []
  rd_len := by rintro _ _ _ rfl; rfl
  rd_one := by rintro _ x _ rfl c hc; simp at hc; subst hc; exact h x
  rd_low := by rintro _ _ _ _ rfl _; rfl
  dp_rd := fun h => h.1
  dp_loc := fun h _ => h
  dp_lt := by rintro _ _ _ _ ⟨_, rfl⟩ b hb; cases hb
  fl x := [enc x]
  rd_fl := Iff.rfl
  dp_fl := Iff.rfl

instance : Fl Int := Fl.scalar (Value.int .i64) (fun _ => rfl)
instance : Fl UInt8 := Fl.scalar (fun b => Value.int .u8 (b.toNat : Int)) (fun _ => rfl)
instance : Fl Bool := Fl.scalar Value.bool (fun _ => rfl)
instance : Fl ByteArray := Fl.scalar Value.string (fun _ => rfl)

instance Cd.pair {α β : Type} [Cd α] [Cd β] : Cd (α × β) where
  z := Cd.z α + Cd.z β
  zpos := by have := Cd.zpos (α := α); omega
  rd w p cs := ∃ a b, cs = a ++ b ∧ Cd.rd w p.1 a ∧ Cd.rd w p.2 b
  dp w p cs fp := ∃ a b f g, cs = a ++ b ∧ fp = f ++ g ∧ Cd.dp w p.1 a f ∧ Cd.dp w p.2 b g
  rd_len := by rintro _ _ _ ⟨a, b, rfl, ha, hb⟩; rw [List.length_append, Cd.rd_len ha, Cd.rd_len hb]
  rd_one := by
    rintro _ _ _ ⟨a, b, rfl, ha, hb⟩ c hc
    rcases List.mem_append.1 hc with h | h
    · exact Cd.rd_one ha c h
    · exact Cd.rd_one hb c h
  rd_low := by rintro _ _ _ _ ⟨a, b, rfl, ha, hb⟩ h; exact ⟨a, b, rfl, Cd.rd_low ha h, Cd.rd_low hb h⟩
  dp_rd := by rintro _ _ _ _ ⟨a, b, f, g, rfl, _, ha, hb⟩; exact ⟨a, b, rfl, Cd.dp_rd ha, Cd.dp_rd hb⟩
  dp_loc := by
    rintro _ _ _ _ _ ⟨a, b, f, g, rfl, rfl, ha, hb⟩ h
    exact ⟨a, b, f, g, rfl, rfl, Cd.dp_loc ha (fun x hx => h x (List.mem_append_left _ hx)), Cd.dp_loc hb (fun x hx => h x (List.mem_append_right _ hx))⟩
  dp_lt := by
    rintro _ _ _ _ ⟨a, b, f, g, _, rfl, ha, hb⟩ x hx
    rcases List.mem_append.1 hx with h | h
    · exact Cd.dp_lt ha x h
    · exact Cd.dp_lt hb x h

instance Fl.pair {α β : Type} [Fl α] [Fl β] : Fl (α × β) where
  fl p := Fl.fl p.1 ++ Fl.fl p.2
  rd_fl := by
    intro w x cs
    constructor
    · rintro ⟨a, b, rfl, ha, hb⟩; rw [Fl.rd_fl.1 ha, Fl.rd_fl.1 hb]
    · rintro rfl; exact ⟨_, _, rfl, Fl.rd_fl.2 rfl, Fl.rd_fl.2 rfl⟩
  dp_fl := by
    intro w x cs fp
    constructor
    · rintro ⟨a, b, f, g, rfl, rfl, ha, hb⟩
      obtain ⟨rfl, rfl⟩ := Fl.dp_fl.1 ha
      obtain ⟨rfl, rfl⟩ := Fl.dp_fl.1 hb
      exact ⟨rfl, rfl⟩
    · rintro ⟨rfl, rfl⟩; exact ⟨_, _, [], [], rfl, rfl, Fl.dp_fl.2 ⟨rfl, rfl⟩, Fl.dp_fl.2 ⟨rfl, rfl⟩⟩

/-- A type told by another one. -/
@[reducible] def Cd.iso {α β : Type} [Cd α] (f : β → α) : Cd β where
  z := Cd.z α
  zpos := Cd.zpos
  rd w x := Cd.rd w (f x)
  dp w x := Cd.dp w (f x)
  rd_len := Cd.rd_len
  rd_one := Cd.rd_one
  rd_low := Cd.rd_low
  dp_rd := Cd.dp_rd
  dp_loc := Cd.dp_loc
  dp_lt := Cd.dp_lt

@[reducible] def Fl.iso {α β : Type} [Fl α] (f : β → α) : Fl β where
  toCd := Cd.iso f
  fl x := Fl.fl (f x)
  rd_fl := Fl.rd_fl
  dp_fl := Fl.dp_fl

/-! ### Slices -/

section
variable {α : Type} [Cd α]

/-- v reads as xs in w. -/
def Rd (w : World) (v : Value) (xs : List α) : Prop :=
  ∃ A c, v = .slice A xs.length c ∧ xs.length ≤ c ∧ c ≤ maxLen ∧ xs.length ≤ 140737488355328 ∧ (A = none → c = 0) ∧
    ∀ i (h : i < xs.length), ∃ b o cs, A = some ⟨b, o, none⟩ ∧ Cd.rd w xs[i] cs ∧ ∀ j, j < Cd.z α → w.cell? ⟨b, o + i * Cd.z α + j, none⟩ = cs[j]?

/-- v is xs, deep, and these are its blocks. -/
def Dp (e : Nat) (w : World) (v : Value) (xs : List α) (fp : List Nat) : Prop :=
  (v = .slice none 0 0 ∧ xs = [] ∧ fp = []) ∨
  ∃ (g cap : Nat) (cur : Array Value) (css : List (List Value)) (fps : List (List Nat)), v = .slice (some ⟨g, 0, none⟩) xs.length cap ∧ w.heap[g]? = some (.cells cur e (0, 0)) ∧ xs.length ≤ cap ∧ cap ≤ maxLen ∧ xs.length ≤ 140737488355328 ∧
    cur.size = cap * Cd.z α ∧ css.length = xs.length ∧ fps.length = xs.length ∧ cur.toList.take (xs.length * Cd.z α) = List.flatten css ∧
    (∀ (i : Nat) (x : α) (cs : List Value) (f : List Nat), xs[i]? = some x → css[i]? = some cs → fps[i]? = some f → Cd.dp w x cs f) ∧ fp = g :: List.flatten fps
end

theorem cell_low {w w' : World} {a : Addr} {v : Value} (h : ∀ b, b < w.heap.size → w'.heap[b]? = w.heap[b]?) (hc : w.cell? a = some v) : w'.cell? a = some v :=
  (World.cell?_of_block (h _ (World.block_lt_of_cell? w a hc))).trans hc

/-- What a callee leaves: old cells and marks read as before. -/
theorem bcell {W w1 : World} (hb : Below W.heap.size W w1) : (∀ b o, b < W.heap.size → w1.cell? ⟨b, o, none⟩ = W.cell? ⟨b, o, none⟩) ∧ (∀ b o, b < W.heap.size → w1.frozen? ⟨b, o, none⟩ = W.frozen? ⟨b, o, none⟩) :=
  ⟨fun b o h => hb.cell (p := ⟨b, o, none⟩) h, fun b o h => hb.frozen (p := ⟨b, o, none⟩) h⟩

theorem flatten_at {α : Type} {css : List (List α)} {k : Nat} (hk : ∀ cs ∈ css, cs.length = k) {i : Nat} {cs : List α} (hi : css[i]? = some cs) {j : Nat} (hj : j < k) : css.flatten[i * k + j]? = cs[j]? := by
  induction css generalizing i with
  | nil => simp at hi
  | cons c css ih =>
    have hc := hk c (by simp)
    cases i with
    | zero =>
      simp at hi; subst hi
      simp only [Nat.zero_mul, Nat.zero_add, List.flatten_cons]
      rw [List.getElem?_append_left (by omega)]
    | succ i =>
      simp only [List.getElem?_cons_succ] at hi
      rw [List.flatten_cons, List.getElem?_append_right (by rw [hc, Nat.succ_mul]; omega), show (i + 1) * k + j - c.length = i * k + j by rw [hc, Nat.succ_mul]; omega]
      exact ih (fun cs h => hk cs (by simp [h])) hi

theorem length_flatten {α : Type} {css : List (List α)} {k : Nat} (hk : ∀ cs ∈ css, cs.length = k) : css.flatten.length = css.length * k := by
  induction css with
  | nil => simp
  | cons c css ih => rw [List.flatten_cons, List.length_append, ih (fun cs h => hk cs (by simp [h])), hk c (by simp), List.length_cons, Nat.succ_mul]; omega

section
variable {α : Type} [Cd α]

theorem Rd.low {w w' : World} {v : Value} {xs : List α} (h : Rd w v xs) (hw : ∀ b, b < w.heap.size → w'.heap[b]? = w.heap[b]?) : Rd w' v xs := by
  obtain ⟨A, c, rfl, h1, h2, h3, hA0, h4⟩ := h
  refine ⟨A, c, rfl, h1, h2, h3, hA0, fun i hi => ?_⟩
  obtain ⟨b, o, cs, hA, hr, hc⟩ := h4 i hi
  refine ⟨b, o, cs, hA, Cd.rd_low hr hw, fun j hj => ?_⟩
  have hl := Cd.rd_len hr
  have h0 := hc j hj
  rw [List.getElem?_eq_getElem (by omega)] at h0 ⊢
  exact cell_low hw h0

theorem Rd.alloc {w : World} {v : Value} {xs : List α} (h : Rd w v xs) (o : Obj) : Rd (w.alloc o) v xs := h.low (fun b hb => Below.heap_alloc w o b hb)
theorem Rd.bel {w w' : World} {v : Value} {xs : List α} (h : Rd w v xs) (hb : Below w.heap.size w w') : Rd w' v xs := h.low hb.block

theorem Dp.rd {e : Nat} {w : World} {v : Value} {xs : List α} {fp : List Nat} (h : Dp e w v xs fp) : Rd w v xs := by
  rcases h with ⟨rfl, rfl, rfl⟩ | ⟨g, cap, cur, css, fps, rfl, hg, h1, h2, h3, hcs, hl, hlf, ht, hd, rfl⟩
  · exact ⟨none, 0, rfl, Nat.zero_le _, Nat.zero_le _, Nat.zero_le _, fun _ => rfl, fun i hi => by simp at hi⟩
  · refine ⟨_, cap, rfl, h1, h2, h3, fun h => (by cases h), fun i hi => ?_⟩
    have hx : xs[i]? = some xs[i] := List.getElem?_eq_getElem hi
    have hc : css[i]? = some css[i] := List.getElem?_eq_getElem (by omega)
    have hf : fps[i]? = some fps[i] := List.getElem?_eq_getElem (by omega)
    refine ⟨g, 0, css[i], rfl, Cd.dp_rd (hd i _ _ _ hx hc hf), fun j hj => ?_⟩
    have hall : ∀ cs ∈ css, cs.length = Cd.z α := by
      intro cs hcs'
      obtain ⟨k, hk, rfl⟩ := List.getElem_of_mem hcs'
      exact Cd.rd_len (Cd.dp_rd (hd k xs[k] css[k] fps[k] (List.getElem?_eq_getElem (by omega)) (List.getElem?_eq_getElem (by omega)) (List.getElem?_eq_getElem (by omega))))
    have := flatten_at hall hc hj
    rw [← ht, List.getElem?_take] at this
    have hlt : i * Cd.z α + j < xs.length * Cd.z α := by
      have : (i + 1) * Cd.z α ≤ xs.length * Cd.z α := Nat.mul_le_mul_right _ hi
      rw [Nat.succ_mul] at this; omega
    rw [if_pos hlt] at this
    rw [Nat.zero_add, cell_of_row w g _ cur e (0, 0) hg, ← this]
    simp

theorem Dp.loc {e : Nat} {w w' : World} {v : Value} {xs : List α} {fp : List Nat} (h : Dp e w v xs fp) (hs : Same w w' fp) : Dp e w' v xs fp := by
  rcases h with ⟨rfl, rfl, rfl⟩ | ⟨g, cap, cur, css, fps, rfl, hg, h1, h2, h3, hcs, hl, hlf, ht, hd, rfl⟩
  · exact .inl ⟨rfl, rfl, rfl⟩
  · refine .inr ⟨g, cap, cur, css, fps, rfl, (hs g (by simp)).trans hg, h1, h2, h3, hcs, hl, hlf, ht, fun i x cs f hx hc hf => ?_, rfl⟩
    exact Cd.dp_loc (hd i x cs f hx hc hf) (fun b hb => hs b (List.mem_cons_of_mem _ (List.mem_flatten.2 ⟨f, List.mem_of_getElem? hf, hb⟩)))

theorem Dp.lt {e : Nat} {w : World} {v : Value} {xs : List α} {fp : List Nat} (h : Dp e w v xs fp) : ∀ b ∈ fp, b < w.heap.size := by
  rcases h with ⟨rfl, rfl, rfl⟩ | ⟨g, cap, cur, css, fps, rfl, hg, h1, h2, h3, hcs, hl, hlf, ht, hd, rfl⟩
  · intro b hb; cases hb
  · intro b hb
    rcases List.mem_cons.1 hb with rfl | hb
    · exact (Array.getElem?_eq_some_iff.1 hg).1
    · obtain ⟨f, hf, hbf⟩ := List.mem_flatten.1 hb
      obtain ⟨k, hk, rfl⟩ := List.getElem_of_mem hf
      exact Cd.dp_lt (hd k xs[k] css[k] fps[k] (List.getElem?_eq_getElem (by omega)) (List.getElem?_eq_getElem (by omega)) (List.getElem?_eq_getElem (by omega))) b hbf

theorem Rd.oneCell {w : World} {v : Value} {xs : List α} (h : Rd w v xs) : v.oneCell' = true := by obtain ⟨A, c, rfl, _⟩ := h; rfl
end

/-- A slice as an element or a field. -/
instance Cd.list {α : Type} [Cd α] [Ty α] : Cd (List α) where
  z := 1
  zpos := Nat.one_pos
  rd w xs cs := ∃ v, cs = [v] ∧ Rd w v xs
  dp w xs cs fp := ∃ v, cs = [v] ∧ Dp (Ty.id α) w v xs fp
  rd_len := by rintro _ _ _ ⟨v, rfl, _⟩; rfl
  rd_one := by rintro _ _ _ ⟨v, rfl, h⟩ c hc; simp at hc; subst hc; exact h.oneCell
  rd_low := by rintro _ _ _ _ ⟨v, rfl, h⟩ hw; exact ⟨v, rfl, h.low hw⟩
  dp_rd := by rintro _ _ _ _ ⟨v, rfl, h⟩; exact ⟨v, rfl, h.rd⟩
  dp_loc := by rintro _ _ _ _ _ ⟨v, rfl, h⟩ hs; exact ⟨v, rfl, h.loc hs⟩
  dp_lt := by rintro _ _ _ _ ⟨v, rfl, h⟩; exact h.lt

/-! ### What a call owns -/

inductive Ds : Type 1 where
  | box (b : Nat) (t : TypeId) (cs : List Value)
  | own {α : Type} [ic : Cd α] [it : Ty α] (v : Value) (xs : List α)
  | elt {α : Type} [ic : Cd α] (cs : List Value) (x : α)
  | any (P : World → List Nat → Prop) (hl : ∀ {w w' fp}, P w fp → Same w w' fp → P w' fp) (hlt : ∀ {w fp}, P w fp → ∀ b ∈ fp, b < w.heap.size)

def Ds.P : Ds → World → List Nat → Prop
  | .box b t cs, w, fp => fp = [b] ∧ w.heap[b]? = some (.cells cs.toArray t (0, 0))
  | @Ds.own α ic it v xs, w, fp => @Dp α ic (@Ty.id α it) w v xs fp
  | @Ds.elt α ic cs x, w, fp => @Cd.dp α ic w x cs fp
  | .any P _ _, w, fp => P w fp

theorem Ds.loc {r : Ds} {w w' : World} {fp : List Nat} (h : r.P w fp) (hs : Same w w' fp) : r.P w' fp := by
  cases r with
  | box b t cs => exact ⟨h.1, (hs b (by rw [h.1]; simp)).trans h.2⟩
  | own v xs => exact Dp.loc h hs
  | elt cs x => exact Cd.dp_loc h hs
  | any P hl hlt => exact hl h hs

theorem Ds.lt {r : Ds} {w : World} {fp : List Nat} (h : r.P w fp) : ∀ b ∈ fp, b < w.heap.size := by
  cases r with
  | box b t cs =>
    intro x hx
    rw [h.1] at hx
    simp at hx; subst hx
    exact (Array.getElem?_eq_some_iff.1 h.2).1
  | own v xs => exact Dp.lt h
  | elt cs x => exact Cd.dp_lt h
  | any P hl hlt => exact hlt h

def Holds (w : World) : List Ds → List Nat → Prop
  | [], fp => fp = []
  | r :: R, fp => ∃ f g, fp = f ++ g ∧ r.P w f ∧ Holds w R g

theorem Holds.loc {w w' : World} : ∀ {R : List Ds} {fp : List Nat}, Holds w R fp → Same w w' fp → Holds w' R fp
  | [], _, h, _ => h
  | _ :: _, _, ⟨f, g, e, hr, hR⟩, hs => by
    subst e
    exact ⟨f, g, rfl, Ds.loc hr (fun b hb => hs b (List.mem_append_left _ hb)), Holds.loc hR (fun b hb => hs b (List.mem_append_right _ hb))⟩

theorem Holds.lt {w : World} : ∀ {R : List Ds} {fp : List Nat}, Holds w R fp → ∀ b ∈ fp, b < w.heap.size
  | [], _, h, b, hb => by rw [h] at hb; cases hb
  | _ :: _, _, ⟨f, g, e, hr, hR⟩, b, hb => by
    subst e
    rcases List.mem_append.1 hb with h | h
    · exact Ds.lt hr b h
    · exact Holds.lt hR b h

theorem Holds.append {w : World} : ∀ {R S : List Ds} {fp : List Nat}, Holds w (R ++ S) fp ↔ ∃ f g, fp = f ++ g ∧ Holds w R f ∧ Holds w S g
  | [], S, fp => by
    constructor
    · intro h; exact ⟨[], fp, rfl, rfl, h⟩
    · rintro ⟨f, g, rfl, hf, hg⟩; rw [show f = [] from hf]; exact hg
  | r :: R, S, fp => by
    constructor
    · rintro ⟨f, g, rfl, hr, hR⟩
      obtain ⟨f', g', rfl, h1, h2⟩ := Holds.append.1 hR
      exact ⟨f ++ f', g', by simp, ⟨f, f', rfl, hr, h1⟩, h2⟩
    · rintro ⟨_, g, rfl, ⟨f, f', rfl, hr, h1⟩, h2⟩
      exact ⟨f, f' ++ g, by simp, hr, Holds.append.2 ⟨f', g, rfl, h1, h2⟩⟩

theorem Holds.perm {w : World} {R R' : List Ds} (hp : R.Perm R') : ∀ {fp : List Nat}, Holds w R fp → ∃ fp', fp'.Perm fp ∧ Holds w R' fp' := by
  induction hp with
  | nil => intro fp h; exact ⟨fp, .refl _, h⟩
  | cons x _ ih =>
    rintro fp ⟨f, g, rfl, hr, hR⟩
    obtain ⟨g', hg, h'⟩ := ih hR
    exact ⟨f ++ g', (List.Perm.append_left f hg), f, g', rfl, hr, h'⟩
  | swap x y l =>
    rintro fp ⟨f, _, rfl, hr, ⟨f', g, rfl, hr', hR⟩⟩
    refine ⟨f' ++ (f ++ g), ?_, f', f ++ g, rfl, hr', f, g, rfl, hr, hR⟩
    rw [← List.append_assoc, ← List.append_assoc]
    exact List.Perm.append_right g List.perm_append_comm
  | trans _ _ ih1 ih2 =>
    intro fp h
    obtain ⟨fp1, hp1, h1⟩ := ih1 h
    obtain ⟨fp2, hp2, h2⟩ := ih2 h1
    exact ⟨fp2, hp2.trans hp1, h2⟩

/-- Below W's size all is as in W; from there on the call owns R, each in blocks of its own. -/
def Own (W : World) (R : List Ds) (w : World) : Prop :=
  Below W.heap.size W w ∧ ∃ fp, Holds w R fp ∧ fp.Nodup ∧ ∀ b ∈ fp, W.heap.size ≤ b

namespace Own
set_option linter.unusedSimpArgs false
set_option linter.unusedVariables false
variable {W w w' : World} {R : List Ds}

theorem start (w : World) : Own w [] w := ⟨Below.refl _ _, [], rfl, List.nodup_nil, fun _ h => by cases h⟩

theorem below (h : Own W R w) : Below W.heap.size W w := h.1
theorem size (h : Own W R w) : W.heap.size ≤ w.heap.size := h.1.size

theorem perm {R' : List Ds} (h : Own W R w) (hp : R.Perm R') : Own W R' w := by
  obtain ⟨hb, fp, hh, hn, hl⟩ := h
  obtain ⟨fp', hp', hh'⟩ := hh.perm hp
  exact ⟨hb, fp', hh', (hp'.nodup_iff).2 hn, fun b hb => hl b (hp'.mem_iff.1 hb)⟩

theorem drop {r : Ds} (h : Own W (r :: R) w) : Own W R w := by
  obtain ⟨hb, fp, ⟨f, g, rfl, hr, hR⟩, hn, hl⟩ := h
  exact ⟨hb, g, hR, (List.nodup_append.1 hn).2.1, fun b hb => hl b (List.mem_append_right _ hb)⟩

theorem pick_perm : ∀ (R : List Ds) (i : Nat) (hi : i < R.length), R.Perm (R[i] :: R.eraseIdx i)
  | _ :: _, 0, _ => .refl _
  | x :: R, i + 1, hi => ((pick_perm R i (by simpa using hi)).cons x).trans (.swap _ _ _)

theorem pick (i : Nat) {r : Ds} (hi : R[i]? = some r) (h : Own W R w) : Own W (r :: R.eraseIdx i) w := by
  obtain ⟨hlt, rfl⟩ := List.getElem?_eq_some_iff.1 hi
  exact h.perm (pick_perm R i hlt)

/-- The world turns nowhere but in what stands in front and in new blocks. -/
theorem upd {R1 R1' : List Ds} (h : Own W (R1 ++ R) w) (os : w'.os = w.os) (tape : w'.tape = w.tape) (output : w'.output = w.output) (hsz : w.heap.size ≤ w'.heap.size)
    (hu : ∀ fp, Holds w R1 fp → fp.Nodup → (∀ b, b < w.heap.size → b ∉ fp → w'.heap[b]? = w.heap[b]?) ∧ ∃ fp', Holds w' R1' fp' ∧ fp'.Nodup ∧ ∀ b ∈ fp', b ∈ fp ∨ w.heap.size ≤ b) : Own W (R1' ++ R) w' := by
  obtain ⟨hb, fp, hh, hn, hl⟩ := h
  obtain ⟨f, g, rfl, h1, h2⟩ := Holds.append.1 hh
  obtain ⟨hnf, hng, hdis⟩ := List.nodup_append.1 hn
  obtain ⟨hk, f', h1', hn', hl'⟩ := hu f h1 hnf
  have hsame : Same w w' g := fun b hb => hk b (h2.lt b hb) (fun hbf => hdis b hbf b hb rfl)
  refine ⟨hb.trans ⟨os, tape, output, hsz, fun k hk' => hk k (by have := hb.size; omega) (fun hkf => by have := hl k (List.mem_append_left _ hkf); omega)⟩, f' ++ g, Holds.append.2 ⟨f', g, rfl, h1', h2.loc hsame⟩, ?_, ?_⟩
  · refine List.nodup_append.2 ⟨hn', hng, fun a ha b hbg hab => ?_⟩
    subst hab
    rcases hl' a ha with h' | h'
    · exact hdis a h' a hbg rfl
    · have := h2.lt a hbg; omega
  · intro b hb'
    rcases List.mem_append.1 hb' with h' | h'
    · rcases hl' b h' with h'' | h''
      · exact hl b (List.mem_append_left _ h'')
      · have := hb.size; omega
    · exact hl b (List.mem_append_right _ h')

/-- A callee that leaves all that stands and hands new things over. -/
theorem call {Rn : List Ds} (h : Own W R w) (hn : Own w Rn w') : Own W (Rn ++ R) w' := by
  obtain ⟨hb', fp', hh', hn', hl'⟩ := hn
  refine upd (R1 := []) (R1' := Rn) h hb'.os hb'.tape hb'.output hb'.size (fun fp hfp _ => ⟨fun b hb _ => hb'.block b hb, fp', hh', hn', fun b hb => .inr (hl' b hb)⟩)

theorem call1 {r : Ds} (h : Own W R w) (hn : Own w [r] w') : Own W (r :: R) w' := h.call hn
theorem call2 {r s : Ds} (h : Own W R w) (hn : Own w [r, s] w') : Own W (r :: s :: R) w' := h.call hn

theorem of_below (h : Own W R w) (hb : Below w.heap.size w w') : Own W R w' :=
  call (Rn := []) h ⟨hb, [], rfl, List.nodup_nil, fun _ h => by cases h⟩

theorem drewN (h : Own W R w) (n : Nat) : Own W R (w.drewN n) := h.of_below ⟨rfl, rfl, rfl, Nat.le_refl _, fun _ _ => rfl⟩
theorem drew (h : Own W R w) : Own W R w.drew := h.of_below ⟨rfl, rfl, rfl, Nat.le_refl _, fun _ _ => rfl⟩

/-- A block that nobody needs. -/
theorem alloc (h : Own W R w) (o : Obj) : Own W R (w.alloc o) := h.of_below ((Below.refl _ _).alloc (Nat.le_refl _) o)

theorem box {b : Nat} (h : Own W R w) (cs : List Value) (t : TypeId) (hb : w.heap.size = b := by first | rfl | simp) : Own W (.box b t cs :: R) (w.alloc (.cells cs.toArray t)) := by
  subst hb
  exact call (Rn := [.box w.heap.size t cs]) h ⟨(Below.refl _ _).alloc (Nat.le_refl _) _, [w.heap.size], ⟨[w.heap.size], [], rfl, ⟨rfl, heap_alloc_new w _⟩, rfl⟩, by simp, by simp⟩

theorem box0 (h : Own W R w) (cs : List Value) (t : TypeId) : Own W (.box w.heap.size t cs :: R) (w.alloc (.cells cs.toArray t)) := h.box cs t rfl

theorem set {b t : Nat} {cs : List Value} (h : Own W (.box b t cs :: R) w) (j : Nat) (u : Value) : Own W (.box b t (cs.set j u) :: R) (w.setCell ⟨b, j, none⟩ u) := by
  refine upd (R1 := [.box b t cs]) (R1' := [.box b t (cs.set j u)]) h rfl rfl rfl (by simp [World.setCell]) ?_
  rintro fp ⟨f, g, rfl, ⟨rfl, hh⟩, rfl⟩ _
  refine ⟨fun k _ hk => Below.heap_setCell _ _ _ _ (fun e => hk (by simp [e])), [b], ⟨[b], [], rfl, ⟨rfl, ?_⟩, rfl⟩, by simp, fun x hx => .inl (by simpa using hx)⟩
  simp only [World.setCell, Array.getElem?_modify, hh, Option.map_some]
  simp [List.setIfInBounds_toArray]

theorem rd {α : Type} [Cd α] [Ty α] {v : Value} {xs : List α} (i : Nat) (hi : R[i]? = some (.own v xs)) (h : Own W R w) : Rd w v xs := by
  obtain ⟨_, fp, ⟨f, g, _, hr, _⟩, _⟩ := h.pick i hi
  exact Dp.rd hr

theorem old {α : Type} [Cd α] {v : Value} {xs : List α} (h : Own W R w) (hv : Rd W v xs) : Rd w v xs := hv.low h.1.block

/-- What the boxes hold. -/
def Cells (w : World) (b : Nat) : Nat → List Value → Prop
  | _, [] => True
  | k, c :: cs => w.cell? ⟨b, k, none⟩ = some c ∧ Cells w b (k + 1) cs
def Facts (w : World) : List Ds → Prop
  | [] => True
  | .box b _ cs :: R => (Cells w b 0 cs ∧ (∀ j, w.frozen? ⟨b, j, none⟩ = false) ∧ b < w.heap.size) ∧ Facts w R
  | _ :: R => Facts w R

theorem cells {b t : Nat} {cs : List Value} (hb : w.heap[b]? = some (.cells cs.toArray t (0, 0))) : ∀ (k : Nat) (ds : List Value), cs.drop k = ds → Cells w b k ds
  | _, [], _ => trivial
  | k, d :: ds, h => by
    have hk : cs[k]? = some d := by have := List.getElem?_drop (xs := cs) (i := k) (j := 0); rw [h] at this; simpa using this.symm
    exact ⟨by rw [cell_of_row w b k _ t (0, 0) hb]; simpa using hk, cells hb (k + 1) ds (by rw [← List.drop_drop, h]; rfl)⟩

theorem facts : ∀ {R : List Ds}, Own W R w → Facts w R
  | [], _ => trivial
  | .box b t cs :: R, h => by
    obtain ⟨_, fp, ⟨f, g, _, ⟨_, hb⟩, _⟩, _⟩ := id h
    exact ⟨⟨cells hb 0 cs rfl, fun j => by simp [World.frozen?, hb], (Array.getElem?_eq_some_iff.1 hb).1⟩, facts h.drop⟩
  | @Ds.own _ _ _ _ _ :: R, h => facts (R := R) h.drop
  | @Ds.elt _ _ _ _ :: R, h => facts (R := R) h.drop
  | .any _ _ _ :: R, h => facts (R := R) h.drop
end Own
end Go.Ow
namespace Go.Ow
set_option linter.unusedSimpArgs false
set_option linter.unusedVariables false
open Go.RowKit

/-! ### Rows: to and from the library's words -/
section
variable {α : Type} [Cd α]

theorem Dp.row {e : Nat} {w : World} {v : Value} {xs : List α} {fp : List Nat} {base : Nat} (h : Dp e w v xs fp) (hb : ∀ b ∈ fp, base ≤ b) :
    ∃ (css : List (List Value)) (fps : List (List Nat)), w.ownsRow base e (Cd.z α) v xs.length css.flatten ∧ css.length = xs.length ∧ fps.length = xs.length ∧ xs.length ≤ 140737488355328 ∧
      (∀ (i : Nat) (x : α) (cs : List Value) (f : List Nat), xs[i]? = some x → css[i]? = some cs → fps[i]? = some f → Cd.dp w x cs f) ∧ fp = v.ownBlock.toList ++ fps.flatten := by
  rcases h with ⟨rfl, rfl, rfl⟩ | ⟨g, cap, cur, css, fps, rfl, hg, h1, h2, h3, hcs, hl, hlf, ht, hd, rfl⟩
  · exact ⟨[], [], World.ownsRow_nil w base e _, rfl, rfl, Nat.zero_le _, fun i x cs f hx => by simp at hx, rfl⟩
  · have hall : ∀ cs ∈ css, cs.length = Cd.z α := by
      intro cs hcs'
      obtain ⟨k, hk, rfl⟩ := List.getElem_of_mem hcs'
      exact Cd.rd_len (Cd.dp_rd (hd k xs[k] css[k] fps[k] (List.getElem?_eq_getElem (by omega)) (List.getElem?_eq_getElem (by omega)) (List.getElem?_eq_getElem (by omega))))
    exact ⟨css, fps, ⟨by rw [length_flatten hall, hl], .inr ⟨g, cap, cur, rfl, hb g (by simp), hg, h1, h2, hcs, ht⟩⟩, hl, hlf, h3, hd, rfl⟩

theorem row_dp {e : Nat} {w : World} {v : Value} {xs : List α} {base : Nat} {css : List (List Value)} {fps : List (List Nat)} (h : w.ownsRow base e (Cd.z α) v xs.length css.flatten) (hl : css.length = xs.length)
    (hlf : fps.length = xs.length) (hbig : xs.length ≤ 140737488355328) (hd : ∀ (i : Nat) (x : α) (cs : List Value) (f : List Nat), xs[i]? = some x → css[i]? = some cs → fps[i]? = some f → Cd.dp w x cs f) :
    Dp e w v xs (v.ownBlock.toList ++ fps.flatten) := by
  rcases h.2 with ⟨rfl, h0⟩ | ⟨g, cap, cur, rfl, hb, hg, h1, h2, hcs, ht⟩
  · obtain rfl := List.eq_nil_of_length_eq_zero h0
    obtain rfl := List.eq_nil_of_length_eq_zero hlf
    exact .inl ⟨rfl, rfl, rfl⟩
  · exact .inr ⟨g, cap, cur, css, fps, rfl, hg, h1, h2, hbig, hcs, hl, hlf, ht, hd, rfl⟩
end

section
variable {α : Type} [Fl α]
theorem fl_len (x : α) : (Fl.fl x).length = Cd.z α := by
  have h : Cd.rd (default : World) x (Fl.fl x) := Fl.rd_fl.2 rfl
  exact Cd.rd_len h
theorem fl_one (x : α) : ∀ c ∈ Fl.fl x, c.oneCell' = true := by
  have h : Cd.rd (default : World) x (Fl.fl x) := Fl.rd_fl.2 rfl
  exact Cd.rd_one h

theorem css_fl {w : World} {xs : List α} {css : List (List Value)} {fps : List (List Nat)} (hl : css.length = xs.length) (hlf : fps.length = xs.length)
    (hd : ∀ (i : Nat) (x : α) (cs : List Value) (f : List Nat), xs[i]? = some x → css[i]? = some cs → fps[i]? = some f → Cd.dp w x cs f) : css = xs.map Fl.fl ∧ fps.flatten = [] := by
  have key : ∀ i (h : i < xs.length), css[i]'(by omega) = Fl.fl xs[i] ∧ fps[i]'(by omega) = [] := fun i h =>
    Fl.dp_fl.1 (hd i _ _ _ (List.getElem?_eq_getElem h) (List.getElem?_eq_getElem (by omega)) (List.getElem?_eq_getElem (by omega)))
  constructor
  · refine List.ext_getElem (by simp [hl]) (fun i h1 h2 => ?_)
    rw [List.getElem_map]; exact (key i (by omega)).1
  · rw [List.flatten_eq_nil_iff]
    intro f hf
    obtain ⟨k, hk, rfl⟩ := List.getElem_of_mem hf
    exact (key k (by omega)).2

theorem Dp.flat {e : Nat} {w : World} {v : Value} {xs : List α} {fp : List Nat} {base : Nat} (h : Dp e w v xs fp) (hb : ∀ b ∈ fp, base ≤ b) :
    w.ownsRow base e (Cd.z α) v xs.length (xs.map Fl.fl).flatten ∧ xs.length ≤ 140737488355328 ∧ fp = v.ownBlock.toList := by
  obtain ⟨css, fps, h1, h2, h3, h4, h5, h6⟩ := h.row hb
  obtain ⟨rfl, he⟩ := css_fl h2 h3 h5
  exact ⟨h1, h4, by rw [h6, he, List.append_nil]⟩

theorem flat_dp {e : Nat} {w : World} {v : Value} {xs : List α} {base : Nat} (h : w.ownsRow base e (Cd.z α) v xs.length (xs.map Fl.fl).flatten) (hbig : xs.length ≤ 140737488355328) : Dp e w v xs v.ownBlock.toList := by
  have := row_dp (fps := List.replicate xs.length []) h (by simp) (by simp) hbig (fun i x cs f hx hc hf => by
    rw [List.getElem?_map, hx] at hc
    simp only [Option.map_some, Option.some.injEq] at hc
    subst hc
    rw [List.getElem?_replicate] at hf
    split at hf
    · simp at hf; subst hf; exact Fl.dp_fl.2 ⟨rfl, rfl⟩
    · cases hf)
  rwa [show (List.replicate xs.length ([] : List Nat)).flatten = [] by rw [List.flatten_eq_nil_iff]; intro f hf; exact (List.mem_replicate.1 hf).2, List.append_nil] at this
end

/-- What the program says of an element's type. -/
class El (P : Program) (α : Type) [Cd α] [Ty α] where
  bytes : Nat
  info : ∃ i z, P.info? (Ty.id α) = some i ∧ i.zero = some z ∧ i.size = Cd.z α ∧ i.bytes = bytes ∧ z.cells.size = Cd.z α

theorem El.of {P : Program} {α : Type} [Cd α] [Ty α] {b : Nat} (h : (P.info? (Ty.id α)).map (fun i => (i.zero.map (fun z => z.cells.size), i.size, i.bytes)) = some (some (Cd.z α), Cd.z α, b)) :
    ∃ i z, P.info? (Ty.id α) = some i ∧ i.zero = some z ∧ i.size = Cd.z α ∧ i.bytes = b ∧ z.cells.size = Cd.z α := by
  obtain ⟨i, hi, h⟩ := Option.map_eq_some_iff.1 h
  simp only [Prod.mk.injEq, Option.map_eq_some_iff] at h
  obtain ⟨⟨z, hz, hzs⟩, h1, h2⟩ := h
  exact ⟨i, z, hi, hz, h1, h2, hzs⟩

section
variable {P : Program} {ops : Array Oper} {rest : List Oper} {o : Oper} {a : Act} {Q : Exit → Act → World → Prop} {w W : World} {R : List Ds}

theorem Own.grow {w' : World} {v v' : Value} {α : Type} [Fl α] [Ty α] {xs ys : List α} {base : Nat} (HS : Own W (.own v xs :: R) w) (h1 : w'.ownsRow base (Ty.id α) (Cd.z α) v' ys.length (ys.map Fl.fl).flatten) (hl : ys.length ≤ 140737488355328)
    (hg : w.grownBy w' v.ownBlock) (hv : ∀ k, v'.ownBlock = some k → v.ownBlock = some k ∨ w.heap.size ≤ k) : Own W (.own v' ys :: R) w' := by
  refine Own.upd (R1 := [.own v xs]) (R1' := [.own v' ys]) HS hg.os hg.tape hg.output hg.size ?_
  rintro fp ⟨f, g, rfl, hr, rfl⟩ hn
  obtain ⟨hrow, _, hf⟩ := Dp.flat (base := 0) hr (fun _ _ => Nat.zero_le _)
  subst hf
  refine ⟨fun b hb hbn => hg.block b hb (fun e => hbn ?_), v'.ownBlock.toList, ⟨v'.ownBlock.toList, [], by simp, flat_dp h1 hl, rfl⟩, ?_, fun b hb => ?_⟩
  · rw [← e]; simp
  · cases v'.ownBlock <;> simp
  · have hb' : v'.ownBlock = some b := by
      cases h : v'.ownBlock with
      | none => rw [h] at hb; cases hb
      | some k => rw [h] at hb; simp at hb; rw [hb]
    rcases hv b hb' with h | h
    · left; rw [h]; simp
    · exact .inr h

theorem news_of {α : Type} [Fl α] {b o0 : Nat} {ys : List α} (hy : ∀ i (h : i < ys.length), ∃ cs, Cd.rd w ys[i] cs ∧ ∀ j, j < Cd.z α → w.cell? ⟨b, o0 + i * Cd.z α + j, none⟩ = cs[j]?) :
    ∀ j u, (ys.map Fl.fl).flatten[j]? = some u → w.cell? ((⟨b, o0, none⟩ : Addr).add j) = some u := by
  intro j u hu
  have hall : ∀ cs ∈ ys.map Fl.fl, cs.length = Cd.z α := by
    intro cs hcs
    obtain ⟨y, _, rfl⟩ := List.mem_map.1 hcs
    exact fl_len y
  have hz := Cd.zpos (α := α)
  have hjl : j < (ys.map Fl.fl).flatten.length := (List.getElem?_eq_some_iff.1 hu).1
  rw [length_flatten hall, List.length_map] at hjl
  have hi : j / Cd.z α < ys.length := Nat.div_lt_of_lt_mul (by rwa [Nat.mul_comm])
  have hj : j % Cd.z α < Cd.z α := Nat.mod_lt _ hz
  have hsp : j / Cd.z α * Cd.z α + j % Cd.z α = j := by rw [Nat.mul_comm]; exact Nat.div_add_mod j _
  obtain ⟨cs, hr, hc⟩ := hy _ hi
  have e := flatten_at hall (i := j / Cd.z α) (cs := Fl.fl ys[j / Cd.z α]) (by rw [List.getElem?_map, List.getElem?_eq_getElem hi]; rfl) hj
  rw [hsp, hu] at e
  have := hc _ hj
  rw [Fl.rd_fl.1 hr, ← e, Nat.add_assoc, hsp] at this
  rw [← this]
  congr 1
  unfold Addr.add
  split <;> simp_all

theorem one_flat {α : Type} [Fl α] (ys : List α) : ∀ u ∈ (ys.map Fl.fl).flatten, u.oneCell' = true := by
  intro u hu
  obtain ⟨cs, hcs, hu⟩ := List.mem_flatten.1 hu
  obtain ⟨y, _, rfl⟩ := List.mem_map.1 hcs
  exact fl_one y u hu
theorem len_flat {α : Type} [Fl α] (ys : List α) : (ys.map Fl.fl).flatten.length = ys.length * Cd.z α := by
  rw [length_flatten (k := Cd.z α) (by intro cs hcs; obtain ⟨y, _, rfl⟩ := List.mem_map.1 hcs; exact fl_len y), List.length_map]

theorem wp_app {α : Type} [Fl α] [Ty α] [El P α] (hgd : o.guard = none) (s x : Operand) (t : TypeId) (ho : o.op = .call { callee := .builtin .append, args := #[s, x], argTypes := #[t, t] })
    (ht : P.underlying t = some (.slice (Ty.id α))) (v : Value) (xs : List α) (HS : Own W (.own v xs :: R) w) (hs : a.eval s = v) (vy : Value) (ys : List α) (hx : a.eval x = vy) (hy : Rd w vy ys)
    (hlen : (xs.length + ys.length) * El.bytes P α ≤ 140737488355328) (hl2 : xs.length + ys.length ≤ 140737488355328)
    (h : ∀ v' w', Own W (.own v' (xs ++ ys) :: R) w' → wpList P ops Q rest (a.put o.dst v') w') : wpList P ops Q (o :: rest) a w := by
  obtain ⟨i, z, hi, hz, h1, h2, h3⟩ := El.info (P := P) (α := α)
  obtain ⟨_, fp, ⟨f, g, hfp, hr, hR⟩, hn, hlow⟩ := id HS
  obtain ⟨hrow, hbig, hf⟩ := Dp.flat (base := 0) hr (fun _ _ => Nat.zero_le _)
  obtain ⟨A, c, rfl, hy1, hy2, hy3, hA, hy4⟩ := hy
  cases A with
  | none =>
    obtain rfl := hA rfl
    obtain rfl : ys = [] := List.eq_nil_of_length_eq_zero (by omega)
    refine wpList_append_own_none hgd s x t ho 0 (Ty.id α) i (Cd.z α) ht hi v xs.length _ hs hrow hx (h v w ?_)
    rw [List.append_nil]; exact HS
  | some ad =>
    have hnews : ∀ j u, (ys.map Fl.fl).flatten[j]? = some u → w.cell? (ad.add j) = some u := by
      cases ys with
      | nil => intro j u hu; simp at hu
      | cons y ys =>
        obtain ⟨b, o0, _, hab, _, _⟩ := hy4 0 (by simp)
        obtain rfl := Option.some.inj hab
        refine news_of (fun k hk => ?_)
        obtain ⟨b', o', cs, hab', hr', hc'⟩ := hy4 k hk
        obtain ⟨rfl, rfl⟩ : b = b' ∧ o0 = o' := by simpa using hab'
        exact ⟨cs, hr', hc'⟩
    refine wpList_plain hgd fun K hK => ?_
    obtain ⟨v', w', hrun, h4, h5, _, h7⟩ := run_append_own_at (P := P) w 0 t o.type (Ty.id α) i z (Cd.z α) (El.bytes P α) ht hi hz h1 h2 h3 Cd.zpos v xs.length _ hrow ad ys.length c _ (len_flat ys) hnews (one_flat ys) (by simp only [maxLen] at *; omega) hlen (Nat.zero_le _)
    unfold Oper.wp execOp
    simp only [ho, resolve, invoke, builtin, Sem.run_bind, Sem.run_pure, Result.andThen_ok, List.map_toArray, List.map_cons, List.map_nil, hs, hx, hrun]
    refine hK _ _ (h v' w' (HS.grow (by rw [List.length_append, List.map_append, List.flatten_append]; exact h4) (by rw [List.length_append]; exact hl2) h5 ?_))
    intro k hk
    rcases h7 with h7 | h7
    · exact .inl (h7 ▸ hk)
    · rw [h7] at hk; simp at hk; exact .inr (by omega)

theorem Own.lit {α : Type} [Fl α] [Ty α] (HS : Own W R w) (xs : List α) (cs : Array Value) (t : TypeId) (ht : t = Ty.id α) (hcs : cs.toList = (xs.map Fl.fl).flatten) (hl : xs.length ≤ 140737488355328) :
    Own W (.own (.slice (some ⟨w.heap.size, 0, none⟩) xs.length xs.length) xs :: R) (w.alloc (.cells cs t)) := by
  subst ht
  have hrow : (w.alloc (.cells cs (Ty.id α))).ownsRow 0 (Ty.id α) (Cd.z α) (.slice (some ⟨w.heap.size, 0, none⟩) xs.length xs.length) xs.length (xs.map Fl.fl).flatten := by
    rw [← hcs]
    exact World.ownsRow_lit w cs xs.length (Nat.zero_le _) (by simp only [maxLen] at *; omega) (by rw [← Array.length_toList, hcs, len_flat])
  exact Own.call (Rn := [.own _ xs]) HS ⟨(Below.refl _ _).alloc (Nat.le_refl _) _, [w.heap.size], ⟨[w.heap.size], [], rfl, flat_dp hrow hl, rfl⟩, by simp, by simp⟩

/-- What stands at a place of a slice that is read. -/
theorem Rd.at_ {α : Type} [Fl α] {v : Value} {xs : List α} (h : Rd w v xs) (i : Nat) (hi : i < xs.length) :
    ∃ b o c, v = .slice (some ⟨b, o, none⟩) xs.length c ∧ ∀ j, j < Cd.z α → w.cell? ⟨b, o + i * Cd.z α + j, none⟩ = (Fl.fl xs[i])[j]? := by
  obtain ⟨A, c, rfl, _, _, _, _, h4⟩ := h
  obtain ⟨b, o, cs, rfl, hr, hc⟩ := h4 i hi
  exact ⟨b, o, c, rfl, fun j hj => by rw [hc j hj, Fl.rd_fl.1 hr]⟩

/-- The same once the address is known. -/
theorem Rd.get {α : Type} [Fl α] {b o c n : Nat} {xs : List α} (h : Rd w (.slice (some ⟨b, o, none⟩) n c) xs) (i : Nat) (hi : i < xs.length) (j : Nat) (hj : j < Cd.z α) :
    w.cell? ⟨b, o + i * Cd.z α + j, none⟩ = (Fl.fl xs[i])[j]? := by
  obtain ⟨b', o', c', he, h'⟩ := h.at_ i hi
  injection he with he _ _
  injection he with he
  injection he with h1 h2
  subst h1 h2
  exact h' j hj
theorem Rd.len {α : Type} [Cd α] {A : Option Addr} {n c : Nat} {xs : List α} (h : Rd w (.slice A n c) xs) : n = xs.length := by
  obtain ⟨_, _, he, _⟩ := h
  injection he
theorem Rd.some {α : Type} [Cd α] {v : Value} {xs : List α} (h : Rd w v xs) (hx : 0 < xs.length) : ∃ b o c, v = .slice (some ⟨b, o, none⟩) xs.length c ∧ xs.length ≤ c := by
  obtain ⟨A, c, rfl, h1, _, _, _, h4⟩ := h
  obtain ⟨b, o, cs, rfl, _⟩ := h4 0 hx
  exact ⟨b, o, c, rfl, h1⟩
theorem Rd.fix {α : Type} [Cd α] {A : Option Addr} {n c : Nat} {xs : List α} (h : Rd w (.slice A n c) xs) (hx : 0 < xs.length) : ∃ b o, A = Option.some ⟨b, o, none⟩ := by
  obtain ⟨A', c', he, _, _, _, _, h4⟩ := h
  obtain ⟨b, o, cs, rfl, _⟩ := h4 0 hx
  injection he with he _ _
  exact ⟨b, o, he⟩
theorem Rd.val {α : Type} [Cd α] {v : Value} {xs : List α} (h : Rd w v xs) : ∃ A c, v = .slice A xs.length c ∧ xs.length ≤ c ∧ xs.length ≤ 140737488355328 := by
  obtain ⟨A, c, rfl, h1, _, h3, _⟩ := h
  exact ⟨A, c, rfl, h1, h3⟩

/-- The row that v is. -/
theorem Own.row {α : Type} [Fl α] [Ty α] {v : Value} {xs : List α} (h : Own W (.own v xs :: R) w) (hx : 0 < xs.length) :
    ∃ g cap, v = .slice (Option.some ⟨g, 0, none⟩) xs.length cap ∧ xs.length ≤ cap ∧ (∀ i (hi : i < xs.length) j, j < Cd.z α → w.cell? ⟨g, i * Cd.z α + j, none⟩ = (Fl.fl xs[i])[j]?) ∧ (∀ j, w.frozen? ⟨g, j, none⟩ = false) := by
  have hr := h.rd 0 rfl
  obtain ⟨_, fp, ⟨f, g, _, hd, _⟩, _⟩ := h
  rcases hd with ⟨_, rfl, _⟩ | ⟨b, cap, cur, css, fps, rfl, hg, h1, _⟩
  · simp at hx
  · refine ⟨b, cap, rfl, h1, fun i hi j hj => ?_, fun j => by simp [World.frozen?, hg]⟩
    have := hr.get i hi j hj
    rwa [Nat.zero_add] at this

/-- Its cells, the address known. -/
theorem Own.rowc {α : Type} [Fl α] [Ty α] {g n cap : Nat} {xs : List α} (h : Own W (.own (.slice (Option.some ⟨g, 0, none⟩) n cap) xs :: R) w) :
    (∀ i (hi : i < xs.length) j, j < Cd.z α → w.cell? ⟨g, i * Cd.z α + j, none⟩ = (Fl.fl xs[i])[j]?) ∧ (∀ j, w.frozen? ⟨g, j, none⟩ = false) := by
  refine ⟨fun i hi => ?_, ?_⟩
  · obtain ⟨g', cap', he, _, h1, _⟩ := h.row (by omega)
    injection he with he _ _
    injection he with he
    injection he with he _ _
    subst he
    exact h1 i hi
  · obtain ⟨_, fp, ⟨f, _, _, hd, _⟩, _⟩ := h
    rcases hd with ⟨he, _⟩ | ⟨b, cap', cur, css, fps, he, hg, _⟩
    · injection he with he; cases he
    · injection he with he _ _
      injection he with he
      injection he with he _ _
      subst he
      exact fun j => by simp [World.frozen?, hg]

theorem flat_set {α : Type} [Fl α] (xs : List α) (i : Nat) (hi : i < xs.length) (x : α) (j : Nat) (hj : j < Cd.z α) (u : Value) (hx : Fl.fl x = (Fl.fl xs[i]).set j u) :
    ((xs.set i x).map Fl.fl).flatten = ((xs.map Fl.fl).flatten).set (i * Cd.z α + j) u := by
  induction xs generalizing i with
  | nil => simp at hi
  | cons y ys ih =>
    have hy := fl_len y
    cases i with
    | zero =>
      simp only [List.set_cons_zero, List.map_cons, List.flatten_cons, Nat.zero_mul, Nat.zero_add, List.getElem_cons_zero] at hx ⊢
      rw [hx, List.set_append_left _ _ (by omega)]
    | succ i =>
      simp only [List.set_cons_succ, List.map_cons, List.flatten_cons, List.getElem_cons_succ] at hx ⊢
      rw [ih i (by simpa using hi) hx, List.set_append_right _ _ (by rw [hy, Nat.succ_mul]; omega), show (i + 1) * Cd.z α + j - (Fl.fl y).length = i * Cd.z α + j by rw [hy, Nat.succ_mul]; omega]

/-- One cell of a row is written. -/
theorem Own.put {α : Type} [Fl α] [Ty α] {g n cap : Nat} {xs : List α} (h : Own W (.own (.slice (Option.some ⟨g, 0, none⟩) n cap) xs :: R) w) (i : Nat) (hi : i < xs.length) (j : Nat) (hj : j < Cd.z α) (u : Value) (x : α) (hx : Fl.fl x = (Fl.fl xs[i]).set j u) :
    Own W (.own (.slice (Option.some ⟨g, 0, none⟩) n cap) (xs.set i x) :: R) (w.setCell ⟨g, i * Cd.z α + j, none⟩ u) := by
  have hn : n = xs.length := (h.rd 0 rfl).len
  subst hn
  obtain ⟨_, fp, ⟨f, g', _, hd, _⟩, _⟩ := id h
  obtain ⟨hrow, hbig, _⟩ := Dp.flat (base := 0) hd (fun _ _ => Nat.zero_le _)
  obtain ⟨hrow', hgr⟩ := hrow.stored (i * Cd.z α + j) u
  have := Own.grow (ys := xs.set i x) h (v' := .slice (Option.some ⟨g, 0, none⟩) xs.length cap) (w' := w.setCell ⟨g, i * Cd.z α + j, none⟩ u) (base := 0) (by rw [List.length_set, flat_set xs i hi x j hj u hx]; exact hrow') (by rw [List.length_set]; exact hbig) hgr (fun k hk => .inl hk)
  exact this

class ElZ (P : Program) (α : Type) [Fl α] [Ty α] extends El P α where
  zero : α
  infoz : ∃ i z, P.info? (Ty.id α) = Option.some i ∧ i.zero = Option.some z ∧ i.size = Cd.z α ∧ i.bytes = bytes ∧ z.cells.toList = Fl.fl zero

theorem ElZ.of {P : Program} {α : Type} [Fl α] [Ty α] {b : Nat} {x : α} (h : (P.info? (Ty.id α)).map (fun i => (i.zero.map (fun z => z.cells.toList), i.size, i.bytes)) = Option.some (Option.some (Fl.fl x), Cd.z α, b)) :
    ∃ i z, P.info? (Ty.id α) = Option.some i ∧ i.zero = Option.some z ∧ i.size = Cd.z α ∧ i.bytes = b ∧ z.cells.toList = Fl.fl x := by
  obtain ⟨i, hi, h⟩ := Option.map_eq_some_iff.1 h
  simp only [Prod.mk.injEq, Option.map_eq_some_iff] at h
  obtain ⟨⟨z, hz, hzs⟩, h1, h2⟩ := h
  exact ⟨i, z, hi, hz, h1, h2, hzs⟩
theorem made_flat {α : Type} [Fl α] (x : α) (z : Array Value) (hz : z.toList = Fl.fl x) (n : Nat) : (madeCells z (n * Cd.z α)).toList = ((List.replicate n x).map Fl.fl).flatten := by
  have hs : z.size = Cd.z α := by rw [← Array.length_toList, hz, fl_len]
  have hl := len_flat (List.replicate n x)
  rw [List.length_replicate] at hl
  refine List.ext_getElem (by rw [hl]; simp [madeCells]) (fun k h1 h2 => ?_)
  rw [hl] at h2
  have hp := Cd.zpos (α := α)
  have hj : k % Cd.z α < Cd.z α := Nat.mod_lt _ hp
  have hi : k / Cd.z α < n := Nat.div_lt_of_lt_mul (by rwa [Nat.mul_comm])
  have e := flatten_at (css := (List.replicate n x).map Fl.fl) (k := Cd.z α) (fun cs hcs => by obtain ⟨y, _, rfl⟩ := List.mem_map.1 hcs; exact fl_len y) (i := k / Cd.z α) (cs := Fl.fl x) (by simp [hi]) hj
  rw [Nat.mul_comm, Nat.div_add_mod] at e
  rw [List.getElem?_eq_getElem (by rw [hl]; exact h2), ← hz, List.getElem?_eq_getElem (by rw [Array.length_toList, hs]; exact hj)] at e
  rw [Option.some.inj e]
  simp only [madeCells, Array.toList_map, Array.toList_range, List.getElem_map, List.getElem_range, hs]
  rw [getElem!_pos z _ (by rw [hs]; exact hj)]
  simp

theorem wp_make {α : Type} [Fl α] [Ty α] [ElZ P α] (hgd : o.guard = none) (l c : Operand) (t : TypeId) (hop : o.op = Op.makeSlice t l c) (ht : P.underlying t = Option.some (.slice (Ty.id α))) (HS : Own W R w)
    (kl kc : IntKind) (L C : Int) (n : Nat) (hl : a.eval l = .int kl L) (hc : a.eval c = .int kc C) (hL : L = (n : Int)) (hC : C = (n : Int)) (hb : El.bytes P α * n ≤ 281474976710656) (hn : n ≤ 140737488355328)
    (h : ∀ w', Own W (.own (.slice (Option.some ⟨w.heap.size, 0, none⟩) n n) (List.replicate n (ElZ.zero P : α)) :: R) w' → wpList P ops Q rest (a.put o.dst (.slice (Option.some ⟨w.heap.size, 0, none⟩) n n)) w') : wpList P ops Q (o :: rest) a w := by
  obtain ⟨i, z, hi, hz, h1, h2, h3⟩ := ElZ.infoz (P := P) (α := α)
  refine wpList_make_full w hgd l c t hop 0 (Ty.id α) i z (Cd.z α) ht hi hz h1 kl kc L C n hl hc hL hC (by rw [h2]; exact hb) (by simp only [maxLen]; omega) (Nat.zero_le _) (fun w' hrow hg => h w' ?_)
  rw [made_flat (ElZ.zero P : α) z.cells h3] at hrow
  have hrow2 : w'.ownsRow 0 (Ty.id α) (Cd.z α) (.slice (Option.some ⟨w.heap.size, 0, none⟩) n n) (List.replicate n (ElZ.zero P : α)).length ((List.replicate n (ElZ.zero P : α)).map Fl.fl).flatten := by rw [List.length_replicate]; exact hrow
  have hdp := flat_dp hrow2 (by rw [List.length_replicate]; exact hn)
  exact Own.call (Rn := [.own _ _]) HS ⟨⟨hg.os, hg.tape, hg.output, hg.size, fun k hk => hg.block k hk (by simp)⟩, [w.heap.size], ⟨[w.heap.size], [], rfl, hdp, rfl⟩, by simp, by simp⟩
end
end Go.Ow

/- The data of the program, as plain Lean. -/
namespace Go.Ow
set_option linter.unusedSimpArgs false
set_option linter.unusedVariables false
open Go.RowKit

structure Rn where
  r : Int
  f : Int
  t : Int
  deriving DecidableEq

instance : Fl Rn := Fl.iso (fun r : Rn => (r.r, r.f, r.t))

/-! ### contexts -/
def runOk (x : Rn) : Bool := decide (0 ≤ x.r) && (decide (x.r < 8) && (decide (1 ≤ x.f) && (decide (x.f ≤ x.t) && decide (x.t ≤ 1000000000))))
def apart (x y : Rn) : Bool := decide (x.r < y.r) || (decide (x.r = y.r) && decide (wrap64 (x.t + 1) < y.f))

def okPre : Option Rn → List Rn → Bool
  | _, [] => true
  | p, x :: l => runOk x && (match p with | none => true | some q => apart q x) && okPre (some x) l
def ctxOk (xs : List Rn) : Bool := okPre none xs && decide (xs.length ≤ 1000)
def prev (xs : List Rn) (i : Nat) : Option Rn := if i = 0 then none else xs[i - 1]?
theorem prev_succ {xs : List Rn} {k : Nat} (h : k < xs.length) : prev xs (k + 1) = some xs[k] := by simp [prev, h]
theorem fill_set {α : Type} (xs : List α) (z : α) (k : Nat) (h : k < xs.length) : (xs.take k ++ List.replicate (xs.length - k) z).set k xs[k] = xs.take (k + 1) ++ List.replicate (xs.length - (k + 1)) z := by
  rw [show xs.length - k = (xs.length - (k + 1)) + 1 by omega, List.replicate_succ, List.set_append_right _ _ (by simp; omega), List.take_succ_eq_append_getElem h]
  rw [show k - (xs.take k).length = 0 by simp; omega, List.set_cons_zero, List.append_assoc]; rfl

theorem u8_of (n : Nat) : IntKind.u8.wrap (n : Int) = ((UInt8.ofNat n).toNat : Int) := by
  simp [IntKind.wrap, IntKind.bits, IntKind.signed]
theorem Own.fix {α : Type} [Fl α] [Ty α] {W w : World} {R : List Ds} {A : Option Addr} {n c : Nat} {xs : List α} (h : Own W (.own (.slice A n c) xs :: R) w) (hx : 0 < xs.length) : ∃ g, A = some ⟨g, 0, none⟩ := by
  obtain ⟨g, cap, he, _⟩ := h.row hx
  injection he with he1 he2 he3
  exact ⟨g, he1⟩
theorem Own.nil {α : Type} [Cd α] [Ty α] {W w : World} {R : List Ds} (h : Own W R w) : Own W (.own (.slice none 0 0) ([] : List α) :: R) w :=
  Own.call (Rn := [.own _ _]) h ⟨Below.refl _ _, [], ⟨[], [], rfl, .inl ⟨rfl, rfl, rfl⟩, rfl⟩, by simp, by simp⟩
section
variable {w W : World} {R : List Ds}
theorem By.rd {b o n c : Nat} {xs : List UInt8} (h : Rd w (.slice (some ⟨b, o, none⟩) n c) xs) (i : Nat) (hi : i < xs.length) : w.cell? ⟨b, o + i, none⟩ = some (.int .u8 (xs[i].toNat : Int)) := by
  have := h.get i hi 0 (by decide)
  have e : o + i * Cd.z UInt8 + 0 = o + i := by show o + i * 1 + 0 = _; omega
  rw [e] at this
  exact this
theorem By.row {g n cap : Nat} [Ty UInt8] {xs : List UInt8} (h : Own W (.own (.slice (some ⟨g, 0, none⟩) n cap) xs :: R) w) (i : Nat) (hi : i < xs.length) :
    w.cell? ⟨g, i, none⟩ = some (.int .u8 (xs[i].toNat : Int)) ∧ ∀ j, w.frozen? ⟨g, j, none⟩ = false := by
  have := h.rowc.1 i hi 0 (by decide)
  have e : i * Cd.z UInt8 + 0 = i := by show i * 1 + 0 = _; omega
  rw [e] at this
  exact ⟨this, h.rowc.2⟩
theorem By.put {g n cap : Nat} [Ty UInt8] {xs : List UInt8} (h : Own W (.own (.slice (some ⟨g, 0, none⟩) n cap) xs :: R) w) (i : Nat) (hi : i < xs.length) (x : UInt8) :
    Own W (.own (.slice (some ⟨g, 0, none⟩) n cap) (xs.set i x) :: R) (w.setCell ⟨g, i, none⟩ (.int .u8 (x.toNat : Int))) := by
  have := h.put i hi 0 (by decide) (.int .u8 (x.toNat : Int)) x rfl
  have e : i * Cd.z UInt8 + 0 = i := by show i * 1 + 0 = _; omega
  rw [e] at this
  exact this
end
set_option maxRecDepth 100000 in
section
variable {w W : World} {R : List Ds}
theorem Rn.rd {b o n c : Nat} {xs : List Rn} (h : Rd w (.slice (some ⟨b, o, none⟩) n c) xs) (i : Nat) (hi : i < xs.length) :
    w.cell? ⟨b, o + i * 3, none⟩ = some (.int .i64 xs[i].r) ∧ w.cell? ⟨b, o + i * 3 + 1, none⟩ = some (.int .i64 xs[i].f) ∧ w.cell? ⟨b, o + i * 3 + 2, none⟩ = some (.int .i64 xs[i].t) :=
  ⟨h.get i hi 0 (by decide), h.get i hi 1 (by decide), h.get i hi 2 (by decide)⟩
theorem Rn.row [Ty Rn] {g n cap : Nat} {xs : List Rn} (h : Own W (.own (.slice (some ⟨g, 0, none⟩) n cap) xs :: R) w) (i : Nat) (hi : i < xs.length) :
    (w.cell? ⟨g, i * 3, none⟩ = some (.int .i64 xs[i].r) ∧ w.cell? ⟨g, i * 3 + 1, none⟩ = some (.int .i64 xs[i].f) ∧ w.cell? ⟨g, i * 3 + 2, none⟩ = some (.int .i64 xs[i].t)) ∧ ∀ j, w.frozen? ⟨g, j, none⟩ = false :=
  ⟨⟨h.rowc.1 i hi 0 (by decide), h.rowc.1 i hi 1 (by decide), h.rowc.1 i hi 2 (by decide)⟩, h.rowc.2⟩
theorem Rn.put [Ty Rn] {g n cap : Nat} {xs : List Rn} (h : Own W (.own (.slice (some ⟨g, 0, none⟩) n cap) xs :: R) w) (i : Nat) (hi : i < xs.length) (x : Rn) :
    Own W (.own (.slice (some ⟨g, 0, none⟩) n cap) (xs.set i x) :: R) (((w.setCell ⟨g, i * 3, none⟩ (.int .i64 x.r)).setCell ⟨g, i * 3 + 1, none⟩ (.int .i64 x.f)).setCell ⟨g, i * 3 + 2, none⟩ (.int .i64 x.t)) := by
  have h1 := h.put i hi 0 (by decide) (.int .i64 x.r) ⟨x.r, xs[i].f, xs[i].t⟩ rfl
  have h2 := h1.put i (by simpa using hi) 1 (by decide) (.int .i64 x.f) ⟨x.r, x.f, xs[i].t⟩ (by simp; rfl)
  have h3 := h2.put i (by simpa using hi) 2 (by decide) (.int .i64 x.t) x (by simp; rfl)
  have e : (((xs.set i ⟨x.r, xs[i].f, xs[i].t⟩).set i ⟨x.r, x.f, xs[i].t⟩).set i x) = xs.set i x := by simp
  rw [e] at h3
  exact h3
end
end Go.Ow

/- The append of bytes onto an owned row, at one operation of a region that draws its order. -/
namespace Go.Ow
set_option linter.unusedSimpArgs false
set_option linter.unusedVariables false
open Go.RowKit
section
variable {P : Program} {ops : Array Oper} {o : Oper} {a : Act} {K : Act → World → Prop} {Q : Exit → Act → World → Prop} {E : Prop} {w W : World} {R : List Ds}
theorem op_app {α : Type} [Fl α] [Ty α] [El P α] (s x : Operand) (t : TypeId) (ho : o.op = .call { callee := .builtin .append, args := #[s, x], argTypes := #[t, t] })
    (ht : P.underlying t = some (.slice (Ty.id α))) (v : Value) (xs : List α) (HS : Own W (.own v xs :: R) w) (hs : a.eval s = v) (vy : Value) (ys : List α) (hx : a.eval x = vy) (hy : Rd w vy ys)
    (hlen : (xs.length + ys.length) * El.bytes P α ≤ 140737488355328) (hl2 : xs.length + ys.length ≤ 140737488355328)
    (h : ∀ v' w', Own W (.own v' (xs ++ ys) :: R) w' → K (a.put o.dst v') w') : Oper.wp P o a w K Q := by
  obtain ⟨i, z, hi, hz, h1, h2, h3⟩ := El.info (P := P) (α := α)
  obtain ⟨_, fp, ⟨f, g, hfp, hr, hR⟩, hn, hlow⟩ := id HS
  obtain ⟨hrow, hbig, hf⟩ := Dp.flat (base := 0) hr (fun _ _ => Nat.zero_le _)
  obtain ⟨A, c, rfl, hy1, hy2, hy3, hA, hy4⟩ := hy
  cases A with
  | none =>
    obtain rfl := hA rfl
    obtain rfl : ys = [] := List.eq_nil_of_length_eq_zero (by omega)
    have hrun := run_append_owned_none (P := P) (w := w) 0 t o.type (Ty.id α) i (Cd.z α) ht hi v xs.length _ hrow
    have := h v w (by rw [List.append_nil]; exact HS)
    unfold Oper.wp
    simp [execOp, ho, resolve, invoke, builtin, hs, hx, hrun, Result.andThen]
    exact this
  | some ad =>
    have hnews : ∀ j u, (ys.map Fl.fl).flatten[j]? = some u → w.cell? (ad.add j) = some u := by
      cases ys with
      | nil => intro j u hu; simp at hu
      | cons y ys =>
        obtain ⟨b, o0, _, hab, _, _⟩ := hy4 0 (by simp)
        obtain rfl := Option.some.inj hab
        refine news_of (fun k hk => ?_)
        obtain ⟨b', o', cs, hab', hr', hc'⟩ := hy4 k hk
        obtain ⟨rfl, rfl⟩ : b = b' ∧ o0 = o' := by simpa using hab'
        exact ⟨cs, hr', hc'⟩
    obtain ⟨v', w', hrun, h4, h5, _, h7⟩ := run_append_own_at (P := P) w 0 t o.type (Ty.id α) i z (Cd.z α) (El.bytes P α) ht hi hz h1 h2 h3 Cd.zpos v xs.length _ hrow ad ys.length c _ (len_flat ys) hnews (one_flat ys) (by simp only [maxLen] at *; omega) hlen (Nat.zero_le _)
    unfold Oper.wp execOp
    simp only [ho, resolve, invoke, builtin, Sem.run_bind, Sem.run_pure, Result.andThen_ok, List.map_toArray, List.map_cons, List.map_nil, hs, hx, hrun]
    refine h v' w' (HS.grow (by rw [List.length_append, List.map_append, List.flatten_append]; exact h4) (by rw [List.length_append]; exact hl2) h5 ?_)
    intro k hk
    rcases h7 with h7 | h7
    · exact .inl (h7 ▸ hk)
    · rw [h7] at hk; simp at hk; exact .inr (by omega)
theorem hp_app {α : Type} [Fl α] [Ty α] [El P α] (s x : Operand) (t : TypeId) (ho : o.op = .call { callee := .builtin .append, args := #[s, x], argTypes := #[t, t] }) (hw : Region.wanted o (yielded ops a.tmps) = true)
    (ht : P.underlying t = some (.slice (Ty.id α))) (v : Value) (xs : List α) (HS : Own W (.own v xs :: R) w) (hs : a.eval s = v) (vy : Value) (ys : List α) (hx : a.eval x = vy) (hy : Rd w vy ys)
    (hlen : (xs.length + ys.length) * El.bytes P α ≤ 140737488355328) (hl2 : xs.length + ys.length ≤ 140737488355328)
    (h : ∀ v' w', Own W (.own v' (xs ++ ys) :: R) w' → K (a.put o.dst v') w') : if Region.wanted o (yielded ops a.tmps) = true then Oper.wp P o a w K Q else E := by
  rw [if_pos hw]
  exact op_app s x t ho ht v xs HS hs vy ys hx hy hlen hl2 h
end
end Go.Ow

/- One element of a row that a call owns, taken out and put back. -/
namespace Go.Ow
set_option linter.unusedSimpArgs false
set_option linter.unusedVariables false
open Go.RowKit

theorem flatten_out {β : Type} : ∀ (l : List (List β)) (j : Nat) (x : List β), l[j]? = some x → l.flatten.Perm (x ++ (l.set j []).flatten)
  | [], _, _, h => by simp at h
  | y :: l, 0, x, h => by simp at h; subst h; simp
  | y :: l, j + 1, x, h => by
    have ih := flatten_out l j x (by simpa using h)
    simp only [List.flatten_cons, List.set_cons_succ]
    refine (ih.append_left y).trans ?_
    rw [← List.append_assoc, ← List.append_assoc]
    exact List.perm_append_comm.append_right _
theorem flatten_put {β : Type} : ∀ (l : List (List β)) (k : Nat), (∀ c ∈ l, c.length = k) → ∀ (j t : Nat) (cs : List β) (u : β), l[j]? = some cs → t < k → (l.set j (cs.set t u)).flatten = l.flatten.set (j * k + t) u
  | [], _, _, _, _, _, _, h, _ => by simp at h
  | y :: l, k, hk, 0, t, cs, u, h, ht => by
    simp at h; subst h
    have := hk y (by simp)
    simp only [List.set_cons_zero, List.flatten_cons, Nat.zero_mul, Nat.zero_add]
    rw [List.set_append_left _ _ (by omega)]
  | y :: l, k, hk, j + 1, t, cs, u, h, ht => by
    have hy := hk y (by simp)
    simp only [List.set_cons_succ, List.flatten_cons]
    rw [flatten_put l k (fun c hc => hk c (by simp [hc])) j t cs u (by simpa using h) ht, List.set_append_right _ _ (by rw [hy, Nat.succ_mul]; omega), show (j + 1) * k + t - y.length = j * k + t by rw [hy, Nat.succ_mul]; omega]

section
variable {α : Type} [Cd α]
/-- The row without the blocks of element j; its cells at j are cs. -/
def HoleP (e g cap : Nat) (xs : List α) (j : Nat) (cs : List Value) (w : World) (fp : List Nat) : Prop :=
  ∃ (cur : Array Value) (css : List (List Value)) (fps : List (List Nat)),
    w.heap[g]? = some (.cells cur e (0, 0)) ∧ j < xs.length ∧ xs.length ≤ cap ∧ cap ≤ maxLen ∧ xs.length ≤ 140737488355328 ∧
    cur.size = cap * Cd.z α ∧ css.length = xs.length ∧ fps.length = xs.length ∧ (∀ c ∈ css, c.length = Cd.z α) ∧ cur.toList.take (xs.length * Cd.z α) = List.flatten css ∧
    css[j]? = some cs ∧ fps[j]? = some [] ∧
    (∀ (i : Nat) (x : α) (c : List Value) (f : List Nat), i ≠ j → xs[i]? = some x → css[i]? = some c → fps[i]? = some f → Cd.dp w x c f) ∧ fp = g :: List.flatten fps

def Ds.hole [Ty α] (g cap : Nat) (xs : List α) (j : Nat) (cs : List Value) : Ds := .any (HoleP (Ty.id α) g cap xs j cs)
  (by
    rintro w w' fp ⟨cur, css, fps, hg, h0, h1, h2, h3, h4, h5, h6, h7, h8, h9, h10, h11, rfl⟩ hs
    exact ⟨cur, css, fps, (hs g (by simp)).trans hg, h0, h1, h2, h3, h4, h5, h6, h7, h8, h9, h10, fun i x c f hi hx hc hf =>
      Cd.dp_loc (h11 i x c f hi hx hc hf) (fun b hb => hs b (List.mem_cons_of_mem _ (List.mem_flatten.2 ⟨f, List.mem_of_getElem? hf, hb⟩))), rfl⟩)
  (by
    rintro w fp ⟨cur, css, fps, hg, h0, h1, h2, h3, h4, h5, h6, h7, h8, h9, h10, h11, rfl⟩ b hb
    rcases List.mem_cons.1 hb with rfl | hb
    · exact (Array.getElem?_eq_some_iff.1 hg).1
    · obtain ⟨f, hf, hbf⟩ := List.mem_flatten.1 hb
      obtain ⟨k, hk, rfl⟩ := List.getElem_of_mem hf
      by_cases hkj : k = j
      · subst hkj
        rw [List.getElem?_eq_getElem hk] at h10
        rw [Option.some.inj h10] at hbf
        cases hbf
      · exact Cd.dp_lt (h11 k xs[k] css[k] fps[k] hkj (List.getElem?_eq_getElem (by omega)) (List.getElem?_eq_getElem (by omega)) (List.getElem?_eq_getElem (by omega))) b hbf)

variable [Ty α] {W w : World} {R : List Ds} {g cap : Nat} {xs : List α} {j : Nat}

theorem Own.focus {n : Nat} (h : Own W (.own (.slice (some ⟨g, 0, none⟩) n cap) xs :: R) w) (hj : j < xs.length) :
    ∃ cs, Own W (.elt cs xs[j] :: .hole g cap xs j cs :: R) w := by
  obtain ⟨hb, fp, ⟨f, r, rfl, hd, hR⟩, hn, hl⟩ := h
  rcases hd with ⟨he, _⟩ | ⟨g', cap', cur, css, fps, he, hg, h1, h2, h3, hcs, hcl, hfl, ht, hd, rfl⟩
  · injection he with he; cases he
  · injection he with he1 he2 he3
    injection he1 with he1
    injection he1 with he1
    subst he1 he3
    have hall : ∀ cs ∈ css, cs.length = Cd.z α := by
      intro cs hcs'
      obtain ⟨k, hk, rfl⟩ := List.getElem_of_mem hcs'
      exact Cd.rd_len (Cd.dp_rd (hd k xs[k] css[k] fps[k] (List.getElem?_eq_getElem (by omega)) (List.getElem?_eq_getElem (by omega)) (List.getElem?_eq_getElem (by omega))))
    have hx : xs[j]? = some xs[j] := List.getElem?_eq_getElem hj
    have hc : css[j]? = some css[j] := List.getElem?_eq_getElem (by omega)
    have hf : fps[j]? = some fps[j] := List.getElem?_eq_getElem (by omega)
    have hp : (fps[j] ++ ((g :: (fps.set j []).flatten) ++ r)).Perm ((g :: fps.flatten) ++ r) := by
      rw [← List.append_assoc]
      refine List.Perm.append_right r ?_
      exact List.perm_middle.trans ((flatten_out fps j _ hf).symm.cons g)
    refine ⟨css[j], hb, fps[j] ++ ((g :: (fps.set j []).flatten) ++ r), ⟨_, _, rfl, hd j _ _ _ hx hc hf, _, _, rfl, ?_, hR⟩, hp.nodup_iff.2 hn, fun b hb => hl b (hp.mem_iff.1 hb)⟩
    refine ⟨cur, css, fps.set j [], hg, hj, h1, h2, h3, hcs, hcl, by simpa using hfl, hall, ht, hc, List.getElem?_set_self (by omega), fun i x c f' hi hx hc hf => hd i x c f' hx hc ?_, rfl⟩
    rwa [List.getElem?_set_ne (by omega)] at hf

theorem Own.unfocus {cs : List Value} {x : α} (h : Own W (.elt cs x :: .hole g cap xs j cs :: R) w) : Own W (.own (.slice (some ⟨g, 0, none⟩) xs.length cap) (xs.set j x) :: R) w := by
  obtain ⟨hb, fp, ⟨f, r1, rfl, hx, f2, r, rfl, ⟨cur, css, fps, hg, h0, h1, h2, h3, h4, h5, h6, h7, h8, h9, h10, h11, rfl⟩, hR⟩, hn, hl⟩ := h
  have hp : ((g :: (fps.set j f).flatten) ++ r).Perm (f ++ ((g :: fps.flatten) ++ r)) := by
    have hlt : j < fps.length := by omega
    have e : (fps.set j f).set j [] = fps := by
      rw [List.set_set]
      refine List.ext_getElem (by simp) (fun i hi1 hi2 => ?_)
      rw [List.getElem_set]
      split
      · rename_i hij; subst hij
        rw [List.getElem?_eq_getElem hlt] at h10
        exact (Option.some.inj h10).symm
      · rfl
    have h := flatten_out (fps.set j f) j f (List.getElem?_set_self (by omega))
    rw [e] at h
    rw [← List.append_assoc]
    exact List.Perm.append_right r ((h.cons g).trans List.perm_middle.symm)
  refine ⟨hb, _, ⟨g :: (fps.set j f).flatten, r, rfl, .inr ⟨g, cap, cur, css, fps.set j f, by rw [List.length_set], hg, by simpa using h1, h2, by simpa using h3, h4, by simpa using h5, by simpa using h6, by rw [List.length_set]; exact h8, ?_, rfl⟩, hR⟩, hp.nodup_iff.2 hn, fun b hb => hl b (hp.mem_iff.1 hb)⟩
  intro i y c f' hy hc hf
  by_cases hij : i = j
  · subst hij
    rw [List.getElem?_set_self (by omega)] at hy hf
    rw [h9] at hc
    cases hy; cases hc; cases hf
    exact hx
  · rw [List.getElem?_set_ne (by omega)] at hy hf
    exact h11 i y c f' hij hy hc hf

/-- The cells of the element that is out. -/
theorem Own.holec {cs : List Value} (h : Own W (.hole g cap xs j cs :: R) w) : cs.length = Cd.z α ∧ j < xs.length ∧ (∀ t, t < Cd.z α → w.cell? ⟨g, j * Cd.z α + t, none⟩ = cs[t]?) ∧ (∀ t, w.frozen? ⟨g, t, none⟩ = false) ∧ g < w.heap.size := by
  obtain ⟨hb, fp, ⟨f2, r, rfl, ⟨cur, css, fps, hg, h0, h1, h2, h3, h4, h5, h6, h7, h8, h9, h10, h11, rfl⟩, hR⟩, hn, hl⟩ := h
  refine ⟨h7 _ (List.mem_of_getElem? h9), h0, fun t ht => ?_, fun t => by simp [World.frozen?, hg], (Array.getElem?_eq_some_iff.1 hg).1⟩
  have := flatten_at h7 h9 ht
  rw [← h8, List.getElem?_take] at this
  have hlt : j * Cd.z α + t < xs.length * Cd.z α := by
    have : (j + 1) * Cd.z α ≤ xs.length * Cd.z α := Nat.mul_le_mul_right _ h0
    rw [Nat.succ_mul] at this; omega
  rw [if_pos hlt] at this
  rw [cell_of_row w g _ cur _ (0, 0) hg, ← this]
  simp

/-- A cell of it is written. -/
theorem Own.holeput {cs : List Value} (h : Own W (.hole g cap xs j cs :: R) w) (t : Nat) (ht : t < Cd.z α) (u : Value) : Own W (.hole g cap xs j (cs.set t u) :: R) (w.setCell ⟨g, j * Cd.z α + t, none⟩ u) := by
  refine Own.upd (R1 := [.hole g cap xs j cs]) (R1' := [.hole g cap xs j (cs.set t u)]) h rfl rfl rfl (by simp [World.setCell]) ?_
  rintro fp ⟨f, r, rfl, ⟨cur, css, fps, hg, h0, h1, h2, h3, h4, h5, h6, h7, h8, h9, h10, h11, rfl⟩, rfl⟩ hn
  have hne : ∀ b ∈ fps.flatten, b ≠ g := by
    intro b hb e; subst e
    simp at hn
    obtain ⟨f, hf, hbf⟩ := List.mem_flatten.1 hb
    exact hn.1 f hf hbf
  have hz := h7 _ (List.mem_of_getElem? h9)
  refine ⟨fun k _ hk => Below.heap_setCell _ _ _ _ (fun e => hk (by simp [e])), _, ⟨g :: fps.flatten, [], rfl, ⟨cur.setIfInBounds (j * Cd.z α + t) u, css.set j (cs.set t u), fps, ?_, h0, h1, h2, h3, by simpa using h4, by simpa using h5, h6, ?_, ?_, List.getElem?_set_self (by omega), h10, ?_, rfl⟩, rfl⟩, by simpa using hn, fun x hx => .inl (by simpa using hx)⟩
  · simp only [World.setCell, Array.getElem?_modify, hg, Option.map_some]
    simp
  · intro c hc
    rcases List.mem_or_eq_of_mem_set hc with h' | h'
    · exact h7 c h'
    · rw [h', List.length_set]; exact hz
  · rw [flatten_put css _ h7 j t cs u h9 ht, ← h8, Array.toList_setIfInBounds, List.take_set]
  · intro i x c f hij hx hc hf
    rw [List.getElem?_set_ne (by omega)] at hc
    exact Cd.dp_loc (h11 i x c f hij hx hc hf) (fun b hb => Below.heap_setCell _ _ _ _ (fun e => hne b (List.mem_flatten.2 ⟨f, List.mem_of_getElem? hf, hb⟩) e))

/-- What is not needed any more, behind the first. -/
theorem Own.only {r : Ds} (h : Own W (r :: R) w) : Own W [r] w := by
  induction R with
  | nil => exact h
  | cons a R ih => exact ih ((h.pick 1 rfl).drop)
/-! An element's parts. -/
omit [Ty α] in
theorem Own.elt_pair {β : Type} [Cd β] {cs : List Value} {x : α} {y : β} (h : Own W (.elt cs (x, y) :: R) w) : ∃ a b, cs = a ++ b ∧ Own W (.elt a x :: .elt b y :: R) w := by
  obtain ⟨hb, fp, ⟨f, r, rfl, ⟨a, b, f1, f2, rfl, rfl, h1, h2⟩, hR⟩, hn, hl⟩ := h
  exact ⟨a, b, rfl, hb, _, ⟨f1, f2 ++ r, by simp, h1, f2, r, rfl, h2, hR⟩, hn, hl⟩
omit [Ty α] in
theorem Own.pair_elt {β : Type} [Cd β] {a b : List Value} {x : α} {y : β} (h : Own W (.elt a x :: .elt b y :: R) w) : Own W (.elt (a ++ b) (x, y) :: R) w := by
  obtain ⟨hb, fp, ⟨f1, r1, rfl, h1, f2, r, rfl, h2, hR⟩, hn, hl⟩ := h
  exact ⟨hb, _, ⟨f1 ++ f2, r, by simp, ⟨a, b, f1, f2, rfl, rfl, h1, h2⟩, hR⟩, hn, hl⟩
theorem Own.elt_list {cs : List Value} {ys : List α} (h : Own W (.elt cs ys :: R) w) : ∃ v, cs = [v] ∧ Own W (.own v ys :: R) w := by
  obtain ⟨hb, fp, ⟨f, r, rfl, ⟨v, rfl, hd⟩, hR⟩, hn, hl⟩ := h
  exact ⟨v, rfl, hb, _, ⟨f, r, rfl, hd, hR⟩, hn, hl⟩
theorem Own.list_elt {v : Value} {ys : List α} (h : Own W (.own v ys :: R) w) : Own W (.elt [v] ys :: R) w := by
  obtain ⟨hb, fp, ⟨f, r, rfl, hd, hR⟩, hn, hl⟩ := h
  exact ⟨hb, _, ⟨f, r, rfl, ⟨v, rfl, hd⟩, hR⟩, hn, hl⟩
end
section
variable {α : Type} [Fl α] {W w : World} {R : List Ds}
theorem Own.elt_fl {cs : List Value} {x : α} (h : Own W (.elt cs x :: R) w) : cs = Fl.fl x ∧ Own W R w := by
  obtain ⟨hb, fp, ⟨f, r, rfl, hd, hR⟩, hn, hl⟩ := id h
  exact ⟨(Fl.dp_fl.1 hd).1, h.drop⟩
theorem Own.fl_elt (x : α) (h : Own W R w) : Own W (.elt (Fl.fl x) x :: R) w :=
  Own.call (Rn := [.elt (Fl.fl x) x]) h ⟨Below.refl _ _, [], ⟨[], [], rfl, Fl.dp_fl.2 ⟨rfl, rfl⟩, rfl⟩, by simp, by simp⟩
end
end Go.Ow

/- The append, its outcome under a name of its own. -/
namespace Go.Ow
set_option linter.unusedSimpArgs false
set_option linter.unusedVariables false
open Go.RowKit
section
variable {P : Program} {ops : Array Oper} {rest : List Oper} {o : Oper} {a : Act} {K : Act → World → Prop} {Q : Exit → Act → World → Prop} {E : Prop} {w W : World} {R : List Ds}
theorem app_named {α : Type} [Cd α] [Ty α] {v : Value} {xs ys : List α} (h : Own W (.own v (xs ++ ys) :: R) w) :
    ∃ q, Hid (q = xs ++ ys) ∧ q.length ≤ xs.length + ys.length ∧ Own W (.own v q :: R) w :=
  ⟨_, Lib.hid rfl, by rw [List.length_append]; omega, h⟩
theorem wp_app2 {α : Type} [Fl α] [Ty α] [El P α] (hgd : o.guard = none) (s x : Operand) (t : TypeId) (ho : o.op = .call { callee := .builtin .append, args := #[s, x], argTypes := #[t, t] })
    (ht : P.underlying t = some (.slice (Ty.id α))) (v : Value) (xs : List α) (HS : Own W (.own v xs :: R) w) (hs : a.eval s = v) (vy : Value) (ys : List α) (hx : a.eval x = vy) (hy : Rd w vy ys)
    (hlen : (xs.length + ys.length) * El.bytes P α ≤ 140737488355328) (hl2 : xs.length + ys.length ≤ 140737488355328)
    (h : ∀ (v' : Value) (q : List α) w', Hid (q = xs ++ ys) → q.length ≤ xs.length + ys.length → Own W (.own v' q :: R) w' → wpList P ops Q rest (a.put o.dst v') w') : wpList P ops Q (o :: rest) a w :=
  wp_app hgd s x t ho ht v xs HS hs vy ys hx hy hlen hl2 (fun v' w' hv => by
    obtain ⟨q, h1, h2, h3⟩ := app_named hv
    exact h v' q w' h1 h2 h3)
theorem hp_app2 {α : Type} [Fl α] [Ty α] [El P α] (s x : Operand) (t : TypeId) (ho : o.op = .call { callee := .builtin .append, args := #[s, x], argTypes := #[t, t] }) (hw : Region.wanted o (yielded ops a.tmps) = true)
    (ht : P.underlying t = some (.slice (Ty.id α))) (v : Value) (xs : List α) (HS : Own W (.own v xs :: R) w) (hs : a.eval s = v) (vy : Value) (ys : List α) (hx : a.eval x = vy) (hy : Rd w vy ys)
    (hlen : (xs.length + ys.length) * El.bytes P α ≤ 140737488355328) (hl2 : xs.length + ys.length ≤ 140737488355328)
    (h : ∀ (v' : Value) (q : List α) w', Hid (q = xs ++ ys) → q.length ≤ xs.length + ys.length → Own W (.own v' q :: R) w' → K (a.put o.dst v') w') : if Region.wanted o (yielded ops a.tmps) = true then Oper.wp P o a w K Q else E :=
  hp_app s x t ho hw ht v xs HS hs vy ys hx hy hlen hl2 (fun v' w' hv => by
    obtain ⟨q, h1, h2, h3⟩ := app_named hv
    exact h v' q w' h1 h2 h3)
end
end Go.Ow

/- A goal at a world in which a variable was just made or written. -/
namespace Go.Ow
set_option linter.unusedSimpArgs false
set_option linter.unusedVariables false
open Go.RowKit
theorem at_box {W w : World} {R : List Ds} {t : TypeId} {v : Value} {G : World → Prop} (HS : Own W R w) (h : Own W (.box w.heap.size t [v] :: R) (w.alloc (.cells #[v] t)) → G (w.alloc (.cells #[v] t))) : G (w.alloc (.cells #[v] t)) := h (HS.box [v] t)
theorem at_set {W w : World} {R : List Ds} {t b : Nat} {u v : Value} {G : World → Prop} (i : Nat) (hi : R[i]? = some (.box b t [u])) (HS : Own W R w) (h : Own W (.box b t [v] :: R.eraseIdx i) (w.setCell ⟨b, 0, none⟩ v) → G (w.setCell ⟨b, 0, none⟩ v)) : G (w.setCell ⟨b, 0, none⟩ v) := h ((HS.pick i hi).set 0 v)
theorem th_box {W w : World} {R : List Ds} {t : TypeId} {v : Value} {K : Act → World → Prop} {Q : Exit → Act → World → Prop} {e : Exit} {a : Act} (HS : Own W R w) (h : Own W (.box w.heap.size t [v] :: R) (w.alloc (.cells #[v] t)) → Exit.then K Q e a (w.alloc (.cells #[v] t))) : Exit.then K Q e a (w.alloc (.cells #[v] t)) := h (HS.box [v] t)
theorem th_set {W w : World} {R : List Ds} {t b : Nat} {u v : Value} {K : Act → World → Prop} {Q : Exit → Act → World → Prop} {e : Exit} {a : Act} (i : Nat) (HS : Own W R w) (hi : R[i]? = some (.box b t [u])) (h : Own W (.box b t [v] :: R.eraseIdx i) (w.setCell ⟨b, 0, none⟩ v) → Exit.then K Q e a (w.setCell ⟨b, 0, none⟩ v)) : Exit.then K Q e a (w.setCell ⟨b, 0, none⟩ v) := h ((HS.pick i hi).set 0 v)
end Go.Ow

/- The sum of 32 bits, in plain numbers. -/
namespace Go.Ow
set_option linter.unusedSimpArgs false
set_option linter.unusedVariables false
def cstep (v : Nat) : Nat := if v % 2 = 1 then v / 2 ^^^ 3988292384 else v / 2
def cfold : Nat → Nat → Nat
  | 0, v => v
  | k + 1, v => cfold k (cstep v)
theorem cstep_xor (a b : Nat) : cstep (a ^^^ b) = cstep a ^^^ cstep b := by
  unfold cstep
  rw [Nat.xor_div_two]
  have h := Nat.xor_mod_two_eq_one (a := a) (b := b)
  by_cases ha : a % 2 = 1 <;> by_cases hb : b % 2 = 1 <;> simp [ha, hb] at h ⊢
  · rw [Nat.xor_assoc, Nat.xor_comm 3988292384, Nat.xor_assoc, Nat.xor_self, Nat.xor_zero]
  · rw [Nat.xor_assoc, Nat.xor_comm _ 3988292384, ← Nat.xor_assoc]
  · rw [Nat.xor_assoc]
theorem cfold_xor : ∀ (k a b : Nat), cfold k (a ^^^ b) = cfold k a ^^^ cfold k b
  | 0, _, _ => rfl
  | k + 1, a, b => by rw [cfold, cstep_xor, cfold_xor k]; rfl
theorem cfold_two : ∀ (k m : Nat), cfold k (2 ^ k * m) = m
  | 0, m => by simp [cfold]
  | k + 1, m => by
    have e : 2 ^ (k + 1) * m = 2 * (2 ^ k * m) := by rw [Nat.pow_succ, Nat.mul_comm (2 ^ k) 2, Nat.mul_assoc]
    have h : cstep (2 ^ (k + 1) * m) = 2 ^ k * m := by unfold cstep; rw [e, if_neg (by omega)]; omega
    rw [cfold, h, cfold_two k m]
theorem split256 (u : Nat) : u = (u % 256) ^^^ (2 ^ 8 * (u / 256)) := by
  apply Nat.eq_of_testBit_eq
  intro i
  rw [Nat.testBit_xor, show (256 : Nat) = 2 ^ 8 by rfl, Nat.testBit_mod_two_pow, Nat.testBit_two_pow_mul, Nat.testBit_div_two_pow]
  by_cases h : i < 8
  · simp [h, show ¬ 8 ≤ i by omega]
  · have : 8 ≤ i := by omega
    simp [h, this]
theorem cfold_split (u : Nat) : cfold 8 u = cfold 8 (u % 256) ^^^ u / 256 := by
  conv => lhs; rw [split256 u]
  rw [cfold_xor, cfold_two]
theorem xor_div256 (v x : Nat) (hx : x < 256) : (v ^^^ x) / 256 = v / 256 := by
  rw [show (256 : Nat) = 2 ^ 8 by rfl, Nat.xor_div_two_pow, Nat.div_eq_of_lt (a := x) (by omega), Nat.xor_zero]
theorem cspec (v x : Nat) (hx : x < 256) : cfold 8 ((v ^^^ x) % 256) ^^^ v / 256 = cfold 8 (v ^^^ x) := by
  rw [cfold_split (v ^^^ x), xor_div256 v x hx]
theorem cstep_lt (v : Nat) (h : v < 4294967296) : cstep v < 4294967296 := by
  unfold cstep
  split
  · exact Nat.xor_lt_two_pow (n := 32) (by omega) (by omega)
  · omega
theorem cfold_lt : ∀ (k v : Nat), v < 4294967296 → cfold k v < 4294967296
  | 0, _, h => h
  | k + 1, v, h => cfold_lt k _ (cstep_lt v h)
/-- The sum so far. -/
def crun : List UInt8 → Nat → Nat
  | [], v => v
  | x :: l, v => crun l (cfold 8 (v ^^^ x.toNat))
theorem xor_top (v : Nat) (h : v < 4294967296) : v ^^^ 4294967295 = 4294967295 - v := by
  have := Nat.xor_lt_two_pow (x := v) (y := 4294967295) (n := 32) (by omega) (by omega)
  apply Nat.eq_of_testBit_eq
  intro i
  rw [show (4294967295 : Nat) - v = 2 ^ 32 - (v + 1) by omega, Nat.testBit_two_pow_sub_succ (by omega), Nat.testBit_xor, show (4294967295 : Nat) = 2 ^ 32 - 1 by rfl, Nat.testBit_two_pow_sub_one]
  by_cases h2 : i < 32
  · simp [h2]
  · simp [h2]
    exact Nat.testBit_lt_two_pow (by have := Nat.pow_le_pow_right (n := 2) (by omega) (show 32 ≤ i by omega); omega)
end Go.Ow

/- Parts of slices, and bytes to strings. -/
namespace Go.Ow
set_option linter.unusedSimpArgs false
set_option linter.unusedVariables false
open Go.RowKit
theorem rd_sub {α : Type} [Cd α] {w : World} {b o n c : Nat} {xs : List α} (h : Rd w (.slice (some ⟨b, o, none⟩) n c) xs) (i k : Nat) (hi : i + k ≤ xs.length) : Rd w (.slice (some ⟨b, o + i * Cd.z α, none⟩) k (c - i)) ((xs.drop i).take k) := by
  obtain ⟨A, c', he, h1, h2, h3, _, h4⟩ := h
  injection he with he1 he2 he3
  subst he1 he3
  have hl : ((xs.drop i).take k).length = k := by simp; omega
  refine ⟨some ⟨b, o + i * Cd.z α, none⟩, c - i, by rw [hl], by omega, by omega, by omega, fun h => (by cases h), fun j hj => ?_⟩
  rw [hl] at hj
  obtain ⟨b', o', cs, he, hr, hc⟩ := h4 (i + j) (by omega)
  injection he with he
  injection he with e1 e2
  subst e1 e2
  refine ⟨b, o + i * Cd.z α, cs, rfl, ?_, fun t ht => ?_⟩
  · have e : ((xs.drop i).take k)[j]'(by omega) = xs[i + j] := by simp
    rw [e]; exact hr
  · have := hc t ht
    rw [Nat.add_mul] at this
    rw [show o + i * Cd.z α + j * Cd.z α + t = o + (i * Cd.z α + j * Cd.z α) + t by omega]
    exact this
/-- A part of no element, wherever it begins. -/
theorem rd_none {α : Type} [Cd α] {w : World} {A : Option Addr} {c : Nat} (hc : c ≤ maxLen) (hA : A = none → c = 0) : Rd w (.slice A 0 c) ([] : List α) :=
  ⟨A, c, rfl, Nat.zero_le _, hc, Nat.zero_le _, hA, fun i hi => by simp at hi⟩
theorem run_cv {P : Program} {w : World} {src dst e : TypeId} {v : Value} {l : List UInt8} (hs : P.underlying src = some (.slice e)) (he : P.underlying e = some (.int .u8)) (hd : P.underlying dst = some .string) (h : Rd w v l) :
    (convert src dst v).run P w = .ok (.string ⟨l.toArray⟩) w := by
  obtain ⟨A, c, rfl, h1, h2, h3, hA, h4⟩ := id h
  cases A with
  | none =>
    obtain rfl := hA rfl
    obtain rfl : l = [] := List.eq_nil_of_length_eq_zero (by omega)
    exact Go.Lib.run_convert_nil_bytes w src dst e 0 hs he hd
  | some ad =>
    refine run_convert_bytes_back w src dst e ad c l hs he hd fun j hj => ?_
    obtain ⟨b, o, cs, hab, _, _⟩ := h4 j hj
    obtain rfl := Option.some.inj hab
    have := By.rd h j hj
    rw [Addr.add_lit]; exact this
theorem rd_subV {α : Type} [Cd α] {w : World} {A : Option Addr} {n c : Nat} {xs : List α} (h : Rd w (.slice A n c) xs) (lo hi : Nat) (h1 : lo ≤ hi) (h2 : hi ≤ xs.length) : Rd w (sliced A lo hi c (Cd.z α)) ((xs.drop lo).take (hi - lo)) := by
  have hn := h.len
  subst hn
  by_cases hx : 0 < xs.length
  · obtain ⟨b, o, rfl⟩ := h.fix hx
    unfold sliced
    by_cases hc : c = lo
    · have : hi - lo = 0 := by obtain ⟨A, c', he, h3, _⟩ := h; injection he with _ _ he; omega
      rw [if_pos hc, this, List.take_zero]
      obtain ⟨A, c', he, h3, h4, _⟩ := h
      injection he with _ _ he
      exact rd_none (by omega) (fun h => by cases h)
    · rw [if_neg hc]
      have := rd_sub h lo (hi - lo) (by omega)
      simpa [Addr.add_lit] using this
  · have e : xs = [] := List.eq_nil_of_length_eq_zero (by omega)
    subst e
    have e2 : lo = 0 := by simp at h2; omega
    have e3 : hi = 0 := by simp at h2; omega
    subst e2 e3
    obtain ⟨A', c', he, h3, h4, _, hA, _⟩ := h
    injection he with he1 _ he2
    subst he1 he2
    unfold sliced
    simp only [List.drop_nil, List.take_nil, Nat.sub_zero]
    refine rd_none h4 (fun h => ?_)
    split at h
    · exact hA h
    · cases A with
      | none => exact hA rfl
      | some a => cases h
theorem run_subV {P : Program} {w : World} {t e z : Nat} (ht : P.underlying t = some (.slice e)) (hz : (sizeOf e).run P w = .ok z w) (A : Option Addr) (n c : Nat) (lo hi : Int) (h0 : 0 ≤ lo) (h1 : lo ≤ hi) (h2 : hi ≤ c) :
    (Instr.sliceAt t (.slice A n c) (some (.int .i64 lo)) (some (.int .i64 hi)) none).run P w = .ok (sliced A lo.toNat hi.toNat c z) w := by
  have he : P.elem t = e := by simp [Program.elem, ht]
  have ht' : P.underlying t = some (.slice (P.elem t)) := by rw [he]; exact ht
  rw [run_sliceAt_slice w t _ _ _ _ ht', run_slice_lh w t A n c ht' .i64 .i64 lo hi h0 h1 h2, he, hz]
  rfl
end Go.Ow

/- From what a row reads to plain data: a reading of the model, taken as a value of a Lean type. -/
namespace Go.Ow
set_option linter.unusedSimpArgs false
set_option linter.unusedVariables false
open Go.RowKit

/-- What is known of data that comes in: numbers in their range, strings no longer than memory. -/
class Wf (α : Type) where
  ok : α → Prop
instance : Wf Int := ⟨fun n => -9223372036854775808 ≤ n ∧ n ≤ 9223372036854775807⟩
instance : Wf UInt8 := ⟨fun _ => True⟩
instance : Wf Bool := ⟨fun _ => True⟩
instance : Wf ByteArray := ⟨fun s => s.size ≤ 140737488351232⟩
instance Wf.list {α : Type} [Wf α] : Wf (List α) := ⟨fun xs => xs.length ≤ 140737488351232 ∧ ∀ x ∈ xs, Wf.ok x⟩
instance Wf.pair {α β : Type} [Wf α] [Wf β] : Wf (α × β) := ⟨fun p => Wf.ok p.1 ∧ Wf.ok p.2⟩
@[reducible] def Wf.iso {α β : Type} [Wf α] (f : β → α) : Wf β := ⟨fun b => Wf.ok (f b)⟩

class Dc (P : Program) (α : Type) [Cd α] [Wf α] (t : TypeId) : Prop where
  dc : ∀ {H : Type} {enc : TypeId × Value → H} {w : World} {fuel : Nat} {cs : List Value} {x : DataW H × List MemPlace}, DataW.trod enc P w 0 (fun _ => true) true fuel t cs = some x →
    (∀ n ∈ DataW.weights P t x.1, n ≤ 140737488351232) → ∃ y : α, Cd.rd w y cs ∧ Wf.ok y

section
variable {P : Program} {t : TypeId}
theorem Dc.int (ht : P.underlying t = some (.int .i64)) : Dc P Int t := ⟨by
  intro H enc w fuel cs x h _
  obtain ⟨n, rfl, _, hw⟩ := DataW.trod_int ht h
  refine ⟨n, rfl, ?_⟩
  simp only [Lit.wf, IntKind.min, IntKind.max, IntKind.bits, IntKind.signed] at hw
  simp at hw
  exact ⟨by omega, by omega⟩⟩
theorem Dc.byte (ht : P.underlying t = some (.int .u8)) : Dc P UInt8 t := ⟨by
  intro H enc w fuel cs x h _
  obtain ⟨m, rfl, _, hw⟩ := DataW.trod_int ht h
  have hw' : 0 ≤ m ∧ m ≤ 255 := by
    simp only [Lit.wf, IntKind.min, IntKind.max, IntKind.bits, IntKind.signed] at hw
    simp at hw
    exact ⟨by omega, by omega⟩
  refine ⟨UInt8.ofNat m.toNat, ?_, trivial⟩
  show [Value.int .u8 m] = [Value.int .u8 (((UInt8.ofNat m.toNat).toNat : Nat) : Int)]
  rw [UInt8.toNat_ofNat_of_lt' (by show m.toNat < 256; omega), Int.toNat_of_nonneg hw'.1]⟩
theorem Dc.bool (ht : P.underlying t = some .bool) : Dc P Bool t := ⟨by
  intro H enc w fuel cs x h _
  obtain ⟨b, rfl, _⟩ := DataW.trod_bool ht h
  exact ⟨b, rfl, trivial⟩⟩
theorem Dc.str (ht : P.underlying t = some .string) : Dc P ByteArray t := ⟨by
  intro H enc w fuel cs x h hw
  obtain ⟨s, rfl, rfl, _⟩ := DataW.trod_string ht h
  refine ⟨s, rfl, ?_⟩
  have := hw s.data.toList.length (by simp [DataW.weights])
  exact (by simpa using this : s.size ≤ 140737488351232)⟩

theorem cells_get {w : World} {a : Addr} {n : Nat} {cs : List Value} (h : w.cells? 0 a n = some cs) : cs.length = n ∧ ∀ j, j < n → w.cell? (a.add j) = cs[j]? := by
  unfold World.cells? at h
  rw [if_pos (Nat.zero_le _)] at h
  refine ⟨by rw [mapM_some_length h, List.length_range], fun j hj => ?_⟩
  exact mapM_some_get h j j (by simp [hj])

theorem weights_all {H : Type} {e : TypeId} : ∀ {ds : List (DataW H)} {d : DataW H}, d ∈ ds → ∀ n ∈ DataW.weights P e d, n ∈ DataW.weightsAll P e ds
  | _ :: _, _, .head _, n, hn => by simp [DataW.weightsAll, hn]
  | _ :: _, _, .tail _ h, n, hn => by simp [DataW.weightsAll, weights_all h n hn]

theorem Dc.list {α : Type} [Cd α] [Wf α] [Ty α] {e : TypeId} (he : Dc P α e) (ht : P.underlying t = some (.slice e)) (hz : P.cellsOf e = Cd.z α) (hb : 0 < P.bytesOf e) : Dc P (List α) t := ⟨by
  intro H enc w fuel cs x h hw
  have hzp := Cd.zpos (α := α)
  rcases DataW.trod_slice ht h with ⟨rfl, rfl⟩ | ⟨a, len, cap, elems, rest, n, _, rfl, rfl, _, hl, hm, hlen, hel, hsp, _⟩
  · exact ⟨[], ⟨_, rfl, none, 0, rfl, Nat.zero_le _, Nat.zero_le _, Nat.zero_le _, fun _ => rfl, fun i hi => by simp at hi⟩, Nat.zero_le _, fun _ h => by cases h⟩
  · have hwt : ∀ n ∈ DataW.weights P t (.slice (elems.map (·.1)) (rest.map (·.1)) : DataW H), n ≤ 140737488351232 := hw
    rw [DataW.weights, ht] at hwt
    have hbig : len ≤ 140737488351232 := by
      have := hwt _ (List.mem_cons_self)
      simp only [List.length_map] at this
      have h2 : elems.length * 1 ≤ (elems.length + rest.length) * P.bytesOf e := Nat.mul_le_mul (Nat.le_add_right _ _) hb
      omega
    have each : ∀ i, i < len → ∃ y : α, ∃ cs : List Value, (Cd.rd w y cs ∧ Wf.ok y) ∧ ∀ j, j < Cd.z α → w.cell? ((a.add (i * Cd.z α)).add j) = cs[j]? := by
      intro i hi
      have h1 := hel i hi
      rw [List.getElem?_eq_getElem (by omega), Option.bind_eq_some_iff, hz] at h1
      obtain ⟨ccs, hcs, htr⟩ := h1
      obtain ⟨y, hy⟩ := he.dc htr (fun n hn => hwt n (by
        refine List.mem_cons_of_mem _ (List.mem_append_left _ (weights_all ?_ n hn))
        exact List.mem_map.2 ⟨_, List.getElem_mem (by omega), rfl⟩))
      exact ⟨y, ccs, hy, (cells_get hcs).2⟩
    have hex : ∃ ys : List α, ys.length = len ∧ ∀ i (hi : i < ys.length), ∃ cs : List Value, (Cd.rd w ys[i] cs ∧ Wf.ok ys[i]) ∧ ∀ j, j < Cd.z α → w.cell? ((a.add (i * Cd.z α)).add j) = cs[j]? := by
      clear hel hsp hlen hwt hl hbig hw h
      induction len with
      | zero => exact ⟨[], rfl, fun i hi => by simp at hi⟩
      | succ k ih =>
        obtain ⟨ys, hys, hy⟩ := ih (fun i hi => each i (by omega))
        obtain ⟨y, ccs, h1, h2⟩ := each k (by omega)
        refine ⟨ys ++ [y], by simp [hys], fun i hi => ?_⟩
        by_cases hik : i < ys.length
        · rw [List.getElem_append_left hik]; exact hy i hik
        · have : i = k := by simp at hi; omega
          subst this
          refine ⟨ccs, ?_, h2⟩
          rw [List.getElem_append_right (by omega)]
          simpa using h1
    obtain ⟨ys, hys, hy⟩ := hex
    subst hys
    refine ⟨ys, ⟨_, rfl, some a, cap, rfl, hl, hm, by omega, fun h => (by cases h), fun i hi => ?_⟩, hbig, fun y hym => ?_⟩
    rotate_left
    · obtain ⟨k, hk, rfl⟩ := List.getElem_of_mem hym
      obtain ⟨_, hr, _⟩ := hy k hk
      exact hr.2
    obtain ⟨ccs, ⟨hr, _⟩, hc⟩ := hy i hi
    have hsp0 : a.spot = none := by
      obtain ⟨cc0, ⟨hr0, _⟩, hc0⟩ := hy 0 (by omega)
      have := hc0 0 hzp
      rw [List.getElem?_eq_getElem (by rw [Cd.rd_len hr0]; exact hzp)] at this
      simp only [Nat.zero_mul, Addr.add, if_true] at this
      unfold World.cell? at this
      split at this
      · split at this
        · cases this
        · rename_i h; simpa using h
      · cases this
    obtain ⟨b, o, sp⟩ := a
    simp only at hsp0
    subst hsp0
    refine ⟨b, o, ccs, rfl, hr, fun j hj => ?_⟩
    have := hc j hj
    rw [Addr.add_lit, Addr.add_lit] at this
    exact this⟩

/-! structs -/
theorem weights_each {H : Type} : ∀ {ts : List TypeId} {ds : List (DataW H)} {i : Nat} {t : TypeId} {d : DataW H}, ts[i]? = some t → ds[i]? = some d → ∀ n ∈ DataW.weights P t d, n ∈ DataW.weightsEach P ts ds
  | _ :: _, _ :: _, 0, _, _, ht, hd, n, hn => by
    simp at ht hd; subst ht hd
    simp [DataW.weightsEach, hn]
  | _ :: _, _ :: _, i + 1, _, _, ht, hd, n, hn => by
    simp [DataW.weightsEach, weights_each (i := i) (by simpa using ht) (by simpa using hd) n hn]
  | [], _, _, _, _, ht, _, _, _ => by simp at ht
  | _ :: _, [], _, _, _, _, hd, _, _ => by simp at hd

/-- The fields from here on are those of α, their cells from 'off' on. -/
class DcF (P : Program) (α : Type) [Cd α] [Wf α] (fs : List Field) (off : Nat) : Prop where
  dcf : ∀ {H : Type} {enc : TypeId × Value → H} {w : World} {fuel : Nat} {cs : List Value} {xs : List (DataW H × List MemPlace)}, xs.length = fs.length →
    (∀ (i : Nat) (f : Field), fs[i]? = some f → DataW.trod enc P w 0 (fun _ => true) true fuel f.type ((cs.drop f.offset).take (P.cellsOf f.type)) = xs[i]?) →
    (∀ (i : Nat) (f : Field) x, fs[i]? = some f → xs[i]? = some x → ∀ n ∈ DataW.weights P f.type x.1, n ≤ 140737488351232) → cs.length = off + Cd.z α → ∃ y : α, Cd.rd w y (cs.drop off) ∧ Wf.ok y

theorem DcF.one {α : Type} [Cd α] [Wf α] {f : Field} {off : Nat} (hd : Dc P α f.type) (ho : f.offset = off) (hz : P.cellsOf f.type = Cd.z α) : DcF P α [f] off := ⟨by
  intro H enc w fuel cs xs hl htr hw hlen
  obtain ⟨x, rfl⟩ : ∃ x, xs = [x] := by cases xs with
    | nil => simp at hl
    | cons x r => cases r with
      | nil => exact ⟨x, rfl⟩
      | cons _ _ => simp at hl
  have h0 := htr 0 f rfl
  rw [ho, hz, List.take_of_length_le (by rw [List.length_drop]; omega)] at h0
  exact hd.dc h0 (hw 0 f x rfl rfl)⟩

theorem DcF.cons {α β : Type} [Cd α] [Cd β] [Wf α] [Wf β] {f : Field} {fs : List Field} {off off2 : Nat} (hd : Dc P α f.type) (ho : f.offset = off) (hz : P.cellsOf f.type = Cd.z α) (h2 : off + Cd.z α = off2) (hr : DcF P β fs off2) : DcF P (α × β) (f :: fs) off := ⟨by
  intro H enc w fuel cs xs hl htr hw hlen
  subst h2
  obtain ⟨x, r, rfl⟩ : ∃ x r, xs = x :: r := by cases xs with
    | nil => simp at hl
    | cons x r => exact ⟨x, r, rfl⟩
  have h0 := htr 0 f rfl
  rw [ho, hz] at h0
  obtain ⟨y, hy, hyo⟩ := hd.dc h0 (hw 0 f x rfl rfl)
  have hlen' : cs.length = off + (Cd.z α + Cd.z β) := hlen
  obtain ⟨z, hz', hzo⟩ := hr.dcf (enc := enc) (w := w) (fuel := fuel) (cs := cs) (xs := r) (by simpa using hl) (fun i g hg => htr (i + 1) g (by simpa using hg)) (fun i g x hg hx => hw (i + 1) g x (by simpa using hg) (by simpa using hx)) (by omega)
  refine ⟨(y, z), ⟨(cs.drop off).take (Cd.z α), cs.drop (off + Cd.z α), ?_, hy, hz'⟩, hyo, hzo⟩
  rw [← List.drop_drop, List.take_append_drop]⟩

theorem DcF.iso {α β : Type} [Cd α] [Wf α] {f : β → α} {g : α → β} (hfg : ∀ a, f (g a) = a) {fs : List Field} {off : Nat} (h : DcF P α fs off) : @DcF P β (Cd.iso f) (Wf.iso f) fs off := by
  letI : Cd β := Cd.iso f
  letI : Wf β := Wf.iso f
  exact ⟨fun hl htr hw hlen => by
    obtain ⟨y, hy, ho⟩ := h.dcf hl htr hw hlen
    exact ⟨g y, by show Cd.rd _ (f (g y)) _; rw [hfg]; exact hy, by show Wf.ok (f (g y)); rw [hfg]; exact ho⟩⟩

theorem Dc.struct {α : Type} [Cd α] [Wf α] {fs : Array Field} (h : DcF P α fs.toList 0) (ht : P.underlying t = some (.struct fs)) (hz : P.cellsOf t = Cd.z α) : Dc P α t := ⟨by
  intro H enc w fuel cs x hx hw
  obtain ⟨xs, n, rfl, rfl, hlen, hl, hm⟩ := DataW.trod_struct ht hx
  have hw' : ∀ n ∈ DataW.weights P t (.agg (xs.map (·.1)) : DataW H), n ≤ 140737488351232 := hw
  rw [DataW.weights, ht] at hw'
  have := h.dcf (cs := cs) (xs := xs) (by simpa using hl) (fun i f hf => hm i f (by simpa using hf)) (fun i f y hf hy n hn => hw' n (weights_each (i := i) (by simpa using ⟨f, by simpa using hf, rfl⟩) (by simp [hy]) n hn)) (by rw [hlen, hz, Nat.zero_add])
  rwa [List.drop_zero] at this⟩
end
/-! A row's parameter, opened. -/
section
open Go.WideShapes
variable {P : Program} {t : TypeId} {H : Type} {enc : TypeId × Value → H} {w : World} {fuel : Nat} {v : Value} {x : DataW H × List MemPlace} {b0 : Nat}
theorem open_i (ht : P.underlying t = some (.int .i64)) (hx : DataW.trod enc P w 0 (fun _ => true) true fuel t v.cells.toList = some x) (hw : ∀ n ∈ DataW.weights P t x.1, n ≤ 140737488351232) (wk : Value.okWide P w .any b0 t v) : ∃ n : Int, v = .int .i64 n ∧ Wf.ok n := by
  obtain ⟨n, rfl⟩ := okWide_int ht wk
  obtain ⟨m, hm, hok⟩ := (Dc.int ht).dc hx hw
  have : ([Value.int .i64 n] : List Value) = [Value.int .i64 m] := hm
  injection this with h _
  injection h with _ h
  subst h
  exact ⟨_, rfl, hok⟩
theorem open_b (ht : P.underlying t = some .bool) (hx : DataW.trod enc P w 0 (fun _ => true) true fuel t v.cells.toList = some x) (hw : ∀ n ∈ DataW.weights P t x.1, n ≤ 140737488351232) (wk : Value.okWide P w .any b0 t v) : ∃ b : Bool, v = .bool b ∧ Wf.ok b := by
  obtain ⟨n, rfl⟩ := okWide_bool ht wk
  exact ⟨_, rfl, trivial⟩
theorem open_s (ht : P.underlying t = some .string) (hx : DataW.trod enc P w 0 (fun _ => true) true fuel t v.cells.toList = some x) (hw : ∀ n ∈ DataW.weights P t x.1, n ≤ 140737488351232) (wk : Value.okWide P w .any b0 t v) : ∃ s : ByteArray, v = .string s ∧ Wf.ok s := by
  obtain ⟨n, rfl⟩ := okWide_string ht wk
  obtain ⟨m, hm, hok⟩ := (Dc.str ht).dc hx hw
  have : ([Value.string n] : List Value) = [Value.string m] := hm
  injection this with h _
  injection h with h
  subst h
  exact ⟨_, rfl, hok⟩
theorem open_l {α : Type} [Cd α] [Wf α] [Ty α] {e : TypeId} (dc : Dc P (List α) t) (ht : P.underlying t = some (.slice e)) (hx : DataW.trod enc P w 0 (fun _ => true) true fuel t v.cells.toList = some x) (hw : ∀ n ∈ DataW.weights P t x.1, n ≤ 140737488351232) (wk : Value.okWide P w .any b0 t v) : ∃ xs : List α, Rd w v xs ∧ Wf.ok xs := by
  obtain ⟨a, n, c, rfl⟩ := okWide_slice ht wk
  obtain ⟨xs, ⟨u, hu, hr⟩, hok⟩ := dc.dc hx hw
  have : ([Value.slice a n c] : List Value) = [u] := hu
  injection this with h _
  subst h
  exact ⟨xs, hr, hok⟩
theorem open_t {α : Type} [Cd α] [Wf α] {fs : Array Field} (dc : Dc P α t) (ht : P.underlying t = some (.struct fs)) (hx : DataW.trod enc P w 0 (fun _ => true) true fuel t v.cells.toList = some x) (hw : ∀ n ∈ DataW.weights P t x.1, n ≤ 140737488351232) (wk : Value.okWide P w .any b0 t v) : ∃ (y : α) (cs : List Value), v = .agg cs.toArray ∧ Cd.rd w y cs ∧ Wf.ok y := by
  obtain ⟨cs, rfl, _⟩ := okWide_struct ht wk
  obtain ⟨y, hy, hok⟩ := dc.dc hx hw
  exact ⟨y, cs.toList, by simp, hy, hok⟩
end
end Go.Ow

/- Leaves, states and what is made of them, as plain Lean. -/
namespace Go.Ow
set_option linter.unusedSimpArgs false
set_option linter.unusedVariables false
open Go.RowKit
structure Lf where
  p : List ByteArray
  fl : Bool
  dr : Int
  ds : Int
  v : ByteArray
  deriving DecidableEq
structure St where
  l : List Lf
  c : List Rn
  deriving DecidableEq
structure Rp where
  id : Int
  s : St
  d : St
  deriving DecidableEq
structure Dcd where
  b : List UInt8
  tk : Int
  fd : Int
  deriving DecidableEq
structure Pp where
  f : Int
  t : Int
  m : List (List UInt8)
  d : Dcd
  deriving DecidableEq
structure Wd where
  r : List Rp
  p : List Pp
  deriving DecidableEq
section
variable [Ty ByteArray]
instance instCdLf : Cd Lf := Cd.iso (fun x : Lf => (x.p, x.fl, x.dr, x.ds, x.v))
variable [Ty Rn] [Ty Lf]
instance instCdSt : Cd St := Cd.iso (fun x : St => (x.l, x.c))
instance instCdRp : Cd Rp := Cd.iso (fun x : Rp => (x.id, x.s, x.d))
end
section
variable [Ty UInt8] [Ty (List UInt8)]
instance instCdDcd : Cd Dcd := Cd.iso (fun x : Dcd => (x.b, x.tk, x.fd))
instance instCdPp : Cd Pp := Cd.iso (fun x : Pp => (x.f, x.t, x.m, x.d))
end
section
variable [Ty ByteArray] {w : World}
theorem Lf.open_ {x : Lf} {cs : List Value} (h : Cd.rd w x cs) : ∃ vp : Value, cs = [vp, .bool x.fl, .int .i64 x.dr, .int .i64 x.ds, .string x.v] ∧ Rd w vp x.p := by
  obtain ⟨a, b, rfl, ⟨vp, rfl, hr⟩, c, d, rfl, hc, e, f, rfl, he, g, k, rfl, hg, hk⟩ := h
  exact ⟨vp, by rw [show c = [.bool x.fl] from hc, show e = [.int .i64 x.dr] from he, show g = [.int .i64 x.ds] from hg, show k = [.string x.v] from hk]; rfl, hr⟩
theorem Lf.shut_ {x : Lf} {vp : Value} (h : Rd w vp x.p) : Cd.rd w x [vp, .bool x.fl, .int .i64 x.dr, .int .i64 x.ds, .string x.v] :=
  ⟨[vp], _, rfl, ⟨vp, rfl, h⟩, [.bool x.fl], _, rfl, rfl, [.int .i64 x.dr], _, rfl, rfl, [.int .i64 x.ds], [.string x.v], rfl, rfl, rfl⟩
variable [Ty Rn] [Ty Lf]
theorem St.open_ {x : St} {cs : List Value} (h : Cd.rd w x cs) : ∃ vl vc : Value, cs = [vl, vc] ∧ Rd w vl x.l ∧ Rd w vc x.c := by
  obtain ⟨a, b, rfl, ⟨vl, rfl, hl⟩, vc, rfl, hc⟩ := h
  exact ⟨vl, vc, rfl, hl, hc⟩
theorem St.shut_ {x : St} {vl vc : Value} (h : Rd w vl x.l) (h2 : Rd w vc x.c) : Cd.rd w x [vl, vc] := ⟨[vl], [vc], rfl, ⟨vl, rfl, h⟩, vc, rfl, h2⟩
theorem Rp.open_ {x : Rp} {cs : List Value} (h : Cd.rd w x cs) : ∃ a b c d : Value, cs = [.int .i64 x.id, a, b, c, d] ∧ Cd.rd w x.s [a, b] ∧ Cd.rd w x.d [c, d] := by
  obtain ⟨i, r, rfl, hi, s, t, rfl, hs, ht⟩ := h
  obtain ⟨a, b, rfl, _⟩ := St.open_ hs
  obtain ⟨c, d, rfl, _⟩ := St.open_ ht
  exact ⟨a, b, c, d, by rw [show i = [.int .i64 x.id] from hi]; rfl, hs, ht⟩
end
/-- A cell of a slice's element, in all later worlds. -/
theorem rd_elem {α : Type} [Cd α] {w : World} {b o n c : Nat} {xs : List α} (h : Rd w (.slice (some ⟨b, o, none⟩) n c) xs) (i : Nat) (hi : i < xs.length) :
    ∃ cs, Cd.rd w xs[i] cs ∧ ∀ j, j < Cd.z α → w.cell? ⟨b, o + i * Cd.z α + j, none⟩ = cs[j]? := by
  obtain ⟨A, c', he, _, _, _, _, h4⟩ := h
  obtain ⟨b', o', cs, rfl, hr, hc⟩ := h4 i hi
  injection he with he _ _
  injection he with he
  injection he with h1 h2
  subst h1 h2
  exact ⟨cs, hr, hc⟩
theorem rd_lt_size {α : Type} [Cd α] {w : World} {b o n c : Nat} {xs : List α} (h : Rd w (.slice (some ⟨b, o, none⟩) n c) xs) (hx : 0 < xs.length) : b < w.heap.size := by
  obtain ⟨cs, hr, hc⟩ := rd_elem h 0 hx
  have h0 := hc 0 Cd.zpos
  rw [List.getElem?_eq_getElem (by rw [Cd.rd_len hr]; exact Cd.zpos)] at h0
  exact World.block_lt_of_cell? w _ h0
section
variable [Ty ByteArray] {w : World}
/-- A leaf in a slice that is read, in all later worlds. -/
theorem Lf.rd {b o n c : Nat} {xs : List Lf} (h : Rd w (.slice (some ⟨b, o, none⟩) n c) xs) (i : Nat) (hi : i < xs.length) :
    ∃ vp : Value, ∀ w', Below w.heap.size w w' → Rd w' vp xs[i].p ∧ w'.cell? ⟨b, o + i * 5, none⟩ = some vp ∧ w'.cell? ⟨b, o + i * 5 + 1, none⟩ = some (.bool xs[i].fl) ∧ w'.cell? ⟨b, o + i * 5 + 2, none⟩ = some (.int .i64 xs[i].dr) ∧
      w'.cell? ⟨b, o + i * 5 + 3, none⟩ = some (.int .i64 xs[i].ds) ∧ w'.cell? ⟨b, o + i * 5 + 4, none⟩ = some (.string xs[i].v) := by
  obtain ⟨cs, hr, hc⟩ := rd_elem h i hi
  obtain ⟨vp, rfl, hp⟩ := Lf.open_ hr
  have hlt := rd_lt_size h (by omega)
  refine ⟨vp, fun w' hb => ⟨hp.bel hb, ?_, ?_, ?_, ?_, ?_⟩⟩
  · exact (hb.cell (p := ⟨b, o + i * 5, none⟩) hlt).trans (hc 0 (show 0 < 5 by decide))
  · exact (hb.cell (p := ⟨b, o + i * 5 + 1, none⟩) hlt).trans (hc 1 (show 1 < 5 by decide))
  · exact (hb.cell (p := ⟨b, o + i * 5 + 2, none⟩) hlt).trans (hc 2 (show 2 < 5 by decide))
  · exact (hb.cell (p := ⟨b, o + i * 5 + 3, none⟩) hlt).trans (hc 3 (show 3 < 5 by decide))
  · exact (hb.cell (p := ⟨b, o + i * 5 + 4, none⟩) hlt).trans (hc 4 (show 4 < 5 by decide))
end
theorem str_eq (a b : ByteArray) : (a.toList == b.toList) = decide (a = b) := by
  rw [Bool.eq_iff_iff, ByteArray.toList_eq, ByteArray.toList_eq]
  simp only [beq_iff_eq, decide_eq_true_eq]
  exact ⟨fun h => ByteArray.ext (Array.ext' h), fun h => by rw [h]⟩
theorem Sg.rd {w : World} {b o n c : Nat} {xs : List ByteArray} (h : Rd w (.slice (some ⟨b, o, none⟩) n c) xs) (i : Nat) (hi : i < xs.length) : w.cell? ⟨b, o + i, none⟩ = some (.string xs[i]) := by
  have := h.get i hi 0 (by decide)
  have e : o + i * Cd.z ByteArray + 0 = o + i := by show o + i * 1 + 0 = _; omega
  rw [e] at this
  exact this
end Go.Ow

/- Rows of leaves that a call owns: made, filled. -/
namespace Go.Ow
set_option linter.unusedSimpArgs false
set_option linter.unusedVariables false
open Go.RowKit
theorem rep_get {β : Type} (zc : List β) (k : Nat) (hk : zc.length = k) : ∀ (n i : Nat), i < n * k → ((List.replicate n zc).flatten)[i]? = zc[i % k]?
  | 0, i, h => by simp at h
  | n + 1, i, h => by
    have hp : 0 < k := by rcases Nat.eq_zero_or_pos k with h0 | h0; subst h0; simp at h; exact h0
    rw [List.replicate_succ, List.flatten_cons]
    by_cases hi : i < k
    · rw [List.getElem?_append_left (by omega), Nat.mod_eq_of_lt hi]
    · rw [List.getElem?_append_right (by omega), hk, rep_get zc k hk n (i - k) (by rw [Nat.succ_mul] at h; omega)]
      rw [← Nat.mod_eq_sub_mod (by omega)]
theorem made_rep (zc : List Value) (z : Array Value) (hz : z.toList = zc) (hk : 0 < zc.length) (n : Nat) : (madeCells z (n * zc.length)).toList = (List.replicate n zc).flatten := by
  have hs : z.size = zc.length := by rw [← Array.length_toList, hz]
  have hlen : ((List.replicate n zc).flatten).length = n * zc.length := by rw [length_flatten (k := zc.length) (by intro c hc; rw [List.eq_of_mem_replicate hc]), List.length_replicate]
  refine List.ext_getElem (by rw [hlen]; simp [madeCells]) (fun i h1 h2 => ?_)
  rw [hlen] at h2
  have e := rep_get zc zc.length rfl n i h2
  have hm : i % zc.length < zc.length := Nat.mod_lt _ hk
  rw [List.getElem?_eq_getElem (by rw [hlen]; exact h2), List.getElem?_eq_getElem hm] at e
  rw [Option.some.inj e]
  simp only [madeCells, Array.toList_map, Array.toList_range, List.getElem_map, List.getElem_range, hs]
  rw [getElem!_pos z _ (by rw [hs]; exact hm)]
  simp [← hz]
section
variable {P : Program} {ops : Array Oper} {rest : List Oper} {o : Oper} {a : Act} {Q : Exit → Act → World → Prop} {w W : World} {R : List Ds}
/-- make of a row whose elements begin as 'zero', cells 'zc'. -/
theorem wp_makeC {α : Type} [Cd α] [Ty α] (zero : α) (zc : List Value) (bytes : Nat) (hzero : ∀ w, Cd.dp w zero zc []) (hinfo : (P.info? (Ty.id α)).map (fun i => (i.zero.map (fun z => z.cells.toList), i.size, i.bytes)) = some (some zc, Cd.z α, bytes))
    (hgd : o.guard = none) (l c : Operand) (t : TypeId) (hop : o.op = Op.makeSlice t l c) (ht : P.underlying t = some (.slice (Ty.id α))) (HS : Own W R w)
    (kl kc : IntKind) (L C : Int) (n : Nat) (hl : a.eval l = .int kl L) (hc : a.eval c = .int kc C) (hL : L = (n : Int)) (hC : C = (n : Int)) (hb : bytes * n ≤ 281474976710656) (hn : n ≤ 140737488355328)
    (h : ∀ w', Own W (.own (.slice (some ⟨w.heap.size, 0, none⟩) n n) (List.replicate n zero) :: R) w' → wpList P ops Q rest (a.put o.dst (.slice (some ⟨w.heap.size, 0, none⟩) n n)) w') : wpList P ops Q (o :: rest) a w := by
  obtain ⟨i, hi, h'⟩ := Option.map_eq_some_iff.1 hinfo
  simp only [Prod.mk.injEq, Option.map_eq_some_iff] at h'
  obtain ⟨⟨z, hz, hzs⟩, h1, h2⟩ := h'
  have hzl : zc.length = Cd.z α := Cd.rd_len (Cd.dp_rd (hzero default))
  refine wpList_make_full w hgd l c t hop 0 (Ty.id α) i z (Cd.z α) ht hi hz h1 kl kc L C n hl hc hL hC (by rw [h2]; exact hb) (by simp only [maxLen]; omega) (Nat.zero_le _) (fun w' hrow hg => h w' ?_)
  rw [← hzl, made_rep zc z.cells hzs (by rw [hzl]; exact Cd.zpos) n, hzl] at hrow
  have hdp : Dp (Ty.id α) w' (.slice (some ⟨w.heap.size, 0, none⟩) n n) (List.replicate n zero) ((Value.slice (some ⟨w.heap.size, 0, none⟩) n n).ownBlock.toList ++ (List.replicate n ([] : List Nat)).flatten) := by
    refine row_dp (css := List.replicate n zc) (fps := List.replicate n []) (by rw [List.length_replicate]; exact hrow) (by simp) (by simp) (by rw [List.length_replicate]; exact hn) (fun i x cs f hx hc hf => ?_)
    rw [List.getElem?_replicate] at hx hc hf
    split at hx
    · rename_i hlt
      rw [if_pos hlt] at hc hf
      cases hx; cases hc; cases hf
      exact hzero w'
    · cases hx
  have e : (Value.slice (some ⟨w.heap.size, 0, none⟩) n n).ownBlock.toList ++ (List.replicate n ([] : List Nat)).flatten = [w.heap.size] := by
    rw [List.flatten_eq_nil_iff.2 (by intro l hl; exact List.eq_of_mem_replicate hl), List.append_nil]; rfl
  rw [e] at hdp
  exact Own.call (Rn := [.own _ _]) HS ⟨⟨hg.os, hg.tape, hg.output, hg.size, fun k hk => hg.block k hk (by simp [Value.ownBlock])⟩, [w.heap.size], ⟨[w.heap.size], [], rfl, hdp, rfl⟩, by simp, by simp⟩
theorem Own.thaw {α : Type} [Cd α] [Ty α] {g n cap : Nat} {xs : List α} (h : Own W (.own (.slice (some ⟨g, 0, none⟩) n cap) xs :: R) w) : (∀ j, w.frozen? ⟨g, j, none⟩ = false) ∧ g < w.heap.size := by
  obtain ⟨_, fp, ⟨f, _, _, hd, _⟩, _⟩ := h
  rcases hd with ⟨he, _⟩ | ⟨b, cap', cur, css, fps, he, hg, _⟩
  · injection he with he; cases he
  · injection he with he _ _
    injection he with he
    injection he with he _ _
    subst he
    exact ⟨fun j => by simp [World.frozen?, hg], (Array.getElem?_eq_some_iff.1 hg).1⟩
theorem Own.fixC {α : Type} [Cd α] [Ty α] {A : Option Addr} {n c : Nat} {xs : List α} (h : Own W (.own (.slice A n c) xs :: R) w) (hx : 0 < xs.length) : ∃ g, A = some ⟨g, 0, none⟩ := by
  obtain ⟨_, fp, ⟨f, _, _, hd, _⟩, _⟩ := h
  rcases hd with ⟨_, rfl, _⟩ | ⟨b, cap', cur, css, fps, he, hg, _⟩
  · simp at hx
  · injection he with he _ _
    exact ⟨b, he⟩
end
section
variable [Ty ByteArray] {w W : World} {R : List Ds}
theorem Lf.own_elt {x : Lf} {vp : Value} (h : Own W (.own vp x.p :: R) w) : Own W (.elt [vp, .bool x.fl, .int .i64 x.dr, .int .i64 x.ds, .string x.v] x :: R) w := by
  have h1 := h.list_elt
  have h2 := (h1.fl_elt (x.fl, x.dr, x.ds, x.v)).pick 1 rfl
  exact h2.pair_elt
theorem Lf.elt_own {x : Lf} {cs : List Value} (h : Own W (.elt cs x :: R) w) : ∃ vp, cs = [vp, .bool x.fl, .int .i64 x.dr, .int .i64 x.ds, .string x.v] ∧ Own W (.own vp x.p :: R) w := by
  have h0 : Own W (.elt cs (x.p, x.fl, x.dr, x.ds, x.v) :: R) w := h
  obtain ⟨a, b, rfl, h1⟩ := h0.elt_pair
  obtain ⟨vp, rfl, h2⟩ := h1.elt_list
  obtain ⟨rfl, h3⟩ := (h2.pick 1 rfl).elt_fl
  exact ⟨vp, rfl, h3⟩
variable [Ty Lf]
theorem Lf.put {g cap : Nat} {ys : List Lf} {x : Lf} {vp : Value} (h : Own W (.own vp x.p :: .own (.slice (some ⟨g, 0, none⟩) ys.length cap) ys :: R) w) (k : Nat) (hk : k < ys.length) :
    Own W (.own (.slice (some ⟨g, 0, none⟩) ys.length cap) (ys.set k x) :: R) (((((w.setCell ⟨g, k * 5, none⟩ vp).setCell ⟨g, k * 5 + 1, none⟩ (.bool x.fl)).setCell ⟨g, k * 5 + 2, none⟩ (.int .i64 x.dr)).setCell ⟨g, k * 5 + 3, none⟩ (.int .i64 x.ds)).setCell ⟨g, k * 5 + 4, none⟩ (.string x.v)) := by
  obtain ⟨cs, h1⟩ := (h.pick 1 rfl).focus hk
  have h2 := h1.drop
  have hl : cs.length = 5 := h2.holec.1
  obtain ⟨c0, c1, c2, c3, c4, rfl⟩ : ∃ a b c d e, cs = [a, b, c, d, e] := by
    match cs, hl with
    | [a, b, c, d, e], _ => exact ⟨a, b, c, d, e, rfl⟩
  have h3 := ((((h2.holeput 0 (show 0 < 5 by decide) vp).holeput 1 (show 1 < 5 by decide) (.bool x.fl)).holeput 2 (show 2 < 5 by decide) (.int .i64 x.dr)).holeput 3 (show 3 < 5 by decide) (.int .i64 x.ds)).holeput 4 (show 4 < 5 by decide) (.string x.v)
  have h4 := (h3.pick 1 rfl)
  exact (Lf.own_elt h4).unfocus
end
end Go.Ow

/- Leaves in rows of their own, their paths where they lay. -/
namespace Go.Ow
set_option linter.unusedSimpArgs false
set_option linter.unusedVariables false
open Go.RowKit
/-- Where a slice lies. -/
structure Sv where
  a : Option Addr
  n : Nat
  c : Nat
def Sv.v (x : Sv) : Value := .slice x.a x.n x.c
instance instFlSv : Fl Sv := Fl.scalar Sv.v (fun _ => rfl)
/-- A leaf and where its path lies. -/
structure Pf where
  s : Sv
  l : Lf
instance instFlPf : Fl Pf := Fl.iso (fun z : Pf => (z.s, z.l.fl, z.l.dr, z.l.ds, z.l.v))
theorem Pf.fl_is (z : Pf) : Fl.fl z = [z.s.v, .bool z.l.fl, .int .i64 z.l.dr, .int .i64 z.l.ds, .string z.l.v] := rfl
section
variable [Ty ByteArray] {w : World}
def Pf.at_ (w : World) (z : Pf) : Prop := Rd w z.s.v z.l.p
omit [Ty ByteArray] in
theorem Pf.at_.bel {w w' : World} {z : Pf} (h : Pf.at_ w z) (hb : Below w.heap.size w w') : Pf.at_ w' z := Rd.bel h hb
theorem rd_pf {v : Value} {ls : List Lf} (h : Rd w v ls) : ∃ zs : List Pf, zs.map (·.l) = ls ∧ (∀ z ∈ zs, Pf.at_ w z) ∧ Rd w v zs := by
  obtain ⟨A, c, rfl, h1, h2, h3, hA, h4⟩ := h
  have key : ∀ i (hi : i < ls.length), ∃ z : Pf, z.l = ls[i] ∧ Pf.at_ w z ∧ ∃ b o, A = some ⟨b, o, none⟩ ∧ ∀ j, j < 5 → w.cell? ⟨b, o + i * 5 + j, none⟩ = (Fl.fl z)[j]? := by
    intro i hi
    obtain ⟨b, o, cs, hA', hr, hc⟩ := h4 i hi
    obtain ⟨vp, rfl, hp⟩ := Lf.open_ hr
    obtain ⟨A', c', rfl, _, _⟩ := hp.val
    exact ⟨⟨⟨A', _, c'⟩, ls[i]⟩, rfl, hp, b, o, hA', fun j hj => hc j hj⟩
  refine ⟨(List.range ls.length).attach.map (fun i => (key i.1 (List.mem_range.1 i.2)).choose), ?_, ?_, ?_⟩
  · refine List.ext_getElem (by simp) (fun i h1 h2 => ?_)
    simp only [List.getElem_map]
    have := (key i h2).choose_spec.1
    simpa using this
  · intro z hz
    obtain ⟨i, _, rfl⟩ := List.mem_map.1 hz
    exact (key i.1 (List.mem_range.1 i.2)).choose_spec.2.1
  · refine ⟨A, c, by simp, by simpa using h1, h2, by simpa using h3, hA, fun i hi => ?_⟩
    have hi' : i < ls.length := by simpa using hi
    obtain ⟨_, _, b, o, hA', hc⟩ := (key i hi').choose_spec
    refine ⟨b, o, _, hA', Fl.rd_fl.2 rfl, fun j hj => ?_⟩
    have h := hc j hj
    rw [show Cd.z Pf = 5 from rfl]
    simpa using h
theorem Pf.rd {v : Value} {zs : List Pf} (h : Rd w v zs) (hz : ∀ z ∈ zs, Pf.at_ w z) : Rd w v (zs.map (·.l)) := by
  obtain ⟨A, c, rfl, h1, h2, h3, hA, h4⟩ := h
  refine ⟨A, c, by simp, by simpa using h1, h2, by simpa using h3, hA, fun i hi => ?_⟩
  have hi' : i < zs.length := by simpa using hi
  obtain ⟨b, o, cs, hA', hr, hc⟩ := h4 i hi'
  obtain rfl := Fl.rd_fl.1 hr
  refine ⟨b, o, _, hA', ?_, hc⟩
  rw [List.getElem_map]
  exact Lf.shut_ (x := zs[i].l) (hz _ (List.getElem_mem hi'))
omit [Ty ByteArray] in
/-- The cells of one. -/
theorem Pf.cells {b o n c : Nat} {zs : List Pf} (h : Rd w (.slice (some ⟨b, o, none⟩) n c) zs) (i : Nat) (hi : i < zs.length) :
    w.cell? ⟨b, o + i * 5, none⟩ = some zs[i].s.v ∧ w.cell? ⟨b, o + i * 5 + 1, none⟩ = some (.bool zs[i].l.fl) ∧ w.cell? ⟨b, o + i * 5 + 2, none⟩ = some (.int .i64 zs[i].l.dr) ∧
      w.cell? ⟨b, o + i * 5 + 3, none⟩ = some (.int .i64 zs[i].l.ds) ∧ w.cell? ⟨b, o + i * 5 + 4, none⟩ = some (.string zs[i].l.v) :=
  ⟨h.get i hi 0 (show 0 < 5 by decide), h.get i hi 1 (show 1 < 5 by decide), h.get i hi 2 (show 2 < 5 by decide), h.get i hi 3 (show 3 < 5 by decide), h.get i hi 4 (show 4 < 5 by decide)⟩
end
end Go.Ow

/- Rows of leaves whose paths are owned apart; the same rows owned deep. -/
namespace Go.Ow
set_option linter.unusedSimpArgs false
set_option linter.unusedVariables false
open Go.RowKit
instance instTyPf [h : Ty Lf] : Ty Pf := ⟨Ty.id Lf⟩
section
variable [Ty ByteArray] {w W : World} {R : List Ds}
def pown (z : Pf) : Ds := .own z.s.v z.l.p
theorem holds_pown : ∀ {zs : List Pf} {fp : List Nat}, Holds w (zs.map pown) fp ↔ ∃ fps : List (List Nat), fps.length = zs.length ∧ fp = fps.flatten ∧ ∀ (i : Nat) (z : Pf) (f : List Nat), zs[i]? = some z → fps[i]? = some f → Dp (Ty.id ByteArray) w z.s.v z.l.p f
  | [], fp => by
    constructor
    · intro h; exact ⟨[], rfl, h, fun i z f h => by simp at h⟩
    · rintro ⟨fps, h, rfl, _⟩
      obtain rfl := List.eq_nil_of_length_eq_zero h
      rfl
  | z :: zs, fp => by
    constructor
    · rintro ⟨f, g, rfl, hr, hR⟩
      obtain ⟨fps, h1, rfl, h2⟩ := holds_pown.1 hR
      refine ⟨f :: fps, by simp [h1], rfl, fun i z' f' hz hf => ?_⟩
      cases i with
      | zero => simp at hz hf; subst hz hf; exact hr
      | succ i => exact h2 i z' f' (by simpa using hz) (by simpa using hf)
    · rintro ⟨fps, h1, rfl, h2⟩
      cases fps with
      | nil => simp at h1
      | cons f fps =>
        refine ⟨f, fps.flatten, rfl, h2 0 z f rfl rfl, holds_pown.2 ⟨fps, by simpa using h1, rfl, fun i z' f' hz hf => h2 (i + 1) z' f' (by simpa using hz) (by simpa using hf)⟩⟩
theorem lf_dp {x : Lf} {vp : Value} {f : List Nat} (h : Dp (Ty.id ByteArray) w vp x.p f) : Cd.dp w x [vp, .bool x.fl, .int .i64 x.dr, .int .i64 x.ds, .string x.v] f :=
  ⟨[vp], _, f, [], rfl, (List.append_nil f).symm, ⟨vp, rfl, h⟩, [.bool x.fl], _, [], [], rfl, rfl, ⟨rfl, rfl⟩, [.int .i64 x.dr], _, [], [], rfl, rfl, ⟨rfl, rfl⟩, [.int .i64 x.ds], [.string x.v], [], [], rfl, rfl, ⟨rfl, rfl⟩, ⟨rfl, rfl⟩⟩
theorem lf_dp_inv {x : Lf} {cs : List Value} {f : List Nat} (h : Cd.dp w x cs f) : ∃ vp, cs = [vp, .bool x.fl, .int .i64 x.dr, .int .i64 x.ds, .string x.v] ∧ Dp (Ty.id ByteArray) w vp x.p f := by
  obtain ⟨a, b, f1, f2, rfl, rfl, ⟨vp, rfl, hp⟩, c, d, f3, f4, rfl, rfl, ⟨rfl, rfl⟩, c2, d2, f5, f6, rfl, rfl, ⟨rfl, rfl⟩, c3, d3, f7, f8, rfl, rfl, ⟨rfl, rfl⟩, ⟨rfl, rfl⟩⟩ := h
  exact ⟨vp, rfl, by simpa using hp⟩
variable [Ty Lf]
theorem Own.deepen {v : Value} {zs : List Pf} (h : Own W (.own v zs :: (zs.map pown ++ R)) w) : Own W (.own v (zs.map (·.l)) :: R) w := by
  obtain ⟨hb, fp, ⟨f, g, rfl, hd, hR⟩, hn, hl⟩ := h
  obtain ⟨f1, g1, rfl, hp, hR2⟩ := Holds.append.1 hR
  obtain ⟨fps, h1, rfl, h2⟩ := holds_pown.1 hp
  obtain ⟨hrow, hbig, rfl⟩ := Dp.flat (base := 0) hd (fun _ _ => Nat.zero_le _)
  have hdp : Dp (Ty.id Lf) w v (zs.map (·.l)) (v.ownBlock.toList ++ fps.flatten) := by
    refine row_dp (css := zs.map Fl.fl) (fps := fps) (base := 0) ?_ (by simp) (by simpa using h1) (by simpa using hbig) (fun i x cs f hx hc hf => ?_)
    · rw [List.length_map]; exact hrow
    · rw [List.getElem?_map, Option.map_eq_some_iff] at hx hc
      obtain ⟨z, hz, rfl⟩ := hx
      obtain ⟨z', hz', rfl⟩ := hc
      rw [hz] at hz'
      cases hz'
      exact lf_dp (h2 i z f hz hf)
  refine ⟨hb, (v.ownBlock.toList ++ fps.flatten) ++ g1, ⟨_, g1, rfl, hdp, hR2⟩, ?_, ?_⟩
  · rw [List.append_assoc]; exact hn
  · rw [List.append_assoc]; exact hl
theorem Own.undeep {v : Value} {ls : List Lf} (h : Own W (.own v ls :: R) w) : ∃ zs : List Pf, zs.map (·.l) = ls ∧ Own W (.own v zs :: (zs.map pown ++ R)) w := by
  obtain ⟨hb, fp, ⟨f, g, rfl, hd, hR⟩, hn, hl⟩ := h
  have hd' : Dp (Ty.id Lf) w v ls f := hd
  obtain ⟨css, fps, hrow, h1, h2, hbig, h3, rfl⟩ := hd'.row (base := 0) (fun _ _ => Nat.zero_le _)
  have key : ∀ i (hi : i < ls.length), ∃ z : Pf, z.l = ls[i] ∧ css[i]'(by omega) = Fl.fl z ∧ Dp (Ty.id ByteArray) w z.s.v z.l.p (fps[i]'(by omega)) := by
    intro i hi
    obtain ⟨vp, he, hp⟩ := lf_dp_inv (h3 i _ _ _ (List.getElem?_eq_getElem hi) (List.getElem?_eq_getElem (by omega)) (List.getElem?_eq_getElem (by omega)))
    obtain ⟨A, c, rfl, _, _⟩ := hp.rd.val
    exact ⟨⟨⟨A, _, c⟩, ls[i]⟩, rfl, he, hp⟩
  obtain ⟨zs, hzl, hz⟩ : ∃ zs : List Pf, zs.length = ls.length ∧ ∀ i (hi : i < ls.length) (hi2 : i < zs.length), zs[i].l = ls[i] ∧ css[i]'(by omega) = Fl.fl zs[i] ∧ Dp (Ty.id ByteArray) w zs[i].s.v zs[i].l.p (fps[i]'(by omega)) := by
    refine ⟨(List.range ls.length).attach.map (fun i => (key i.1 (List.mem_range.1 i.2)).choose), by simp, fun i hi hi2 => ?_⟩
    have := (key i hi).choose_spec
    simpa using this
  have hl1 : zs.map (·.l) = ls := List.ext_getElem (by simp [hzl]) (fun i h1 h2 => by rw [List.getElem_map]; exact (hz i h2 (by omega)).1)
  have hl2 : css = zs.map Fl.fl := List.ext_getElem (by simp [hzl, h1]) (fun i h1 h2 => by rw [List.getElem_map]; exact (hz i (by omega) (by simpa using h2)).2.1)
  refine ⟨zs, hl1, hb, v.ownBlock.toList ++ (fps.flatten ++ g), ⟨v.ownBlock.toList, _, rfl, ?_, Holds.append.2 ⟨fps.flatten, g, rfl, holds_pown.2 ⟨fps, by omega, rfl, fun i z f hz' hf => ?_⟩, hR⟩⟩, ?_, ?_⟩
  · refine flat_dp (xs := zs) (base := 0) ?_ (by omega)
    rw [hzl, ← hl2]; exact hrow
  · obtain ⟨hi, rfl⟩ := List.getElem?_eq_some_iff.1 hz'
    obtain ⟨hi2, rfl⟩ := List.getElem?_eq_some_iff.1 hf
    exact (hz i (by omega) hi).2.2
  · rw [← List.append_assoc]; exact hn
  · rw [← List.append_assoc]; exact hl
theorem Own.pown_at {v : Value} {zs : List Pf} (h : Own W (.own v zs :: (zs.map pown ++ R)) w) : ∀ z ∈ zs, Pf.at_ w z := by
  obtain ⟨hb, fp, ⟨f, g, rfl, hd, hR⟩, hn, hl⟩ := h
  obtain ⟨f1, g1, rfl, hp, hR⟩ := Holds.append.1 hR
  obtain ⟨fps, h1, rfl, h2⟩ := holds_pown.1 hp
  intro z hz
  obtain ⟨i, hi, rfl⟩ := List.getElem_of_mem hz
  exact (h2 i _ _ (List.getElem?_eq_getElem hi) (List.getElem?_eq_getElem (by omega))).rd
theorem Own.pown_apart {g n cap : Nat} {zs : List Pf} (h : Own W (.own (.slice (some ⟨g, 0, none⟩) n cap) zs :: (zs.map pown ++ R)) w) : ∀ z ∈ zs, ∃ f, Dp (Ty.id ByteArray) w z.s.v z.l.p f ∧ g ∉ f := by
  obtain ⟨hb, fp, ⟨f, g', rfl, hd, hR⟩, hn, hl⟩ := h
  obtain ⟨f1, g1, rfl, hp, hR⟩ := Holds.append.1 hR
  obtain ⟨fps, h1, rfl, h2⟩ := holds_pown.1 hp
  obtain ⟨_, _, rfl⟩ := Dp.flat (base := 0) hd (fun _ _ => Nat.zero_le _)
  intro z hz
  obtain ⟨i, hi, rfl⟩ := List.getElem_of_mem hz
  refine ⟨fps[i]'(by omega), h2 i _ _ (List.getElem?_eq_getElem hi) (List.getElem?_eq_getElem (by omega)), fun hg => ?_⟩
  have := (List.nodup_append.1 hn).2.2 g (by simp [Value.ownBlock]) g (List.mem_append_left _ (List.mem_flatten.2 ⟨_, List.getElem_mem (by omega), hg⟩))
  exact this rfl
theorem Own.pown_perm {v : Value} {zs zs' ys : List Pf} (hp : zs.Perm zs') (h : Own W (.own v ys :: (zs.map pown ++ R)) w) : Own W (.own v ys :: (zs'.map pown ++ R)) w :=
  h.perm (((hp.map pown).append_right R).cons _)
end
end Go.Ow

/- Regions that draw their order and only read: one walk in the order of the text, whatever blocks the callees lay. -/
namespace Go.Ow
set_option linter.unusedSimpArgs false
set_option linter.unusedVariables false
open Go.RowKit

/-- A world in which all that stood stands. -/
structure Ext (w : World) where
  to : World
  h : Below w.heap.size w to

instance (w : World) : Inhabited (Ext w) := ⟨⟨w, Below.refl _ _⟩⟩

def Ext.up {w w1 : World} (h : Below w.heap.size w w1) (p : Ext w1) : Ext w := ⟨p.to, h.trans (p.h.mono h.size)⟩
theorem q_call {P : Program} {w : World} {p : Ext w} {f : FuncId} {args : Array Value} {v : Value}
    (h : Calls P f args p.to fun e w'' => e = .returned v ∧ Below p.to.heap.size p.to w'') : Calls P f args p.to fun e w'' => e = .returned v ∧ ∃ q : Ext w, w'' = q.to :=
  h.mono fun _ w'' ⟨h1, h2⟩ => ⟨h1, ⟨w'', p.h.trans (h2.mono p.h.size)⟩, rfl⟩

theorem wp_region_ext {P : Program} {id : Nat} {Q : Exit → Act → World → Prop} {a : Act} {w : World} {l : List Oper} (hm : P.follows .mixedOrders = true) (hB : Region.lexB .any l.toArray = true)
    (h : wpQuiet P l.toArray (fun w' => ∃ p : Ext w, w' = p.to) (fun a' => ∀ w', (∃ p : Ext w, w' = p.to) → Q .normal a' w') l a) : (Code.region id l.toArray true).wp P Q a w :=
  wp_region_quiet (C := fun w' => ∃ p : Ext w, w' = p.to) hm hB ⟨⟨w.drew, ⟨rfl, rfl, rfl, Nat.le_refl _, fun _ _ => rfl⟩⟩, rfl⟩ (by simpa using h)

theorem i64w {n m : Int} (h : n = m) (h1 : -9223372036854775808 ≤ n) (h2 : n ≤ 9223372036854775807) : IntKind.i64.wrap n = m := by
  subst h; simp only [IntKind.wrap, IntKind.bits, IntKind.signed]; simp; omega
end Go.Ow

/- append of zero values to the nil slice, at an operation; a slice cut to nothing. -/
namespace Go.Ow
set_option linter.unusedSimpArgs false
set_option linter.unusedVariables false
open Go.RowKit
attribute [local irreducible] wpQuiet
section
variable {α : Type} [Fl α] [Ty α] {P : Program} [ElZ P α] {W w : World} {R : List Ds} {ops : Array Oper} {rest : List Oper} {o : Oper} {a : Act} {Q : Exit → Act → World → Prop}
theorem wp_growz (hgd : o.guard = none) (s x : Operand) (t tn : TypeId) (ho : o.op = .call { callee := .builtin .append, args := #[s, x], argTypes := #[t, tn] }) (ht : P.underlying t = some (.slice (Ty.id α))) (htn : P.underlying tn = some (.int .i64))
    (HS : Own W R w) (hs : a.eval s = .slice none 0 0) (k : Nat) (hx : a.eval x = .int .i64 k) (h0 : 0 < k) (hk : k ≤ 4194304) (hb : El.bytes P α ≤ 1000)
    (h : ∀ (w' : World) (cap : Nat), k ≤ cap → Own W (.own (.slice (some ⟨w.heap.size, 0, none⟩) 0 cap) ([] : List α) :: R) w' → wpList P ops Q rest (a.put o.dst (.slice (some ⟨w.heap.size, 0, none⟩) k cap)) w') : wpList P ops Q (o :: rest) a w := by
  obtain ⟨i, z, hi, hz, h1, h2, h3⟩ := ElZ.infoz (P := P) (α := α)
  have hzs : z.cells.size = Cd.z α := by rw [← Array.length_toList, h3, fl_len]
  have hbk : k * i.bytes ≤ 281474976710656 := by rw [h2]; exact Nat.le_trans (Nat.mul_le_mul hk hb) (by decide)
  have hfit : Builtin.nextslicecap (0 + k) 0 * i.bytes ≤ 281474976710656 := by
    have : Builtin.nextslicecap (0 + k) 0 = k := by unfold Builtin.nextslicecap; rw [if_pos (by omega)]; omega
    rw [this]; exact hbk
  have hrun := fun ty => Lib.run_append_grow_zeros (P := P) w t tn ty (Ty.id α) i z .i64 .i64 ht htn hi hz none 0 0 [] (by rw [show i.size = i.size from rfl]; exact run_firstCells_none w.drew i.size 0 0 0) k h0 (by rw [h1]; exact Cd.zpos) (by omega) (by omega) hbk hfit
  have hge := grownCap_ge w (0 + k) 0 (Ty.id α)
  have hle := grownCap_le_maxLen w (0 + k) 0 (Ty.id α) (by simp only [maxLen]; omega)
  simp only [Nat.zero_add] at hrun hge hle
  refine wpList_plain hgd fun _ hK => ?_
  unfold Oper.wp
  simp [execOp, ho, resolve, invoke, builtin, hs, hx, hrun, Result.andThen]
  refine hK _ _ (h _ (grownCap w k 0 (Ty.id α)) hge ?_)
  refine Own.call (Rn := [.own (.slice (some ⟨w.heap.size, 0, none⟩) 0 (grownCap w k 0 (Ty.id α))) ([] : List α)]) HS ⟨((Below.refl _ _).drew).alloc (Nat.le_refl _) _, [w.heap.size], ⟨[w.heap.size], [], rfl, .inr ⟨w.heap.size, _, _, [], [], rfl, by rw [show w.heap.size = w.drew.heap.size from rfl]; exact (MapKept.heap_alloc w.drew _).1, Nat.zero_le _, hle, Nat.zero_le _, ?_, rfl, rfl, by simp, fun i x cs f hx => by simp at hx, rfl⟩, rfl⟩, by simp, by simp⟩
  simp only [Array.size_append, List.size_toArray, List.length_nil, size_zeroCells, hzs]
  first | rw [Nat.zero_add, ← Nat.add_mul] | rw [← Nat.add_mul]
  congr 1
  omega
end
end Go.Ow

/- A map from integers to slices that a call owns: looked up, appended to, stored. -/
namespace Go.Ow
set_option linter.unusedSimpArgs false
set_option linter.unusedVariables false
open Go.RowKit Go.MapKept
attribute [local irreducible] wpQuiet

section
variable {α : Type} [Cd α]

/-- The entries' values: each a slice that is owned, but for the one at 'hole'. -/
def Vals (e : Nat) (hole : Option Int) (w : World) : List MapEntry → List (Int × List α) → List Nat → Prop
  | [], [], fp => fp = []
  | m :: es, p :: g, fp => m.key = .int .i64 p.1 ∧ ∃ f f', fp = f ++ f' ∧ (if hole = some p.1 then f = [] else Dp e w m.val p.2 f) ∧ Vals e hole w es g f'
  | _, _, _ => False

def mget (g : List (Int × List α)) (k : Int) : List α := ((g.find? (fun p => p.1 == k)).map (·.2)).getD []
def mhas (g : List (Int × List α)) (k : Int) : Bool := g.any (fun p => p.1 == k)
def mput : List (Int × List α) → Int → List α → List (Int × List α)
  | [], k, xs => [(k, xs)]
  | p :: g, k, xs => if p.1 = k then (k, xs) :: g else p :: mput g k xs

theorem Vals.loc {e : Nat} {hole : Option Int} {w w' : World} : ∀ {es : List MapEntry} {g : List (Int × List α)} {fp : List Nat}, Vals e hole w es g fp → Same w w' fp → Vals e hole w' es g fp
  | [], [], _, h, _ => h
  | m :: es, p :: g, _, ⟨hk, f, f', rfl, hv, hr⟩, hs => by
    refine ⟨hk, f, f', rfl, ?_, Vals.loc hr (fun b hb => hs b (List.mem_append_right _ hb))⟩
    split at hv
    · rw [if_pos (by assumption)]; exact hv
    · rw [if_neg (by assumption)]; exact Dp.loc hv (fun b hb => hs b (List.mem_append_left _ hb))
  | [], _ :: _, _, h, _ => h.elim
  | _ :: _, [], _, h, _ => h.elim
theorem Vals.lt {e : Nat} {hole : Option Int} {w : World} : ∀ {es : List MapEntry} {g : List (Int × List α)} {fp : List Nat}, Vals e hole w es g fp → ∀ b ∈ fp, b < w.heap.size
  | [], [], _, h, b, hb => by rw [show _ = _ from h] at hb; cases hb
  | m :: es, p :: g, _, ⟨hk, f, f', rfl, hv, hr⟩, b, hb => by
    rcases List.mem_append.1 hb with h | h
    · split at hv
      · subst hv; cases h
      · exact Dp.lt hv b h
    · exact Vals.lt hr b h
  | [], _ :: _, _, h, _, _ => h.elim
  | _ :: _, [], _, h, _, _ => h.elim
theorem Vals.keys {e : Nat} {hole : Option Int} {w : World} : ∀ {es : List MapEntry} {g : List (Int × List α)} {fp : List Nat}, Vals e hole w es g fp → es.map (·.key) = g.map (fun p => Value.int .i64 p.1)
  | [], [], _, _ => rfl
  | m :: es, p :: g, _, ⟨hk, f, f', _, _, hr⟩ => by simp [hk, Vals.keys hr]
  | [], _ :: _, _, h => h.elim
  | _ :: _, [], _, h => h.elim

/-- The hole at a key that is not there. -/
theorem Vals.absent {e : Nat} {w : World} {k : Int} : ∀ {es : List MapEntry} {g : List (Int × List α)} {fp : List Nat}, (∀ p ∈ g, p.1 ≠ k) → (Vals e Option.none w es g fp ↔ Vals e (some k) w es g fp)
  | [], [], _, _ => Iff.rfl
  | m :: es, p :: g, _, h => by
    have h1 := h p (by simp)
    have h2 : some k ≠ some p.1 := by simpa using fun e => h1 e.symm
    constructor
    · rintro ⟨hk, f, f', rfl, hv, hr⟩
      rw [if_neg (by simp)] at hv
      exact ⟨hk, f, f', rfl, by rw [if_neg h2]; exact hv, (Vals.absent (fun q hq => h q (by simp [hq]))).1 hr⟩
    · rintro ⟨hk, f, f', rfl, hv, hr⟩
      rw [if_neg h2] at hv
      exact ⟨hk, f, f', rfl, by rw [if_neg (by simp)]; exact hv, (Vals.absent (fun q hq => h q (by simp [hq]))).2 hr⟩
  | [], _ :: _, _, _ => Iff.rfl
  | _ :: _, [], _, _ => Iff.rfl

/-- What stands at a key, taken out. -/
theorem Vals.take {e : Nat} {w : World} {k : Int} : ∀ {es : List MapEntry} {g : List (Int × List α)} {fp : List Nat} {j : Nat} {m : MapEntry}, Vals e Option.none w es g fp → (g.map (·.1)).Nodup → es[j]? = some m → m.key = .int .i64 k →
    ∃ f f', (f ++ f').Perm fp ∧ Dp e w m.val (mget g k) f ∧ Vals e (some k) w es g f' ∧ mhas g k = true
  | [], _, _, _, _, _, _, hj, _ => by simp at hj
  | m0 :: es, p :: g, _, 0, m, ⟨hk, f, f', rfl, hv, hr⟩, hn, hj, hm => by
    simp at hj; subst hj
    rw [hk] at hm
    injection hm with _ hm
    rw [if_neg (by simp)] at hv
    have hn' : ∀ q ∈ g, q.1 ≠ k := fun q hq hqk => by
      rw [List.map_cons, List.nodup_cons] at hn
      exact hn.1 (List.mem_map.2 ⟨q, hq, by rw [hqk, hm]⟩)
    refine ⟨f, f', .refl _, ?_, ⟨hk, [], f', rfl, by rw [if_pos (by rw [hm])], (Vals.absent hn').1 hr⟩, by simp [mhas, hm]⟩
    simp [mget, hm]; exact hv
  | m0 :: es, p :: g, _, j + 1, m, ⟨hk, f, f', rfl, hv, hr⟩, hn, hj, hm => by
    rw [List.map_cons, List.nodup_cons] at hn
    rw [if_neg (by simp)] at hv
    obtain ⟨a, b, hp, hd, hv', hh⟩ := Vals.take (k := k) hr hn.2 (by simpa using hj) hm
    have hpk : p.1 ≠ k := by
      intro hpk
      simp only [mhas, List.any_eq_true, beq_iff_eq] at hh
      obtain ⟨q, hq, hqk⟩ := hh
      exact hn.1 (List.mem_map.2 ⟨q, hq, by rw [hqk, hpk]⟩)
    refine ⟨a, f ++ b, ?_, ?_, ⟨hk, f, b, rfl, by rw [if_neg (by simpa using fun e => hpk e.symm)]; exact hv, hv'⟩, by simp [mhas] at hh ⊢; exact .inr hh⟩
    · rw [← List.append_assoc]
      exact ((List.perm_append_comm (l₁ := a) (l₂ := f)).append_right b).trans (by rw [List.append_assoc]; exact hp.append_left f)
    · simp only [mget, List.find?_cons, show (p.1 == k) = false by simpa using hpk]; exact hd
  | _ :: _, [], _, _, _, h, _, _, _ => h.elim

/-- Put back at a key that is there. -/
theorem Vals.put {e : Nat} {w : World} {k : Int} {v : Value} {xs : List α} {a : List Nat} (hd : Dp e w v xs a) : ∀ {es : List MapEntry} {g : List (Int × List α)} {fp : List Nat} {j : Nat} {m : MapEntry} (key : Value), Vals e (some k) w es g fp → (g.map (·.1)).Nodup → es[j]? = some m → m.key = .int .i64 k → key = .int .i64 k →
    ∃ fp', fp'.Perm (a ++ fp) ∧ Vals e Option.none w (es.modify j fun e => { e with key := key, val := v }) (mput g k xs) fp'
  | [], _, _, _, _, _, _, _, hj, _, _ => by simp at hj
  | m0 :: es, p :: g, _, 0, m, key, ⟨hk, f, f', rfl, hv, hr⟩, hn, hj, hm, hkey => by
    simp at hj; subst hj
    rw [hk] at hm
    injection hm with _ hm
    rw [if_pos (by rw [hm])] at hv
    subst hv
    have hn' : ∀ q ∈ g, q.1 ≠ k := fun q hq hqk => by
      rw [List.map_cons, List.nodup_cons] at hn
      exact hn.1 (List.mem_map.2 ⟨q, hq, by rw [hqk, hm]⟩)
    refine ⟨a ++ f', by simp, ?_⟩
    simp only [List.modify_zero_cons, mput, if_pos hm]
    exact ⟨hkey, a, f', rfl, by rw [if_neg (by simp)]; exact hd, (Vals.absent hn').2 hr⟩
  | m0 :: es, p :: g, _, j + 1, m, key, ⟨hk, f, f', rfl, hv, hr⟩, hn, hj, hm, hkey => by
    rw [List.map_cons, List.nodup_cons] at hn
    obtain ⟨fp', hp, hv'⟩ := Vals.put hd key hr hn.2 (by simpa using hj) hm hkey
    have hmem : ∃ q ∈ g, q.1 = k := by
      have hks := hr.keys
      have h1 : (es.map (·.key))[j]? = some (Value.int .i64 k) := by rw [List.getElem?_map, show es[j]? = some m by simpa using hj]; simp [hm]
      rw [hks, List.getElem?_map, Option.map_eq_some_iff] at h1
      obtain ⟨q, hq, hqk⟩ := h1
      injection hqk with _ hqk
      exact ⟨q, List.mem_of_getElem? hq, hqk⟩
    have hpk : p.1 ≠ k := by
      obtain ⟨q, hq, hqk⟩ := hmem
      exact fun hpk => hn.1 (List.mem_map.2 ⟨q, hq, by rw [hqk, hpk]⟩)
    rw [if_neg (by simpa using fun e => hpk e.symm)] at hv
    refine ⟨f ++ fp', ?_, ?_⟩
    · refine (hp.append_left f).trans ?_
      rw [← List.append_assoc, ← List.append_assoc]
      exact (List.perm_append_comm (l₁ := f) (l₂ := a)).append_right f'
    · simp only [List.modify_succ_cons, mput, if_neg hpk]
      exact ⟨hk, f, fp', rfl, by rw [if_neg (by simp)]; exact hv, hv'⟩
  | _ :: _, [], _, _, _, _, h, _, _, _, _ => h.elim

/-- Put at a key that is new. -/
theorem Vals.push {e : Nat} {w : World} {k : Int} {v : Value} {xs : List α} {a : List Nat} (hd : Dp e w v xs a) (key : Value) (hkey : key = .int .i64 k) (n : Nat) : ∀ {es : List MapEntry} {g : List (Int × List α)} {fp : List Nat}, Vals e Option.none w es g fp → (∀ p ∈ g, p.1 ≠ k) →
    Vals e Option.none w (es ++ [{ key := key, val := v, born := n }]) (mput g k xs) (fp ++ a)
  | [], [], _, h, _ => by rw [show _ = _ from h]; exact ⟨hkey, a, [], by simp, by rw [if_neg (by simp)]; exact hd, rfl⟩
  | m :: es, p :: g, _, ⟨hk, f, f', rfl, hv, hr⟩, hn => by
    simp only [List.cons_append, mput, if_neg (hn p (by simp))]
    exact ⟨hk, f, f' ++ a, by simp, hv, Vals.push hd key hkey n hr (fun q hq => hn q (by simp [hq]))⟩
  | [], _ :: _, _, h, _ => h.elim
  | _ :: _, [], _, h, _ => h.elim

omit [Cd α] in
theorem mput_keys (k : Int) (xs : List α) : ∀ (g : List (Int × List α)), (g.map (·.1)).Nodup → ((mput g k xs).map (·.1)).Nodup ∧ ∀ a ∈ (mput g k xs).map (·.1), a = k ∨ a ∈ g.map (·.1)
  | [], _ => ⟨by simp [mput], by simp [mput]⟩
  | p :: g, h => by
    rw [List.map_cons, List.nodup_cons] at h
    obtain ⟨h1, h2⟩ := mput_keys k xs g h.2
    by_cases hp : p.1 = k
    · simp only [mput, if_pos hp, List.map_cons, List.nodup_cons]
      exact ⟨⟨by rw [← hp]; exact h.1, h.2⟩, by simp [hp]⟩
    · simp only [mput, if_neg hp, List.map_cons, List.nodup_cons]
      refine ⟨⟨fun hm => ?_, h1⟩, fun a ha => ?_⟩
      · rcases h2 _ hm with h' | h'
        · exact hp h'
        · exact h.1 h'
      · rcases List.mem_cons.1 ha with h' | h'
        · exact .inr (by simp [h'])
        · rcases h2 a h' with h'' | h''
          · exact .inl h''
          · exact .inr (by simp [h''])
omit [Cd α] in
theorem mget_mput (k : Int) (xs : List α) (key : Int) : ∀ (g : List (Int × List α)), mget (mput g k xs) key = if key = k then xs else mget g key
  | [] => by
    by_cases h : key = k
    · subst h; simp [mput, mget]
    · simp [mput, mget, h, Ne.symm h]
  | p :: g => by
    have ih := mget_mput k xs key g
    by_cases hp : p.1 = k
    · by_cases h : key = k
      · simp [mput, mget, hp, h]
      · have h2 : ¬ k = key := fun e => h e.symm
        simp [mput, mget, hp, h, h2]
    · by_cases h : key = k
      · subst h
        simp only [mput, if_neg hp, mget, List.find?_cons, show (p.1 == key) = false by simpa using hp, if_true] at ih ⊢
        exact ih
      · simp only [mput, if_neg hp, mget, List.find?_cons, if_neg h] at ih ⊢
        split
        · rfl
        · exact ih
end
end Go.Ow

/- A map that a call owns: its making, the look-up, the store. -/
namespace Go.Ow
set_option linter.unusedSimpArgs false
set_option linter.unusedVariables false
open Go.RowKit Go.MapKept
attribute [local irreducible] wpQuiet

section
variable {α : Type} [Cd α]
def MapP (e : Nat) (hole : Option Int) (b : Nat) (g : List (Int × List α)) (w : World) (fp : List Nat) : Prop :=
  ∃ es clock f, w.heap[b]? = some (.map es clock) ∧ fp = b :: f ∧ Vals e hole w es.toList g f ∧ ((g.map (·.1)).Nodup ∧ Stamped es clock)

def Ds.map [Ty α] (hole : Option Int) (b : Nat) (g : List (Int × List α)) : Ds := .any (MapP (Ty.id α) hole b g)
  (by
    rintro w w' fp ⟨es, clock, f, hb, rfl, hv, hn⟩ hs
    exact ⟨es, clock, f, (hs b (by simp)).trans hb, rfl, hv.loc (fun x hx => hs x (by simp [hx])), hn⟩)
  (by
    rintro w fp ⟨es, clock, f, hb, rfl, hv, hn⟩ x hx
    rcases List.mem_cons.1 hx with rfl | h
    · exact (Array.getElem?_eq_some_iff.1 hb).1
    · exact hv.lt x h)

variable [Ty α] {P : Program} {w W : World} {R : List Ds} {t k e : TypeId} {b : Nat} {g : List (Int × List α)}

theorem Own.mkmap (h : Own W R w) : Own W (.map Option.none w.heap.size ([] : List (Int × List α)) :: R) (w.alloc (.map #[] 0)) :=
  Own.call (Rn := [.map Option.none w.heap.size ([] : List (Int × List α))]) h ⟨(Below.refl _ _).alloc (Nat.le_refl _) _, [w.heap.size], ⟨[w.heap.size], [], rfl, ⟨#[], 0, [], (MapKept.heap_alloc w _).1, rfl, rfl, by simp, stamped_empty 0⟩, rfl⟩, by simp, by simp⟩

/-- The look-up: what is found is taken out. -/
theorem run_take (HS : Own W (.map Option.none b g :: R) w) (ht : P.underlying t = some (.map k e)) (hk : P.underlying k = some (.int .i64)) (hz : (zeroValue e).run P w = .ok (.slice none 0 0) w) (key : Int) :
    ∃ v, (∀ c, (Instr.lookup t (.map (some b)) (.int .i64 key) c).run P w = .ok (if c then .tuple #[v, .bool (mhas g key)] else v) w) ∧ Own W (.own v (mget g key) :: .map (some key) b g :: R) w := by
  obtain ⟨_, fp, ⟨fm, fr, rfl, ⟨es, clock, f, hb, rfl, hv, hn⟩, hR⟩, hnd, hlow⟩ := id HS
  have hks : ∀ x ∈ es.toList, IsKey (.int .i64) x.key := by
    intro x hx
    obtain ⟨j, hj, rfl⟩ := List.getElem_of_mem hx
    have h1 : (es.toList.map (·.key))[j]? = some (es.toList[j].key) := by rw [List.getElem?_map, List.getElem?_eq_getElem hj]; rfl
    rw [hv.keys, List.getElem?_map, Option.map_eq_some_iff] at h1
    obtain ⟨q, _, hq⟩ := h1
    rw [← hq]; exact rfl
  rcases findNow_spec (d := .int .i64) (k := .int .i64 key) rfl es.toList 0 hks with ⟨h1, h2⟩ | ⟨j, m, h1, h2, h3⟩
  · have habs : ∀ p ∈ g, p.1 ≠ key := by
      intro p hp hpk
      obtain ⟨j, hj, rfl⟩ := List.getElem_of_mem hp
      have h3 : (g.map (fun p => Value.int .i64 p.1))[j]? = some (Value.int .i64 key) := by rw [List.getElem?_map, List.getElem?_eq_getElem hj]; simp [hpk]
      rw [← hv.keys, List.getElem?_map, Option.map_eq_some_iff] at h3
      obtain ⟨x, hx, hxk⟩ := h3
      exact h2 x (List.mem_of_getElem? hx) hxk
    have hg : mget g key = [] := by
      unfold mget
      rw [List.find?_eq_none.2 (by intro p hp; simpa using habs p hp)]; rfl
    have hh : mhas g key = false := by unfold mhas; rw [List.any_eq_false]; intro p hp; simpa using habs p hp
    refine ⟨.slice none 0 0, fun c => by
      rw [hh]
      simp [Instr.lookup, run_underlying ht, MapKept.run_getObj_map hb, run_checkKey hk (show IsKey (.int .i64) (.int .i64 key) from rfl) _ 9999, run_findKey hk h1, hz, Result.andThen], ?_⟩
    rw [hg]
    refine Own.upd (R1 := [.map Option.none b g]) (R1' := [.own (.slice none 0 0) [], .map (some key) b g]) HS rfl rfl rfl (Nat.le_refl _) ?_
    rintro fp ⟨f1, f2, rfl, ⟨es', clock', f', hb', rfl, hv', hn'⟩, rfl⟩ hnd'
    exact ⟨fun _ _ _ => rfl, b :: f', ⟨[], _, rfl, .inl ⟨rfl, rfl, rfl⟩, b :: f', [], by simp, ⟨es', clock', f', hb', rfl, (Vals.absent habs).1 hv', hn'⟩, rfl⟩, by simpa using hnd', fun x hx => .inl (by simpa using hx)⟩
  · obtain ⟨f1, f2, hp, hd, hv2, hh⟩ := Vals.take (k := key) hv hn.1 h2 h3
    refine ⟨m.val, fun c => by
      rw [hh]
      simp [Instr.lookup, run_underlying ht, MapKept.run_getObj_map hb, run_checkKey hk (show IsKey (.int .i64) (.int .i64 key) from rfl) _ 9999, run_findKey hk h1, Result.andThen], ?_⟩
    refine Own.upd (R1 := [.map Option.none b g]) (R1' := [.own m.val (mget g key), .map (some key) b g]) HS rfl rfl rfl (Nat.le_refl _) ?_
    rintro fp ⟨f3, f4, rfl, ⟨es', clock', f', hb', rfl, hv', hn'⟩, rfl⟩ hnd'
    rw [hb] at hb'
    injection hb' with hb'
    injection hb' with he hc
    subst he hc
    obtain ⟨f1, f2, hp, hd, hv2, hh⟩ := Vals.take (k := key) hv' hn.1 h2 h3
    have hperm : (f1 ++ (b :: f2 ++ [])).Perm (b :: f' ++ []) := by
      rw [List.append_nil, List.append_nil]
      exact List.perm_middle.trans (hp.cons b)
    exact ⟨fun _ _ _ => rfl, f1 ++ (b :: f2 ++ []), ⟨f1, _, rfl, hd, b :: f2, [], by simp, ⟨es, clock, f2, hb, rfl, hv2, hn⟩, rfl⟩, hperm.nodup_iff.2 hnd', fun x hx => .inl (hperm.mem_iff.1 hx)⟩

theorem look_at {P : Program} {w w' : World} {t k e : TypeId} {b : Nat} {key : Int} {v : Value} {c : Bool} (hb : w'.heap[b]? = w.heap[b]?) (ht : P.underlying t = some (.map k e)) (hk : P.underlying k = some (.int .i64)) (hz : ∀ w, (zeroValue e).run P w = .ok (.slice none 0 0) w) {es : Array MapEntry} {clock : Nat} (hw : w.heap[b]? = some (.map es clock)) (hks : ∀ x ∈ es.toList, IsKey (.int .i64) x.key)
    (h : (Instr.lookup t (.map (some b)) (.int .i64 key) c).run P w = .ok v w) : (Instr.lookup t (.map (some b)) (.int .i64 key) c).run P w' = .ok v w' := by
  have hw' := hb.trans hw
  rcases findNow_spec (d := .int .i64) (k := .int .i64 key) rfl es.toList 0 hks with ⟨h1, h2⟩ | ⟨j, m, h1, h2, h3⟩
  · simp [Instr.lookup, run_underlying ht, MapKept.run_getObj_map hw, run_checkKey hk (show IsKey (.int .i64) (.int .i64 key) from rfl) _ 9999, run_findKey hk h1, hz, Result.andThen] at h
    simp [Instr.lookup, run_underlying ht, MapKept.run_getObj_map hw', run_checkKey hk (show IsKey (.int .i64) (.int .i64 key) from rfl) _ 9999, run_findKey hk h1, hz, Result.andThen, h]
  · simp [Instr.lookup, run_underlying ht, MapKept.run_getObj_map hw, run_checkKey hk (show IsKey (.int .i64) (.int .i64 key) from rfl) _ 9999, run_findKey hk h1, hz, Result.andThen] at h
    simp [Instr.lookup, run_underlying ht, MapKept.run_getObj_map hw', run_checkKey hk (show IsKey (.int .i64) (.int .i64 key) from rfl) _ 9999, run_findKey hk h1, hz, Result.andThen, h]
theorem run_look (HS : Own W (.map Option.none b g :: R) w) (ht : P.underlying t = some (.map k e)) (hk : P.underlying k = some (.int .i64)) (hz : ∀ w, (zeroValue e).run P w = .ok (.slice none 0 0) w) (key : Int) :
    ∃ v, (∀ c w', Below w.heap.size w w' → (Instr.lookup t (.map (some b)) (.int .i64 key) c).run P w' = .ok (if c then .tuple #[v, .bool (mhas g key)] else v) w') ∧ Own W (.own v (mget g key) :: .map (some key) b g :: R) w := by
  obtain ⟨v, hrun, hown⟩ := run_take HS ht hk (hz w) key
  refine ⟨v, fun c w' hb => ?_, hown⟩
  obtain ⟨_, fp, ⟨fm, fr, rfl, ⟨es, clock, f, hb', rfl, hv, hn⟩, hR⟩, hnd, hlow⟩ := id HS
  refine look_at (w := w) (hb.block b (Array.getElem?_eq_some_iff.1 hb').1) ht hk hz hb' ?_ (hrun c)
  intro x hx
  obtain ⟨j, hj, rfl⟩ := List.getElem_of_mem hx
  have h1 : (es.toList.map (·.key))[j]? = some (es.toList[j].key) := by rw [List.getElem?_map, List.getElem?_eq_getElem hj]; rfl
  rw [hv.keys, List.getElem?_map, Option.map_eq_some_iff] at h1
  obtain ⟨q, _, hq⟩ := h1
  rw [← hq]; exact rfl

/-- The store. -/
theorem run_put {v : Value} {xs : List α} {key : Int} (HS : Own W (.own v xs :: .map (some key) b g :: R) w) (ht : P.underlying t = some (.map k e)) (hk : P.underlying k = some (.int .i64)) :
    ∃ w', (Instr.mapUpdate t (.map (some b)) (.int .i64 key) v).run P w = .ok () w' ∧ Own W (.map Option.none b (mput g key xs) :: R) w' := by
  obtain ⟨_, fp, ⟨fv, _, rfl, hdv, ⟨fm, fr, rfl, ⟨es, clock, f, hb, rfl, hv, hn⟩, hR⟩⟩, hnd, hlow⟩ := id HS
  have hdv' : Dp (Ty.id α) w v xs fv := hdv
  have hks : ∀ x ∈ es.toList, IsKey (.int .i64) x.key := by
    intro x hx
    obtain ⟨j, hj, rfl⟩ := List.getElem_of_mem hx
    have h1 : (es.toList.map (·.key))[j]? = some (es.toList[j].key) := by rw [List.getElem?_map, List.getElem?_eq_getElem hj]; rfl
    rw [hv.keys, List.getElem?_map, Option.map_eq_some_iff] at h1
    obtain ⟨q, _, hq⟩ := h1
    rw [← hq]; exact rfl
  have hbl : b < w.heap.size := (Array.getElem?_eq_some_iff.1 hb).1
  have fin : ∀ (es' : Array MapEntry) (clock' : Nat), Stamped es' clock' → (∀ (w' : World) f' fv', Same w w' fv' → Same w w' f' → Vals (Ty.id α) (some key) w es.toList g f' → Dp (Ty.id α) w v xs fv' → ∃ f2, f2.Perm (fv' ++ f') ∧ Vals (Ty.id α) Option.none w' es'.toList (mput g key xs) f2) →
      Own W (.map Option.none b (mput g key xs) :: R) ({ w with heap := w.heap.setIfInBounds b (.map es' clock') } : World) := by
    intro es' clock' hst hf
    refine Own.upd (R1 := [.own v xs, .map (some key) b g]) (R1' := [.map Option.none b (mput g key xs)]) HS rfl rfl rfl (by simp) ?_
    rintro fp ⟨f1, _, rfl, hd1, ⟨f3, f4, rfl, ⟨es2, clock2, f5, hb2, rfl, hv2, hn2⟩, rfl⟩⟩ hnd'
    have hd1' : Dp (Ty.id α) w v xs f1 := hd1
    rw [hb] at hb2
    injection hb2 with hb2
    injection hb2 with he hc
    subst he hc
    have hne : ∀ x ∈ f1 ++ f5, x ≠ b := by
      intro x hx hxb
      subst hxb
      simp only [List.append_nil, List.nodup_append, List.nodup_cons] at hnd'
      rcases List.mem_append.1 hx with h | h
      · exact hnd'.2.2 x h x (by simp) rfl
      · exact hnd'.2.1.1 h
    have hother : ∀ i, i ≠ b → (w.heap.setIfInBounds b (.map es' clock'))[i]? = w.heap[i]? := by
      intro i hi
      simp [Array.getElem?_setIfInBounds, Ne.symm hi]
    obtain ⟨f2, hp, hv3⟩ := hf { w with heap := w.heap.setIfInBounds b (.map es' clock') } f5 f1 (fun x hx => hother x (hne x (by simp [hx]))) (fun x hx => hother x (hne x (by simp [hx]))) hv2 hd1'
    have hperm : (b :: f2).Perm (f1 ++ (b :: f5)) := ((hp.cons b).trans List.perm_middle.symm)
    refine ⟨fun i _ hi => hother i (fun e => hi (by simp [e])), b :: f2 ++ [], ⟨b :: f2, [], rfl, ⟨es', clock', f2, by simp [hbl], rfl, hv3, ⟨(mput_keys key xs g hn2.1).1, hst⟩⟩, rfl⟩, ?_, fun x hx => .inl ?_⟩
    · rw [List.append_nil]; exact hperm.nodup_iff.2 (by simpa using hnd')
    · simpa using hperm.mem_iff.1 (by simpa using hx)
  rcases findNow_spec (d := .int .i64) (k := .int .i64 key) rfl es.toList 0 hks with ⟨h1, h2⟩ | ⟨j, m, h1, h2, h3⟩
  · have habs : ∀ p ∈ g, p.1 ≠ key := by
      intro p hp hpk
      obtain ⟨j, hj, rfl⟩ := List.getElem_of_mem hp
      have h3 : (g.map (fun p => Value.int .i64 p.1))[j]? = some (Value.int .i64 key) := by rw [List.getElem?_map, List.getElem?_eq_getElem hj]; simp [hpk]
      rw [← hv.keys, List.getElem?_map, Option.map_eq_some_iff] at h3
      obtain ⟨x, hx, hxk⟩ := h3
      exact h2 x (List.mem_of_getElem? hx) hxk
    refine ⟨_, by simp [Instr.mapUpdate, run_underlying ht, MapKept.run_getObj_map hb, run_checkKey hk (show IsKey (.int .i64) (.int .i64 key) from rfl) _ 9999, run_findKey hk h1, MapKept.run_setObj_map _ hb, Result.andThen], fin (es.push ⟨.int .i64 key, v, clock⟩) (clock + 1) (stamped_push hn.2 h2) ?_⟩
    intro w' f' fv' hs1 hs2 hv2 hd2
    refine ⟨f' ++ fv', List.perm_append_comm, ?_⟩
    rw [Array.toList_push]
    exact Vals.push (hd2.loc hs1) _ rfl clock ((Vals.absent habs).2 (hv2.loc hs2)) habs
  · have hstay := run_keyThatStays (P := P) (w := w) (d := .int .i64) (k := .int .i64 key) rfl
    have hj : es[j]? = some m := by rw [← Array.getElem?_toList]; exact h2
    refine ⟨_, by simp [Instr.mapUpdate, run_underlying ht, MapKept.run_getObj_map hb, run_checkKey hk (show IsKey (.int .i64) (.int .i64 key) from rfl) _ 9999, run_findKey hk h1, hj, h3, hstay, MapKept.run_setObj_map _ hb, Result.andThen], fin (es.modify j fun e => { e with key := .int .i64 key, val := v }) clock (stamped_modify hn.2 j _ (fun _ _ => rfl) (fun e _ he => by rw [hj] at he; cases he; exact h3.symm)) ?_⟩
    intro w' f' fv' hs1 hs2 hv2 hd2
    obtain ⟨f2, hp, hv3⟩ := Vals.put (hd2.loc hs1) (.int .i64 key) (hv2.loc hs2) hn.1 h2 h3 rfl
    exact ⟨f2, hp, by rw [Array.toList_modify]; exact hv3⟩

theorem Own.mapAt (HS : Own W (.map Option.none b g :: R) w) : ∃ es clock, w.heap[b]? = some (.map es clock) ∧ es.size = g.length := by
  obtain ⟨_, fp, ⟨fm, fr, rfl, ⟨es, clock, f, hb, rfl, hv, hn⟩, hR⟩, hnd, hlow⟩ := id HS
  refine ⟨es, clock, hb, ?_⟩
  have := congrArg List.length hv.keys
  simpa using this
/-! At an operation. -/
variable {ops : Array Oper} {rest : List Oper} {o : Oper} {a : Act} {Q : Exit → Act → World → Prop} {K : Act → World → Prop} {E : Prop}
theorem op_look (m x : Operand) (c : Bool) (hop : o.op = Op.lookup t m x c) (ht : P.underlying t = some (.map k e)) (hk : P.underlying k = some (.int .i64)) (hz : ∀ w, (zeroValue e).run P w = .ok (.slice none 0 0) w)
    (HS : Own W (.map Option.none b g :: R) w) (hm : a.eval m = .map (some b)) (key : Int) (hx : a.eval x = .int .i64 key)
    (h : ∀ v, Own W (.own v (mget g key) :: .map (some key) b g :: R) w → K (a.put o.dst (if c then .tuple #[v, .bool (mhas g key)] else v)) w) : Oper.wp P o a w K Q := by
  obtain ⟨v, hrun, hown⟩ := run_take HS ht hk (hz w) key
  unfold Oper.wp
  simp [execOp, hop, hm, hx, hrun c, Result.andThen]
  exact h v hown
theorem wp_look (hgd : o.guard = none) (m x : Operand) (c : Bool) (hop : o.op = Op.lookup t m x c) (ht : P.underlying t = some (.map k e)) (hk : P.underlying k = some (.int .i64)) (hz : ∀ w, (zeroValue e).run P w = .ok (.slice none 0 0) w)
    (HS : Own W (.map Option.none b g :: R) w) (hm : a.eval m = .map (some b)) (key : Int) (hx : a.eval x = .int .i64 key)
    (h : ∀ v, Own W (.own v (mget g key) :: .map (some key) b g :: R) w → wpList P ops Q rest (a.put o.dst (if c then .tuple #[v, .bool (mhas g key)] else v)) w) : wpList P ops Q (o :: rest) a w :=
  wpList_plain hgd fun _ hK => op_look m x c hop ht hk hz HS hm key hx (fun v hv => hK _ _ (h v hv))
theorem op_mput (m x y : Operand) (hop : o.op = Op.mapUpdate t m x y) (ht : P.underlying t = some (.map k e)) (hk : P.underlying k = some (.int .i64)) {v : Value} {xs : List α} {key : Int}
    (HS : Own W (.own v xs :: .map (some key) b g :: R) w) (hm : a.eval m = .map (some b)) (hx : a.eval x = .int .i64 key) (hy : a.eval y = v)
    (h : ∀ w', Own W (.map Option.none b (mput g key xs) :: R) w' → K (a.put o.dst undef) w') : Oper.wp P o a w K Q := by
  obtain ⟨w', hrun, hown⟩ := run_put HS ht hk
  unfold Oper.wp
  simp [execOp, hop, hm, hx, hy, hrun, Result.andThen]
  exact h w' hown
theorem wp_mput (hgd : o.guard = none) (m x y : Operand) (hop : o.op = Op.mapUpdate t m x y) (ht : P.underlying t = some (.map k e)) (hk : P.underlying k = some (.int .i64)) {v : Value} {xs : List α} {key : Int}
    (HS : Own W (.own v xs :: .map (some key) b g :: R) w) (hm : a.eval m = .map (some b)) (hx : a.eval x = .int .i64 key) (hy : a.eval y = v)
    (h : ∀ w', Own W (.map Option.none b (mput g key xs) :: R) w' → wpList P ops Q rest (a.put o.dst undef) w') : wpList P ops Q (o :: rest) a w :=
  wpList_plain hgd fun _ hK => op_mput m x y hop ht hk HS hm hx hy (fun w' hw => hK _ _ (h w' hw))
theorem wp_maplen (hgd : o.guard = none) (m : Operand) (hop : o.op = Op.call { callee := Callee.builtin Builtin.len, args := #[m], argTypes := #[t] }) (ht : P.underlying t = some (.map k e))
    (HS : Own W (.map Option.none b g :: R) w) (hm : a.eval m = .map (some b)) (h : wpList P ops Q rest (a.put o.dst (.int .i64 (g.length : Int))) w) : wpList P ops Q (o :: rest) a w := by
  obtain ⟨es, clock, hb, hs⟩ := HS.mapAt
  refine wpList_plain hgd fun _ hK => ?_
  have hrun : (Builtin.len_ #[t] o.type #[.map (some b)]).run P w = .ok (.int .i64 (g.length : Int)) w := by
    simp [Builtin.len_, run_underlying ht, MapKept.run_getObj_map hb, hs]; rfl
  unfold Oper.wp
  simp [execOp, hop, resolve, invoke, builtin, hm, hrun, Result.andThen]
  exact hK _ _ h
theorem wp_mkmap (α : Type) [Cd α] [Ty α] (hgd : o.guard = none) (t : TypeId) (hop : o.op = Op.makeMap t none) (HS : Own W R w)
    (h : ∀ w', Own W (.map Option.none w.heap.size ([] : List (Int × List α)) :: R) w' → wpList P ops Q rest (a.put o.dst (.map (some w.heap.size))) w') : wpList P ops Q (o :: rest) a w := by
  refine wpList_plain hgd fun K' hK' => ?_
  have hrun : (Instr.makeMap t none).run P w = .ok (.map (some w.heap.size)) (w.alloc (.map #[] 0)) := rfl
  unfold Oper.wp
  simp [execOp, hop, hrun, Result.andThen]
  exact hK' _ _ (h _ HS.mkmap)
end
end Go.Ow

/- A map from dots that a call owns: only its keys are told. -/
namespace Go.Ow
set_option linter.unusedSimpArgs false
set_option linter.unusedVariables false
open Go.RowKit Go.MapKept
attribute [local irreducible] wpQuiet
def dotv (d : Int × Int) : Value := .agg #[.int .i64 d.1, .int .i64 d.2]
theorem dotv_inj {a b : Int × Int} : dotv a = dotv b ↔ a = b := by
  cases a; cases b; simp [dotv]
/-- What the look-ups ask of the key's type. -/
structure DotKey (P : Program) (k : TypeId) : Prop where
  wide : ∀ (w : World) (x : Value) (es : List MapEntry), (Instr.findKey k x es).run P w = (Instr.findAsking k x es).run P w
  check : ∀ (w : World) (em : Bool) (d : Int × Int), (Instr.checkKey em 10000 k (dotv d)).run P w = .ok () w
  eq : ∀ (w : World) (a b : Int × Int), (Op.equal k (dotv a) (dotv b)).run P w = .ok (decide (a = b)) w
  stays : ∀ (w : World) (d : Int × Int), (Instr.keyThatStays (dotv d) (dotv d)).run P w = .ok (dotv d) w
theorem run_eq_int {P : Program} {t : TypeId} (ht : P.underlying t = some (.int .i64)) (w : World) (d : Nat) (x y : Int) : (Op.equalIn (d + 1) t (.int .i64 x) (.int .i64 y)).run P w = .ok (x == y) w := by
  simp [Op.equalIn, run_underlying ht, Result.andThen]
theorem run_eq_dot {P : Program} {t i : TypeId} {f1 f2 : Field} (ht : P.underlying t = some (.struct (P.fieldsOf t))) (hp : P.stoodInHeld t = false) (hf : (P.fieldsOf t).toList = [f1, f2]) (t1 : f1.type = i) (t2 : f2.type = i) (o1 : f1.offset = 0) (o2 : f2.offset = 1) (n1 : f1.name = "Rep") (n2 : f2.name = "Seq")
    (hi : P.underlying i = some (.int .i64)) (e1 : ∀ (w : World) (x y : Int), (part i #[Value.int .i64 x, Value.int .i64 y] 0).run P w = .ok (.int .i64 x) w) (e2 : ∀ (w : World) (x y : Int), (part i #[Value.int .i64 x, Value.int .i64 y] 1).run P w = .ok (.int .i64 y) w) (w : World) (a b : Int × Int) :
    (Op.equal t (dotv a) (dotv b)).run P w = .ok (decide (a = b)) w := by
  obtain ⟨a1, a2⟩ := a
  obtain ⟨b1, b2⟩ := b
  have he := run_eq_int hi
  unfold Op.equal
  rw [show Op.maxDepth = 9998 + 1 + 1 from rfl]
  unfold dotv
  rw [run_equalIn_struct _ _ _ _ _ ht hp, hf]
  by_cases h1 : a1 = b1
  · subst h1
    by_cases h2 : a2 = b2
    · subst h2
      simp [Op.eqFields, t1, t2, o1, o2, n1, n2, e1, e2, he, Result.andThen]
    · simp [Op.eqFields, t1, t2, o1, o2, n1, n2, e1, e2, he, Result.andThen, h2]
  · simp [Op.eqFields, t1, t2, o1, o2, n1, n2, e1, e2, he, Result.andThen, h1]
def Keys (es : List MapEntry) (ks : List (Int × Int)) : Prop := es.map (·.key) = ks.map dotv
def Ds.dots (b : Nat) (ks : List (Int × Int)) : Ds := .any (fun w fp => fp = [b] ∧ ∃ es clock, w.heap[b]? = some (.map es clock) ∧ es.toList.map (·.key) = ks.map dotv)
  (by rintro w w' fp ⟨rfl, es, clock, hb, h⟩ hs; exact ⟨rfl, es, clock, (hs b (by simp)).trans hb, h⟩)
  (by rintro w fp ⟨rfl, es, clock, hb, h⟩ x hx; rw [List.mem_singleton] at hx; subst hx; exact (Array.getElem?_eq_some_iff.1 hb).1)
section
variable {P : Program} {w W : World} {R : List Ds} {t k e : TypeId} {b : Nat} {ks : List (Int × Int)}
theorem run_asking (K : DotKey P k) (w : World) (d : Int × Int) : ∀ (es : List MapEntry) (ks : List (Int × Int)) (i : Nat), es.map (·.key) = ks.map dotv →
    (d ∉ ks ∧ (Instr.findAsking k (dotv d) es i).run P w = .ok none w) ∨ (d ∈ ks ∧ ∃ j v, (Instr.findAsking k (dotv d) es i).run P w = .ok (some (j, v)) w)
  | [], [], i, _ => .inl ⟨by simp, by simp [Instr.findAsking]⟩
  | [], _ :: _, _, h => by simp at h
  | _ :: _, [], _, h => by simp at h
  | m :: es, q :: ks, i, h => by
    simp only [List.map_cons, List.cons.injEq] at h
    by_cases hq : d = q
    · right
      exact ⟨by simp [hq], i, m.val, by simp [Instr.findAsking, h.1, K.eq, hq]⟩
    · rcases run_asking K w d es ks (i + 1) h.2 with ⟨h1, h2⟩ | ⟨h1, j, v, h2⟩
      · exact .inl ⟨by simp [hq, h1], by simp [Instr.findAsking, h.1, K.eq, hq, h2]⟩
      · exact .inr ⟨by simp [h1], j, v, by simp [Instr.findAsking, h.1, K.eq, hq, h2]⟩
theorem Own.dotsAt (HS : Own W (.dots b ks :: R) w) : ∃ es clock, w.heap[b]? = some (.map es clock) ∧ es.toList.map (·.key) = ks.map dotv := by
  obtain ⟨_, fp, ⟨fm, fr, rfl, ⟨_, es, clock, hb, h⟩, hR⟩, hnd, hlow⟩ := id HS
  exact ⟨es, clock, hb, h⟩
/-- The look-up with its second result. -/
theorem run_dot (K : DotKey P k) (HS : Own W (.dots b ks :: R) w) (ht : P.underlying t = some (.map k e)) {z : Value} (hz : ∀ w, (zeroValue e).run P w = .ok z w) (d : Int × Int) :
    ∃ v, (Instr.lookup t (.map (some b)) (dotv d) true).run P w = .ok (.tuple #[v, .bool (decide (d ∈ ks))]) w := by
  obtain ⟨es, clock, hb, h⟩ := HS.dotsAt
  rcases run_asking K w d es.toList ks 0 h with ⟨h1, h2⟩ | ⟨h1, j, v, h2⟩
  · exact ⟨z, by simp [Instr.lookup, run_underlying ht, MapKept.run_getObj_map hb, K.check, K.wide, h2, hz, Result.andThen, h1]⟩
  · exact ⟨v, by simp [Instr.lookup, run_underlying ht, MapKept.run_getObj_map hb, K.check, K.wide, h2, Result.andThen, h1]⟩
theorem run_dput (K : DotKey P k) (HS : Own W (.dots b ks :: R) w) (ht : P.underlying t = some (.map k e)) (d : Int × Int) (hd : d ∉ ks) (v : Value) :
    ∃ w', (Instr.mapUpdate t (.map (some b)) (dotv d) v).run P w = .ok () w' ∧ Own W (.dots b (ks ++ [d]) :: R) w' := by
  obtain ⟨es, clock, hb, h⟩ := HS.dotsAt
  rcases run_asking K w d es.toList ks 0 h with ⟨h1, h2⟩ | ⟨h1, _⟩
  · refine ⟨{ w with heap := w.heap.setIfInBounds b (.map (es.push ⟨dotv d, v, clock⟩) (clock + 1)) }, by simp [Instr.mapUpdate, run_underlying ht, MapKept.run_getObj_map hb, K.check, K.wide, h2, MapKept.run_setObj_map _ hb, Result.andThen], ?_⟩
    refine Own.upd (R1 := [.dots b ks]) (R1' := [.dots b (ks ++ [d])]) HS rfl rfl rfl (by simp) ?_
    have hbl : b < w.heap.size := (Array.getElem?_eq_some_iff.1 hb).1
    rintro fp ⟨f1, f2, rfl, ⟨rfl, _⟩, rfl⟩ hnd
    refine ⟨fun i _ hi => ?_, [b] ++ [], ⟨[b], [], rfl, ⟨rfl, _, clock + 1, by simp [hbl]; rfl, by simp [h]⟩, rfl⟩, by simp, fun y hy => .inl (by simpa using hy)⟩
    have : b ≠ i := fun h => hi (by simp [h])
    simp [Array.getElem?_setIfInBounds, this]
  · exact absurd h1 hd
theorem Own.mkdots (h : Own W R w) : Own W (.dots w.heap.size [] :: R) (w.alloc (.map #[] 0)) :=
  Own.call (Rn := [.dots w.heap.size []]) h ⟨(Below.refl _ _).alloc (Nat.le_refl _) _, [w.heap.size], ⟨[w.heap.size], [], rfl, ⟨rfl, #[], 0, (MapKept.heap_alloc w _).1, rfl⟩, rfl⟩, by simp, by simp⟩
variable {ops : Array Oper} {rest : List Oper} {o : Oper} {a : Act} {Q : Exit → Act → World → Prop}
theorem wp_dot (K : DotKey P k) (hgd : o.guard = none) (m x : Operand) (hop : o.op = Op.lookup t m x true) (ht : P.underlying t = some (.map k e)) {z : Value} (hz : ∀ w, (zeroValue e).run P w = .ok z w)
    (HS : Own W (.dots b ks :: R) w) (hm : a.eval m = .map (some b)) (d : Int × Int) (hx : a.eval x = dotv d)
    (h : ∀ v, wpList P ops Q rest (a.put o.dst (.tuple #[v, .bool (decide (d ∈ ks))])) w) : wpList P ops Q (o :: rest) a w := by
  refine wpList_plain hgd fun _ hK => ?_
  obtain ⟨v, hrun⟩ := run_dot K HS ht hz d
  unfold Oper.wp
  simp [execOp, hop, hm, hx, hrun, Result.andThen]
  exact hK _ _ (h v)
theorem wp_dput (K : DotKey P k) (hgd : o.guard = none) (m x y : Operand) (hop : o.op = Op.mapUpdate t m x y) (ht : P.underlying t = some (.map k e)) (HS : Own W (.dots b ks :: R) w) (hm : a.eval m = .map (some b)) (d : Int × Int) (hx : a.eval x = dotv d) (hd : d ∉ ks)
    (h : ∀ w', Own W (.dots b (ks ++ [d]) :: R) w' → wpList P ops Q rest (a.put o.dst undef) w') : wpList P ops Q (o :: rest) a w := by
  refine wpList_plain hgd fun _ hK => ?_
  obtain ⟨w', hrun, hown⟩ := run_dput K HS ht d hd (a.eval y)
  unfold Oper.wp
  simp [execOp, hop, hm, hx, hrun, Result.andThen]
  exact hK _ _ (h w' hown)
theorem wp_mkdots (hgd : o.guard = none) (t : TypeId) (hop : o.op = Op.makeMap t none) (HS : Own W R w)
    (h : ∀ w', Own W (.dots w.heap.size [] :: R) w' → wpList P ops Q rest (a.put o.dst (.map (some w.heap.size))) w') : wpList P ops Q (o :: rest) a w := by
  refine wpList_plain hgd fun K' hK' => ?_
  have hrun : (Instr.makeMap t none).run P w = .ok (.map (some w.heap.size)) (w.alloc (.map #[] 0)) := rfl
  unfold Oper.wp
  simp [execOp, hop, hrun, Result.andThen]
  exact hK' _ _ (h _ HS.mkdots)
end
end Go.Ow

/- A map that a call owns, while only read: its entries stay, whatever else is written. -/
namespace Go.Ow
set_option linter.unusedSimpArgs false
set_option linter.unusedVariables false
open Go.RowKit Go.MapKept
attribute [local irreducible] wpQuiet
section
variable {α : Type} [Cd α]
def MapF (e : Nat) (es : Array MapEntry) (clock b : Nat) (g : List (Int × List α)) (w : World) (fp : List Nat) : Prop :=
  ∃ f, w.heap[b]? = some (.map es clock) ∧ fp = b :: f ∧ Vals e Option.none w es.toList g f ∧ ((g.map (·.1)).Nodup ∧ Stamped es clock)

def Ds.mapf [Ty α] (es : Array MapEntry) (clock b : Nat) (g : List (Int × List α)) : Ds := .any (MapF (Ty.id α) es clock b g)
  (by
    rintro w w' fp ⟨f, hb, rfl, hv, hn⟩ hs
    exact ⟨f, (hs b (by simp)).trans hb, rfl, hv.loc (fun x hx => hs x (by simp [hx])), hn⟩)
  (by
    rintro w fp ⟨f, hb, rfl, hv, hn⟩ x hx
    rcases List.mem_cons.1 hx with rfl | h
    · exact (Array.getElem?_eq_some_iff.1 hb).1
    · exact hv.lt x h)

variable [Ty α] {P : Program} {w W : World} {R : List Ds} {t k e : TypeId} {b : Nat} {g : List (Int × List α)}

theorem Own.keep (h : Own W (.map Option.none b g :: R) w) : ∃ es clock, Own W (.mapf es clock b g :: R) w := by
  obtain ⟨hB, fp, ⟨fm, fr, rfl, ⟨es, clock, f, hb, rfl, hv, hn⟩, hR⟩, hnd, hlow⟩ := h
  exact ⟨es, clock, hB, _, ⟨b :: f, fr, rfl, ⟨f, hb, rfl, hv, hn⟩, hR⟩, hnd, hlow⟩
theorem Own.unkeep {es : Array MapEntry} {clock : Nat} (h : Own W (.mapf es clock b g :: R) w) : Own W (.map Option.none b g :: R) w := by
  obtain ⟨hB, fp, ⟨fm, fr, rfl, ⟨f, hb, rfl, hv, hn⟩, hR⟩, hnd, hlow⟩ := h
  exact ⟨hB, _, ⟨b :: f, fr, rfl, ⟨es, clock, f, hb, rfl, hv, hn⟩, hR⟩, hnd, hlow⟩
/-- What is found at a key: one value for all later worlds. -/
theorem Own.look {es : Array MapEntry} {clock : Nat} (HS : Own W (.mapf es clock b g :: R) w) (ht : P.underlying t = some (.map k e)) (hk : P.underlying k = some (.int .i64)) (hz : ∀ w, (zeroValue e).run P w = .ok (.slice none 0 0) w) (key : Int) :
    ∃ v, (∀ c w', w'.heap[b]? = some (.map es clock) → (Instr.lookup t (.map (some b)) (.int .i64 key) c).run P w' = .ok (if c then .tuple #[v, .bool (mhas g key)] else v) w') ∧
      ∀ {W' w' : World} {R' : List Ds}, Own W' (.mapf es clock b g :: R') w' → w'.heap[b]? = some (.map es clock) ∧ Rd w' v (mget g key) := by
  obtain ⟨_, fp, ⟨fm, fr, rfl, ⟨f, hb, rfl, hv, hn⟩, hR⟩, hnd, hlow⟩ := id HS
  have hks : ∀ x ∈ es.toList, IsKey (.int .i64) x.key := by
    intro x hx
    obtain ⟨j, hj, rfl⟩ := List.getElem_of_mem hx
    have h1 : (es.toList.map (·.key))[j]? = some (es.toList[j].key) := by rw [List.getElem?_map, List.getElem?_eq_getElem hj]; rfl
    rw [hv.keys, List.getElem?_map, Option.map_eq_some_iff] at h1
    obtain ⟨q, _, hq⟩ := h1
    rw [← hq]; exact rfl
  rcases findNow_spec (d := .int .i64) (k := .int .i64 key) rfl es.toList 0 hks with ⟨h1, h2⟩ | ⟨j, m, h1, h2, h3⟩
  · have habs : ∀ p ∈ g, p.1 ≠ key := by
      intro p hp hpk
      obtain ⟨j, hj, rfl⟩ := List.getElem_of_mem hp
      have h3 : (g.map (fun p => Value.int .i64 p.1))[j]? = some (Value.int .i64 key) := by rw [List.getElem?_map, List.getElem?_eq_getElem hj]; simp [hpk]
      rw [← hv.keys, List.getElem?_map, Option.map_eq_some_iff] at h3
      obtain ⟨x, hx, hxk⟩ := h3
      exact h2 x (List.mem_of_getElem? hx) hxk
    have hg : mget g key = [] := by
      unfold mget
      rw [List.find?_eq_none.2 (by intro p hp; simpa using habs p hp)]; rfl
    have hh : mhas g key = false := by unfold mhas; rw [List.any_eq_false]; intro p hp; simpa using habs p hp
    refine ⟨.slice none 0 0, fun c w' hb' => by
      rw [hh]
      simp [Instr.lookup, run_underlying ht, MapKept.run_getObj_map hb', run_checkKey hk (show IsKey (.int .i64) (.int .i64 key) from rfl) _ 9999, run_findKey hk h1, hz, Result.andThen], ?_⟩
    rintro W' w' R' ⟨_, fp', ⟨fm', fr', rfl, ⟨f', hb', rfl, hv', hn'⟩, hR'⟩, _⟩
    rw [hg]
    exact ⟨hb', none, 0, rfl, Nat.zero_le _, Nat.zero_le _, Nat.zero_le _, fun _ => rfl, fun i hi => by simp at hi⟩
  · obtain ⟨f1, f2, hp, hd, hv2, hh⟩ := Vals.take (k := key) hv hn.1 h2 h3
    refine ⟨m.val, fun c w' hb' => by
      rw [hh]
      simp [Instr.lookup, run_underlying ht, MapKept.run_getObj_map hb', run_checkKey hk (show IsKey (.int .i64) (.int .i64 key) from rfl) _ 9999, run_findKey hk h1, Result.andThen], ?_⟩
    rintro W' w' R' ⟨_, fp', ⟨fm', fr', rfl, ⟨f', hb', rfl, hv', hn'⟩, hR'⟩, _⟩
    obtain ⟨f1, f2, hp, hd, hv2, hh⟩ := Vals.take (k := key) hv' hn'.1 h2 h3
    exact ⟨hb', hd.rd⟩
end
end Go.Ow

/- A range over a map that a call owns and does not write. -/
namespace Go.Ow
set_option linter.unusedSimpArgs false
set_option linter.unusedVariables false
open Go.RowKit Go.MapKept
attribute [local irreducible] wpQuiet
def Ds.iter (r b clock : Nat) (seen : Array Nat) : Ds := .any (fun w fp => w.heap[r]? = some (.mapIter (some b) clock seen clock) ∧ fp = [r])
  (by rintro w w' fp ⟨hb, rfl⟩ hs; exact ⟨(hs r (by simp)).trans hb, rfl⟩)
  (by rintro w fp ⟨hb, rfl⟩ x hx; rw [List.mem_singleton] at hx; subst hx; exact (Array.getElem?_eq_some_iff.1 hb).1)
section
variable {α : Type} [Cd α]
theorem Vals.at_ {e : Nat} {w : World} : ∀ {es : List MapEntry} {g : List (Int × List α)} {fp : List Nat}, Vals e Option.none w es g fp → ∀ m ∈ es, ∃ p ∈ g, m.key = .int .i64 p.1 ∧ ∃ f, Dp e w m.val p.2 f
  | [], [], _, _, m, hm => by cases hm
  | m0 :: es, p :: g, _, ⟨hk, f, f', rfl, hv, hr⟩, m, hm => by
    rw [if_neg (by simp)] at hv
    rcases List.mem_cons.1 hm with rfl | hm
    · exact ⟨p, by simp, hk, f, hv⟩
    · obtain ⟨q, hq, h1, h2⟩ := Vals.at_ hr m hm
      exact ⟨q, by simp [hq], h1, h2⟩
  | [], _ :: _, _, h, _, _ => h.elim
  | _ :: _, [], _, h, _, _ => h.elim
omit [Cd α] in
theorem mget_mem : ∀ {g : List (Int × List α)}, (g.map (·.1)).Nodup → ∀ p ∈ g, mget g p.1 = p.2 ∧ mhas g p.1 = true
  | p0 :: g, hn, p, hp => by
    rw [List.map_cons, List.nodup_cons] at hn
    rcases List.mem_cons.1 hp with rfl | hp
    · simp [mget, mhas]
    · have hne : ¬ p0.1 = p.1 := fun h => hn.1 (by rw [h]; exact List.mem_map.2 ⟨p, hp, rfl⟩)
      have ih := mget_mem hn.2 p hp
      have e : (p0.1 == p.1) = false := by simpa using hne
      simp only [mget, mhas] at ih ⊢
      exact ⟨by simp only [List.find?_cons, e]; exact ih.1, by simp only [List.any_cons, e, Bool.false_or]; exact ih.2⟩
variable [Ty α] {P : Program} {w W : World} {R : List Ds} {b r clock : Nat} {g : List (Int × List α)} {es : Array MapEntry} {seen : Array Nat}
theorem Own.ents (h : Own W (.mapf es clock b g :: R) w) : w.heap[b]? = some (.map es clock) ∧ (∀ m ∈ es.toList, ∃ k, m.key = .int .i64 k ∧ mhas g k = true ∧ Rd w m.val (mget g k)) ∧ Stamped es clock ∧ ∀ k, mhas g k = true → ∃ m ∈ es.toList, m.key = .int .i64 k := by
  obtain ⟨hB, fp, ⟨fm, fr, rfl, ⟨f, hb, rfl, hv, hn⟩, hR⟩, hnd, hlow⟩ := h
  refine ⟨hb, fun m hm => ?_, hn.2, fun k hk => ?_⟩
  · obtain ⟨p, hp, h1, f', h2⟩ := hv.at_ m hm
    have := mget_mem hn.1 p hp
    exact ⟨p.1, h1, this.2, by rw [this.1]; exact h2.rd⟩
  · simp only [mhas, List.any_eq_true, beq_iff_eq] at hk
    obtain ⟨p, hp, rfl⟩ := hk
    have hks := hv.keys
    have : Value.int .i64 p.1 ∈ es.toList.map (·.key) := by rw [hks]; exact List.mem_map.2 ⟨p, hp, rfl⟩
    obtain ⟨m, hm, h⟩ := List.mem_map.1 this
    exact ⟨m, hm, h⟩
/-- The keys that are still to come. -/
def lft (es : Array MapEntry) (seen : Array Nat) (k : Int) : Prop := ∃ e ∈ (leftOf es seen).toList, e.key = .int .i64 k
theorem lft_start (h : Own W (.mapf es clock b g :: R) w) (k : Int) : lft es #[] k ↔ mhas g k = true := by
  obtain ⟨_, h1, _, h2⟩ := h.ents
  have e : leftOf es #[] = es := by
    unfold leftOf
    rw [Array.filter_eq_self]; intro x _; simp
  unfold lft
  rw [e]
  constructor
  · rintro ⟨m, hm, hk⟩
    obtain ⟨j, hj, h3, _⟩ := h1 m hm
    rw [hk] at hj
    injection hj with _ hj
    rw [hj]; exact h3
  · exact h2 k
theorem lft_push (h : Stamped es clock) {e : MapEntry} {k : Int} (he : e ∈ (leftOf es seen).toList) (hk : e.key = .int .i64 k) (j : Int) : lft es (seen.push e.born) j ↔ lft es seen j ∧ j ≠ k := by
  obtain ⟨hm, hs⟩ := mem_left he
  obtain ⟨_, hb, hkk⟩ := h
  unfold lft leftOf
  constructor
  · rintro ⟨x, hx, hxj⟩
    have hx' := Array.mem_filter.1 (Array.mem_toList_iff.1 hx)
    have hc : seen.contains x.born = false ∧ x.born ≠ e.born := by
      have := hx'.2
      rw [contains_push] at this
      simpa using this
    refine ⟨⟨x, Array.mem_toList_iff.2 (Array.mem_filter.2 ⟨hx'.1, by rw [hc.1]; rfl⟩), hxj⟩, fun hjk => hc.2 ?_⟩
    subst hjk
    have hx1 := Array.mem_toList_iff.2 hx'.1
    obtain ⟨a, ha, rfl⟩ := List.getElem_of_mem hx1
    obtain ⟨c, hc2, rfl⟩ := List.getElem_of_mem hm
    have hac : a = c := by
      have hp := List.pairwise_iff_getElem.1 (List.nodup_iff_pairwise_ne.1 hkk)
      rcases Nat.lt_trichotomy a c with hl | hl | hl
      · have := hp a c (by simpa using ha) (by simpa using hc2) hl
        simp only [List.getElem_map] at this
        exact absurd (hxj.trans hk.symm) this
      · exact hl
      · have := hp c a (by simpa using hc2) (by simpa using ha) hl
        simp only [List.getElem_map] at this
        exact absurd (hk.trans hxj.symm) this
    subst hac; rfl
  · rintro ⟨⟨x, hx, hxj⟩, hne⟩
    have hx' := Array.mem_filter.1 (Array.mem_toList_iff.1 hx)
    refine ⟨x, Array.mem_toList_iff.2 (Array.mem_filter.2 ⟨hx'.1, ?_⟩), hxj⟩
    have hxe : x.born ≠ e.born := by
      intro hbe
      obtain ⟨a, ha, rfl⟩ := List.getElem_of_mem (Array.mem_toList_iff.2 hx'.1)
      obtain ⟨c, hc2, rfl⟩ := List.getElem_of_mem hm
      have hac : a = c := by
        have hp := List.pairwise_iff_getElem.1 (List.nodup_iff_pairwise_ne.1 hb)
        rcases Nat.lt_trichotomy a c with hl | hl | hl
        · have := hp a c (by simpa using ha) (by simpa using hc2) hl
          simp only [List.getElem_map] at this
          exact absurd hbe this
        · exact hl
        · have := hp c a (by simpa using hc2) (by simpa using ha) hl
          simp only [List.getElem_map] at this
          exact absurd hbe.symm this
      subst hac
      rw [hxj] at hk
      injection hk with _ hk
      exact hne hk
    have h2 := hx'.2
    rw [contains_push]
    simp at h2 ⊢
    exact ⟨h2, hxe⟩
theorem lft_done (h : (leftOf es seen).size = 0) (k : Int) : ¬ lft es seen k := by
  rintro ⟨e, he, _⟩
  rw [Array.eq_empty_of_size_eq_zero h] at he
  simp at he
variable {ops : Array Oper} {rest : List Oper} {o : Oper} {a : Act} {Q : Exit → Act → World → Prop}
theorem wp_range {t k e : TypeId} (hgd : o.guard = none) (m : Operand) (hop : o.op = Op.range t m) (ht : P.underlying t = some (.map k e)) (HS : Own W (.mapf es clock b g :: R) w) (hm : a.eval m = .map (some b))
    (h : ∀ w', Own W (.iter w.heap.size b clock #[] :: .mapf es clock b g :: R) w' → wpList P ops Q rest (a.put o.dst (.pointer (some ⟨w.heap.size, 0, none⟩))) w') : wpList P ops Q (o :: rest) a w := by
  refine wpList_plain hgd fun _ hK => ?_
  have hb := HS.ents.1
  have hrun : (Instr.range t (.map (some b))).run P w = .ok (.pointer (some ⟨w.heap.size, 0, none⟩)) (w.alloc (.mapIter (some b) clock #[] clock)) := by
    simp [Instr.range, run_underlying ht, MapKept.run_getObj_map hb, Result.andThen]
  unfold Oper.wp
  simp [execOp, hop, hm, hrun, Result.andThen]
  refine hK _ _ (h _ ?_)
  exact Own.call (Rn := [.iter w.heap.size b clock #[]]) HS ⟨(Below.refl _ _).alloc (Nat.le_refl _) _, [w.heap.size], ⟨[w.heap.size], [], rfl, ⟨(MapKept.heap_alloc w _).1, rfl⟩, rfl⟩, by simp, by simp⟩
theorem Own.step (HS : Own W (.iter r b clock seen :: .mapf es clock b g :: R) w) {w1 : World} (hw : w1 = w ∨ w1 = w.drew) (x : Nat) : Own W (.iter r b clock (seen.push x) :: .mapf es clock b g :: R) (ChangeMaps.setBlock w1 r (.mapIter (some b) clock (seen.push x) clock)) := by
  have H1 : Own W (.iter r b clock seen :: .mapf es clock b g :: R) w1 := by rcases hw with rfl | rfl; exact HS; exact HS.drew
  refine Own.upd (R1 := [.iter r b clock seen]) (R1' := [.iter r b clock (seen.push x)]) H1 rfl rfl rfl (by simp [ChangeMaps.setBlock]) ?_
  rintro fp ⟨f1, f2, rfl, ⟨hr, rfl⟩, rfl⟩ hnd
  have hlt : r < w1.heap.size := (Array.getElem?_eq_some_iff.1 hr).1
  refine ⟨fun i _ hi => ?_, [r] ++ [], ⟨[r], [], rfl, ⟨by simp [ChangeMaps.setBlock, hlt], rfl⟩, rfl⟩, by simp, fun y hy => .inl (by simpa using hy)⟩
  have : r ≠ i := fun h => hi (by simp [h])
  simp [ChangeMaps.setBlock, Array.getElem?_setIfInBounds, this]
/-- The step: nothing is left, or one entry comes. -/
theorem wp_next (hgd : o.guard = none) (it : Operand) (hop : o.op = Op.next it false) (HS : Own W (.iter r b clock seen :: .mapf es clock b g :: R) w) (hit : a.eval it = .pointer (some ⟨r, 0, none⟩))
    (hDone : (∀ k, ¬ lft es seen k) → wpList P ops Q rest (a.put o.dst (.tuple #[.bool false])) w)
    (hMore : ∀ (k : Int) (v : Value) (x : Nat) (w' : World), mhas g k = true → lft es seen k → (∀ j, lft es (seen.push x) j ↔ lft es seen j ∧ j ≠ k) → (leftOf es (seen.push x)).size < (leftOf es seen).size →
      Own W (.iter r b clock (seen.push x) :: .mapf es clock b g :: R) w' → Rd w' v (mget g k) → (Instr.entry (.pointer (some ⟨r, 0, none⟩))).run P w' = .ok (.tuple #[.int .i64 k, v]) w' → wpList P ops Q rest (a.put o.dst (.tuple #[.bool true, .int .i64 k, v])) w') : wpList P ops Q (o :: rest) a w := by
  refine wpList_plain hgd fun _ hK => ?_
  have HM := HS.pick 1 rfl
  simp only [List.eraseIdx_cons_succ, List.eraseIdx_cons_zero] at HM
  obtain ⟨hb, hent, hst, _⟩ := HM.ents
  have hr : w.heap[r]? = some (.mapIter (some b) clock seen clock) := by
    obtain ⟨_, fp, ⟨f1, f2, rfl, ⟨hr, _⟩, _⟩, _⟩ := HS
    exact hr
  unfold Oper.wp
  rcases run_next_at (P := P) w o.type r b clock clock seen es clock hr hb hst.1 (Nat.le_refl _) with ⟨h0, hrun⟩ | ⟨e, he, w1, hal, hrun⟩
  · simp [execOp, hop, hit, hrun, Result.andThen]
    exact hK _ _ (hDone (lft_done h0))
  · have H1 := HS.step hal e.born
    have he' := (mem_left he).1
    obtain ⟨k, hk, hh, _⟩ := hent e he'
    have HM1 := H1.pick 1 rfl
    simp only [List.eraseIdx_cons_succ, List.eraseIdx_cons_zero] at HM1
    obtain ⟨hb1, hent1, _, _⟩ := HM1.ents
    obtain ⟨k1, hk1, _, hrd⟩ := hent1 e he'
    obtain rfl : k = k1 := by rw [hk] at hk1; injection hk1
    have hr1 : (ChangeMaps.setBlock w1 r (.mapIter (some b) clock (seen.push e.born) clock)).heap[r]? = some (.mapIter (some b) clock (seen.push e.born) clock) := by
      obtain ⟨_, fp, ⟨f1, f2, rfl, ⟨hr, _⟩, _⟩, _⟩ := H1
      exact hr
    have hen := run_entry_at (P := P) _ r b clock seen es clock e hr1 hb1 he' hst.2.1
    rw [hk] at hen
    simp [execOp, hop, hit, hrun, Result.andThen]
    rw [hk]
    exact hK _ _ (hMore k e.val e.born _ hh ⟨e, he, hk⟩ (lft_push hst he hk) (left_shrinks es seen e he) H1 hrd hen)
end
end Go.Ow
namespace Go.Ow
set_option linter.unusedSimpArgs false
set_option linter.unusedVariables false
open Go.RowKit Go.MapKept
/-- How many entries are still to come. -/
def rleft (es : Array MapEntry) (r : Nat) (w : World) : Nat := match w.heap[r]? with | some (.mapIter _ _ seen _) => (leftOf es seen).size | _ => 0
theorem Own.rleft {W w : World} {R : List Ds} {r b clock : Nat} {es : Array MapEntry} {seen : Array Nat} (h : Own W (.iter r b clock seen :: R) w) : rleft es r w = (leftOf es seen).size := by
  obtain ⟨_, fp, ⟨f1, f2, rfl, ⟨hr, _⟩, _⟩, _⟩ := h
  unfold Go.Ow.rleft
  rw [hr]
end Go.Ow

/- A map from dots to leaves that a call owns; ranges over it. -/
namespace Go.Ow
set_option linter.unusedSimpArgs false
set_option linter.unusedVariables false
open Go.RowKit Go.MapKept
attribute [local irreducible] wpQuiet
def dotP (z : Pf) : Int × Int := (z.l.dr, z.l.ds)
def lfv (z : Pf) : Value := .agg #[z.s.v, .bool z.l.fl, .int .i64 z.l.dr, .int .i64 z.l.ds, .string z.l.v]
/-- The entries are these leaves. -/
def Ents (es : List MapEntry) (zs : List Pf) : Prop := es.map (fun e => (e.key, e.val)) = zs.map (fun z => (dotv (dotP z), lfv z))
def Ds.lmf (es : Array MapEntry) (clock b : Nat) (zs : List Pf) : Ds := .any (fun w fp => fp = [b] ∧ w.heap[b]? = some (.map es clock) ∧ Ents es.toList zs ∧ Stamped es clock)
  (by rintro w w' fp ⟨rfl, hb, h⟩ hs; exact ⟨rfl, (hs b (by simp)).trans hb, h⟩)
  (by rintro w fp ⟨rfl, hb, h⟩ x hx; rw [List.mem_singleton] at hx; subst hx; exact (Array.getElem?_eq_some_iff.1 hb).1)
def Ds.lm (b : Nat) (zs : List Pf) : Ds := .any (fun w fp => fp = [b] ∧ ∃ es clock, w.heap[b]? = some (.map es clock) ∧ Ents es.toList zs ∧ Stamped es clock)
  (by rintro w w' fp ⟨rfl, es, clock, hb, h⟩ hs; exact ⟨rfl, es, clock, (hs b (by simp)).trans hb, h⟩)
  (by rintro w fp ⟨rfl, es, clock, hb, h⟩ x hx; rw [List.mem_singleton] at hx; subst hx; exact (Array.getElem?_eq_some_iff.1 hb).1)
theorem ents_len {es : List MapEntry} {zs : List Pf} (h : Ents es zs) : es.length = zs.length := by simpa using congrArg List.length h
theorem ents_at {es : List MapEntry} {zs : List Pf} (h : Ents es zs) {j : Nat} {e : MapEntry} (he : es[j]? = some e) : ∃ z, zs[j]? = some z ∧ e.key = dotv (dotP z) ∧ e.val = lfv z := by
  have := congrArg (fun l => l[j]?) h
  simp only [List.getElem?_map, he, Option.map_some] at this
  obtain ⟨z, hz, h1⟩ := Option.map_eq_some_iff.1 this.symm
  simp only [Prod.mk.injEq] at h1
  exact ⟨z, hz, h1.1.symm, h1.2.symm⟩
theorem ents_erase {es : List MapEntry} {zs : List Pf} (h : Ents es zs) (j : Nat) : Ents (es.eraseIdx j) (zs.eraseIdx j) := by
  unfold Ents at *
  have e : ∀ {α β : Type} (f : α → β) (l : List α) (j : Nat), (l.eraseIdx j).map f = (l.map f).eraseIdx j := by
    intro α β f l
    induction l with
    | nil => intro j; simp
    | cons x l ih =>
      intro j
      cases j with
      | zero => simp
      | succ j => simp [ih]
  rw [e, e, h]
theorem perm_erase {α : Type} : ∀ (l : List α) (j : Nat) (x : α), l[j]? = some x → l.Perm (x :: l.eraseIdx j)
  | [], _, _, h => by simp at h
  | y :: l, 0, x, h => by simp at h; subst h; exact .refl _
  | y :: l, j + 1, x, h => ((perm_erase l j x (by simpa using h)).cons y).trans (.swap _ _ _)
theorem filter_erase {α β : Type} [DecidableEq β] (f : α → β) : ∀ (l : List α) (j : Nat) (x : α), (l.map f).Nodup → l[j]? = some x → l.filter (fun y => decide (f y ≠ f x)) = l.eraseIdx j
  | [], _, _, _, h => by simp at h
  | y :: l, 0, x, hn, h => by
    simp at h; subst h
    rw [List.map_cons, List.nodup_cons] at hn
    simp only [List.filter_cons, ne_eq, not_true_eq_false, decide_false, Bool.false_eq_true, if_false, List.eraseIdx_cons_zero]
    rw [List.filter_eq_self]
    intro z hz
    simp only [decide_eq_true_eq]
    exact fun e => hn.1 (by rw [← e]; exact List.mem_map.2 ⟨z, hz, rfl⟩)
  | y :: l, j + 1, x, hn, h => by
    rw [List.map_cons, List.nodup_cons] at hn
    have hx : l[j]? = some x := by simpa using h
    have hne : f y ≠ f x := fun e => hn.1 (by rw [e]; exact List.mem_map.2 ⟨x, List.mem_of_getElem? hx, rfl⟩)
    simp only [List.filter_cons, hne, ne_eq, not_false_eq_true, decide_true, if_true, List.eraseIdx_cons_succ]
    rw [← filter_erase f l j x hn.2 hx]
def lfind (zs : List Pf) (d : Int × Int) : Option Pf := zs.find? fun z => decide (dotP z = d)
section
variable {P : Program} {w W : World} {R : List Ds} {t k e : TypeId} {b : Nat} {zs : List Pf}
theorem run_askL (K : DotKey P k) (w : World) (d : Int × Int) : ∀ (es : List MapEntry) (zs : List Pf) (i : Nat), Ents es zs →
    (lfind zs d = none ∧ (∀ z ∈ zs, dotP z ≠ d) ∧ (Instr.findAsking k (dotv d) es i).run P w = .ok none w) ∨ (∃ j z, zs[j]? = some z ∧ dotP z = d ∧ lfind zs d = some z ∧ (Instr.findAsking k (dotv d) es i).run P w = .ok (some (i + j, lfv z)) w)
  | [], [], i, _ => .inl ⟨rfl, by simp, by simp [Instr.findAsking]⟩
  | [], _ :: _, _, h => by simp [Ents] at h
  | _ :: _, [], _, h => by simp [Ents] at h
  | m :: es, q :: zs, i, h => by
    simp only [Ents, List.map_cons, List.cons.injEq, Prod.mk.injEq] at h
    obtain ⟨⟨h1, h2⟩, h3⟩ := h
    by_cases hq : dotP q = d
    · right
      exact ⟨0, q, rfl, hq, by simp [lfind, hq], by simp [Instr.findAsking, h1, h2, K.eq, hq]⟩
    · have hq' : ¬ d = dotP q := fun e => hq e.symm
      rcases run_askL K w d es zs (i + 1) h3 with ⟨h4, h5, h6⟩ | ⟨j, z, h4, h5, h6, h7⟩
      · refine .inl ⟨by simpa [lfind, hq] using h4, ?_, by simp [Instr.findAsking, h1, K.eq, hq', h6]⟩
        intro z hz
        rcases List.mem_cons.1 hz with rfl | hz
        · exact hq
        · exact h5 z hz
      · exact .inr ⟨j + 1, z, by simpa using h4, h5, by simpa [lfind, hq] using h6, by simp [Instr.findAsking, h1, K.eq, hq', h7]; omega⟩
theorem Own.lmAt (HS : Own W (.lm b zs :: R) w) : ∃ es clock, w.heap[b]? = some (.map es clock) ∧ Ents es.toList zs ∧ Stamped es clock := by
  obtain ⟨_, fp, ⟨fm, fr, rfl, ⟨_, es, clock, hb, h⟩, hR⟩, hnd, hlow⟩ := id HS
  exact ⟨es, clock, hb, h⟩
theorem Own.lmfAt {es : Array MapEntry} {clock : Nat} (HS : Own W (.lmf es clock b zs :: R) w) : w.heap[b]? = some (.map es clock) ∧ Ents es.toList zs ∧ Stamped es clock := by
  obtain ⟨_, fp, ⟨fm, fr, rfl, ⟨_, hb, h⟩, hR⟩, hnd, hlow⟩ := id HS
  exact ⟨hb, h⟩
theorem Own.lmKeep (h : Own W (.lm b zs :: R) w) : ∃ es clock, Own W (.lmf es clock b zs :: R) w := by
  obtain ⟨hB, fp, ⟨fm, fr, rfl, ⟨hf, es, clock, hb, hv⟩, hR⟩, hnd, hlow⟩ := h
  exact ⟨es, clock, hB, _, ⟨fm, fr, rfl, ⟨hf, hb, hv⟩, hR⟩, hnd, hlow⟩
theorem Own.lmUnkeep {es : Array MapEntry} {clock : Nat} (h : Own W (.lmf es clock b zs :: R) w) : Own W (.lm b zs :: R) w := by
  obtain ⟨hB, fp, ⟨fm, fr, rfl, ⟨hf, hb, hv⟩, hR⟩, hnd, hlow⟩ := h
  exact ⟨hB, _, ⟨fm, fr, rfl, ⟨hf, es, clock, hb, hv⟩, hR⟩, hnd, hlow⟩
theorem Own.lmNodup (HS : Own W (.lm b zs :: R) w) : (zs.map dotP).Nodup := by
  obtain ⟨es, clock, hb, he, hst⟩ := HS.lmAt
  have h := hst.2.2
  have e : es.toList.map (·.key) = (zs.map dotP).map dotv := by
    have := congrArg (List.map Prod.fst) he
    simpa [List.map_map, Function.comp_def] using this
  rw [e] at h
  exact (List.pairwise_map.1 h).imp fun h e => h (by rw [e])
/-- The look-up with its second result, in all later worlds. -/
theorem run_lfind (K : DotKey P k) {es : Array MapEntry} {clock : Nat} (hb : w.heap[b]? = some (.map es clock)) (he : Ents es.toList zs) (ht : P.underlying t = some (.map k e)) {z0 : Value} (hz : ∀ w, (zeroValue e).run P w = .ok z0 w) (d : Int × Int) :
    (Instr.lookup t (.map (some b)) (dotv d) true).run P w = .ok (.tuple #[(lfind zs d).elim z0 lfv, .bool (lfind zs d).isSome]) w := by
  rcases run_askL K w d es.toList zs 0 he with ⟨h1, _, h2⟩ | ⟨j, z, h1, h3, h4, h2⟩
  · rw [h1]
    simp [Instr.lookup, run_underlying ht, MapKept.run_getObj_map hb, K.check, K.wide, h2, hz, Result.andThen]
  · rw [h4]
    simp [Instr.lookup, run_underlying ht, MapKept.run_getObj_map hb, K.check, K.wide, h2, Result.andThen]
theorem Own.lmSet {zs' : List Pf} {es' : Array MapEntry} {clock' : Nat} (HS : Own W (.lm b zs :: R) w) (h : Ents es'.toList zs') (hst : Stamped es' clock') :
    Own W (.lm b zs' :: R) ({ w with heap := w.heap.setIfInBounds b (.map es' clock') } : World) := by
  obtain ⟨es, clock, hb, _⟩ := HS.lmAt
  refine Own.upd (R1 := [.lm b zs]) (R1' := [.lm b zs']) HS rfl rfl rfl (by simp) ?_
  have hbl : b < w.heap.size := (Array.getElem?_eq_some_iff.1 hb).1
  rintro fp ⟨f1, f2, rfl, ⟨rfl, _⟩, rfl⟩ hnd
  refine ⟨fun i _ hi => ?_, [b] ++ [], ⟨[b], [], rfl, ⟨rfl, es', clock', by simp [hbl], h, hst⟩, rfl⟩, by simp, fun y hy => .inl (by simpa using hy)⟩
  have : b ≠ i := fun h => hi (by simp [h])
  simp [Array.getElem?_setIfInBounds, this]
theorem run_lput (K : DotKey P k) (HS : Own W (.lm b zs :: R) w) (ht : P.underlying t = some (.map k e)) (z : Pf) (hd : ∀ y ∈ zs, dotP y ≠ dotP z) :
    ∃ w', (Instr.mapUpdate t (.map (some b)) (dotv (dotP z)) (lfv z)).run P w = .ok () w' ∧ Own W (.lm b (zs ++ [z]) :: R) w' := by
  obtain ⟨es, clock, hb, he, hst⟩ := HS.lmAt
  rcases run_askL K w (dotP z) es.toList zs 0 he with ⟨h1, _, h2⟩ | ⟨j, y, h1, h3, _⟩
  · refine ⟨_, by simp [Instr.mapUpdate, run_underlying ht, MapKept.run_getObj_map hb, K.check, K.wide, h2, MapKept.run_setObj_map _ hb, Result.andThen], HS.lmSet (es' := es.push ⟨dotv (dotP z), lfv z, clock⟩) (clock' := clock + 1) ?_ (stamped_push hst ?_)⟩
    · unfold Ents at *
      simp [he]
    · intro x hx hk
      obtain ⟨j, hj, rfl⟩ := List.getElem_of_mem hx
      obtain ⟨y, hy, hy2, _⟩ := ents_at he (List.getElem?_eq_getElem hj)
      rw [hk] at hy2
      exact hd y (List.mem_of_getElem? hy) (dotv_inj.1 hy2).symm
  · exact absurd h3 (hd y (List.mem_of_getElem? h1))
theorem stamped_erase' {es : Array MapEntry} {clock : Nat} (h : Stamped es clock) (j : Nat) : Stamped (es.eraseIdxIfInBounds j) clock := MapKept.stamped_erase h j
theorem Own.mklm (h : Own W R w) : Own W (.lm w.heap.size [] :: R) (w.alloc (.map #[] 0)) :=
  Own.call (Rn := [.lm w.heap.size []]) h ⟨(Below.refl _ _).alloc (Nat.le_refl _) _, [w.heap.size], ⟨[w.heap.size], [], rfl, ⟨rfl, #[], 0, (MapKept.heap_alloc w _).1, rfl, stamped_empty 0⟩, rfl⟩, by simp, by simp⟩
variable {ops : Array Oper} {rest : List Oper} {o : Oper} {a : Act} {Q : Exit → Act → World → Prop}
theorem wp_mklm (hgd : o.guard = none) (t : TypeId) (hop : o.op = Op.makeMap t none) (HS : Own W R w)
    (h : ∀ w', Own W (.lm w.heap.size [] :: R) w' → wpList P ops Q rest (a.put o.dst (.map (some w.heap.size))) w') : wpList P ops Q (o :: rest) a w := by
  refine wpList_plain hgd fun K' hK' => ?_
  have hrun : (Instr.makeMap t none).run P w = .ok (.map (some w.heap.size)) (w.alloc (.map #[] 0)) := rfl
  unfold Oper.wp
  simp [execOp, hop, hrun, Result.andThen]
  exact hK' _ _ (h _ HS.mklm)
theorem wp_lput (K : DotKey P k) (hgd : o.guard = none) (m x y : Operand) (hop : o.op = Op.mapUpdate t m x y) (ht : P.underlying t = some (.map k e)) (HS : Own W (.lm b zs :: R) w) (hm : a.eval m = .map (some b)) (z : Pf) (hx : a.eval x = dotv (dotP z)) (hy : a.eval y = lfv z) (hd : ∀ y ∈ zs, dotP y ≠ dotP z)
    (h : ∀ w', Own W (.lm b (zs ++ [z]) :: R) w' → wpList P ops Q rest (a.put o.dst undef) w') : wpList P ops Q (o :: rest) a w := by
  refine wpList_plain hgd fun _ hK => ?_
  obtain ⟨w', hrun, hown⟩ := run_lput K HS ht z hd
  unfold Oper.wp
  simp [execOp, hop, hm, hx, hy, hrun, Result.andThen]
  exact hK _ _ (h w' hown)
theorem wp_lfind (K : DotKey P k) (hgd : o.guard = none) (m x : Operand) (hop : o.op = Op.lookup t m x true) (ht : P.underlying t = some (.map k e)) {z0 : Value} (hz : ∀ w, (zeroValue e).run P w = .ok z0 w)
    (HS : Own W (.lm b zs :: R) w) (hm : a.eval m = .map (some b)) (d : Int × Int) (hx : a.eval x = dotv d)
    (h : wpList P ops Q rest (a.put o.dst (.tuple #[(lfind zs d).elim z0 lfv, .bool (lfind zs d).isSome])) w) : wpList P ops Q (o :: rest) a w := by
  refine wpList_plain hgd fun _ hK => ?_
  obtain ⟨es, clock, hb, he, _⟩ := HS.lmAt
  have hrun := run_lfind K hb he ht hz d
  unfold Oper.wp
  simp [execOp, hop, hm, hx, hrun, Result.andThen]
  exact hK _ _ h
theorem wp_ldel (K : DotKey P k) (hgd : o.guard = none) (m x : Operand) (hop : o.op = Op.call { callee := Callee.builtin Builtin.delete, args := #[m, x], argTypes := #[t, k] }) (ht : P.underlying t = some (.map k e)) (HS : Own W (.lm b zs :: R) w) (hm : a.eval m = .map (some b)) (z : Pf) (hx : a.eval x = dotv (dotP z)) (hz : z ∈ zs)
    (h : ∀ zs' w', zs.Perm (z :: zs') → Own W (.lm b zs' :: R) w' → wpList P ops Q rest (a.put o.dst undef) w') : wpList P ops Q (o :: rest) a w := by
  refine wpList_plain hgd fun _ hK => ?_
  obtain ⟨es, clock, hb, he, hst⟩ := HS.lmAt
  have hnd := HS.lmNodup
  rcases run_askL K w (dotP z) es.toList zs 0 he with ⟨_, h1, h2⟩ | ⟨j, y, h1, h3, _, h2⟩
  · exact absurd rfl (h1 z hz)
  · obtain rfl : y = z := by
      obtain ⟨i, hi, rfl⟩ := List.getElem_of_mem hz
      obtain ⟨hj, rfl⟩ := List.getElem?_eq_some_iff.1 h1
      have := (List.getElem_inj (xs := zs.map dotP) (h₀ := by simpa using hj) (h₁ := by simpa using hi) hnd).1 (by simpa using h3)
      subst this; rfl
    have hj : j < es.size := by
      have := ents_len he
      have := (List.getElem?_eq_some_iff.1 h1).1
      simp at *; omega
    unfold Oper.wp
    simp [execOp, hop, resolve, invoke, builtin, Builtin.delete_, hm, hx, run_underlying ht, MapKept.run_getObj_map hb, K.check, K.wide, h2, MapKept.run_setObj_map _ hb, Result.andThen]
    refine hK _ _ (h (zs.eraseIdx j) _ (perm_erase zs j y h1) (HS.lmSet ?_ (MapKept.stamped_erase hst j)))
    have : (es.eraseIdxIfInBounds j).toList = es.toList.eraseIdx j := by simp [Array.eraseIdxIfInBounds, hj]
    rw [this]
    exact ents_erase he j
variable {r clock : Nat} {es : Array MapEntry} {seen : Array Nat}
theorem ents_start (h : Own W (.lmf es clock b zs :: R) w) : Ents (leftOf es #[]).toList zs := by
  have e : leftOf es #[] = es := by
    unfold leftOf
    rw [Array.filter_eq_self]; intro x _; simp
  rw [e]; exact h.lmfAt.2.1
theorem wp_rangeL {t k e : TypeId} (hgd : o.guard = none) (m : Operand) (hop : o.op = Op.range t m) (ht : P.underlying t = some (.map k e)) (HS : Own W (.lmf es clock b zs :: R) w) (hm : a.eval m = .map (some b))
    (h : ∀ w', Own W (.iter w.heap.size b clock #[] :: .lmf es clock b zs :: R) w' → wpList P ops Q rest (a.put o.dst (.pointer (some ⟨w.heap.size, 0, none⟩))) w') : wpList P ops Q (o :: rest) a w := by
  refine wpList_plain hgd fun _ hK => ?_
  have hb := HS.lmfAt.1
  have hrun : (Instr.range t (.map (some b))).run P w = .ok (.pointer (some ⟨w.heap.size, 0, none⟩)) (w.alloc (.mapIter (some b) clock #[] clock)) := by
    simp [Instr.range, run_underlying ht, MapKept.run_getObj_map hb, Result.andThen]
  unfold Oper.wp
  simp [execOp, hop, hm, hrun, Result.andThen]
  refine hK _ _ (h _ ?_)
  exact Own.call (Rn := [.iter w.heap.size b clock #[]]) HS ⟨(Below.refl _ _).alloc (Nat.le_refl _) _, [w.heap.size], ⟨[w.heap.size], [], rfl, ⟨(MapKept.heap_alloc w _).1, rfl⟩, rfl⟩, by simp, by simp⟩
theorem Own.stepL (HS : Own W (.iter r b clock seen :: R) w) {w1 : World} (hw : w1 = w ∨ w1 = w.drew) (x : Nat) : Own W (.iter r b clock (seen.push x) :: R) (ChangeMaps.setBlock w1 r (.mapIter (some b) clock (seen.push x) clock)) := by
  have H1 : Own W (.iter r b clock seen :: R) w1 := by rcases hw with rfl | rfl; exact HS; exact HS.drew
  refine Own.upd (R1 := [.iter r b clock seen]) (R1' := [.iter r b clock (seen.push x)]) H1 rfl rfl rfl (by simp [ChangeMaps.setBlock]) ?_
  rintro fp ⟨f1, f2, rfl, ⟨hr, rfl⟩, rfl⟩ hnd
  have hlt : r < w1.heap.size := (Array.getElem?_eq_some_iff.1 hr).1
  refine ⟨fun i _ hi => ?_, [r] ++ [], ⟨[r], [], rfl, ⟨by simp [ChangeMaps.setBlock, hlt], rfl⟩, rfl⟩, by simp, fun y hy => .inl (by simpa using hy)⟩
  have : r ≠ i := fun h => hi (by simp [h])
  simp [ChangeMaps.setBlock, Array.getElem?_setIfInBounds, this]
theorem left_push (hst : Stamped es clock) {left : List Pf} (h : Ents (leftOf es seen).toList left) {e : MapEntry} (he : e ∈ (leftOf es seen).toList) :
    ∃ z left', e.key = dotv (dotP z) ∧ e.val = lfv z ∧ left.Perm (z :: left') ∧ Ents (leftOf es (seen.push e.born)).toList left' := by
  obtain ⟨j, hj, hje⟩ := List.getElem_of_mem he
  have hj' : (leftOf es seen).toList[j]? = some e := by rw [List.getElem?_eq_getElem hj, hje]
  obtain ⟨z, hz, h1, h2⟩ := ents_at h hj'
  refine ⟨z, left.eraseIdx j, h1, h2, perm_erase left j z hz, ?_⟩
  have e1 : (leftOf es (seen.push e.born)).toList = (leftOf es seen).toList.filter (fun y => decide (y.born ≠ e.born)) := by
    unfold leftOf
    rw [Array.toList_filter, Array.toList_filter, List.filter_filter]
    refine List.filter_congr fun y hy => ?_
    rw [contains_push]
    by_cases hb : y.born = e.born <;> cases seen.contains y.born <;> simp [hb]
  have hsub : ((leftOf es seen).toList.map (·.born)).Nodup := by
    have : (leftOf es seen).toList.Sublist es.toList := by unfold leftOf; rw [Array.toList_filter]; exact List.filter_sublist
    exact List.Sublist.nodup (this.map _) hst.2.1
  rw [e1, filter_erase (fun e : MapEntry => e.born) _ j e hsub hj']
  exact ents_erase h j
/-- The step: nothing is left, or one leaf comes. -/
theorem wp_nextL (hgd : o.guard = none) (it : Operand) (hop : o.op = Op.next it false) (HS : Own W (.iter r b clock seen :: .lmf es clock b zs :: R) w) (hit : a.eval it = .pointer (some ⟨r, 0, none⟩)) {left : List Pf} (hl : Ents (leftOf es seen).toList left)
    (hDone : left = [] → wpList P ops Q rest (a.put o.dst (.tuple #[.bool false])) w)
    (hMore : ∀ (z : Pf) (left' : List Pf) (x : Nat) (w' : World), left.Perm (z :: left') → Ents (leftOf es (seen.push x)).toList left' →
      Own W (.iter r b clock (seen.push x) :: .lmf es clock b zs :: R) w' → (Instr.entry (.pointer (some ⟨r, 0, none⟩))).run P w' = .ok (.tuple #[dotv (dotP z), lfv z]) w' → wpList P ops Q rest (a.put o.dst (.tuple #[.bool true, dotv (dotP z), lfv z])) w') : wpList P ops Q (o :: rest) a w := by
  refine wpList_plain hgd fun _ hK => ?_
  have HM := HS.pick 1 rfl
  simp only [List.eraseIdx_cons_succ, List.eraseIdx_cons_zero] at HM
  obtain ⟨hb, hent, hst⟩ := HM.lmfAt
  have hr : w.heap[r]? = some (.mapIter (some b) clock seen clock) := by
    obtain ⟨_, fp, ⟨f1, f2, rfl, ⟨hr, _⟩, _⟩, _⟩ := HS
    exact hr
  unfold Oper.wp
  rcases run_next_at (P := P) w o.type r b clock clock seen es clock hr hb hst.1 (Nat.le_refl _) with ⟨h0, hrun⟩ | ⟨e, he, w1, hal, hrun⟩
  · simp [execOp, hop, hit, hrun, Result.andThen]
    refine hK _ _ (hDone ?_)
    have := ents_len hl
    rw [Array.length_toList, h0] at this
    exact List.eq_nil_of_length_eq_zero this.symm
  · have H1 := HS.stepL hal e.born
    have he' := (mem_left he).1
    obtain ⟨z, left', hk, hv, hp, hl2⟩ := left_push hst hl he
    have HM1 := H1.pick 1 rfl
    simp only [List.eraseIdx_cons_succ, List.eraseIdx_cons_zero] at HM1
    obtain ⟨hb1, _, _⟩ := HM1.lmfAt
    have hr1 : (ChangeMaps.setBlock w1 r (.mapIter (some b) clock (seen.push e.born) clock)).heap[r]? = some (.mapIter (some b) clock (seen.push e.born) clock) := by
      obtain ⟨_, fp, ⟨f1, f2, rfl, ⟨hr, _⟩, _⟩, _⟩ := H1
      exact hr
    have hen := run_entry_at (P := P) _ r b clock seen es clock e hr1 hb1 he' hst.2.1
    rw [hk, hv] at hen
    simp [execOp, hop, hit, hrun, Result.andThen]
    rw [hk, hv]
    exact hK _ _ (hMore z left' e.born _ hp hl2 H1 hen)
/-- How many are still to come. -/
theorem Own.rleftL {left : List Pf} (h : Own W (.iter r b clock seen :: R) w) (hl : Ents (leftOf es seen).toList left) : Go.Ow.rleft es r w = left.length := by
  rw [h.rleft, ← ents_len hl, Array.length_toList]
end
end Go.Ow

/- append of one element whose parts the call owns. -/
namespace Go.Ow
set_option linter.unusedSimpArgs false
set_option linter.unusedVariables false
open Go.RowKit
attribute [local irreducible] wpQuiet
theorem lit_cells (w : World) (cs : Array Value) (t : TypeId) (j : Nat) (u : Value) (h : cs.toList[j]? = some u) : (w.alloc (.cells cs t)).cell? ((⟨w.heap.size, 0, none⟩ : Addr).add j) = some u := by
  have := cell_of_row (w.alloc (.cells cs t)) w.heap.size j cs t (0, 0) (heap_alloc_new w _)
  rw [Addr.add_lit, Nat.zero_add, this]
  simpa using h
theorem Own.upd_at {W w w' : World} {R R1' : List Ds} {f g : List Nat} (hb : Below W.heap.size W w) (hn : (f ++ g).Nodup) (hl : ∀ b ∈ f ++ g, W.heap.size ≤ b) (h2 : Holds w R g) (os : w'.os = w.os) (tape : w'.tape = w.tape) (output : w'.output = w.output) (hsz : w.heap.size ≤ w'.heap.size)
    (hk : ∀ b, b < w.heap.size → b ∉ f → w'.heap[b]? = w.heap[b]?) (f' : List Nat) (h1' : Holds w' R1' f') (hn' : f'.Nodup) (hl' : ∀ b ∈ f', b ∈ f ∨ w.heap.size ≤ b) : Own W (R1' ++ R) w' := by
  obtain ⟨hnf, hng, hdis⟩ := List.nodup_append.1 hn
  have hsame : Same w w' g := fun b hb => hk b (h2.lt b hb) (fun hbf => hdis b hbf b hb rfl)
  refine ⟨hb.trans ⟨os, tape, output, hsz, fun k hk' => hk k (by have := hb.size; omega) (fun hkf => by have := hl k (List.mem_append_left _ hkf); omega)⟩, f' ++ g, Holds.append.2 ⟨f', g, rfl, h1', h2.loc hsame⟩, ?_, ?_⟩
  · refine List.nodup_append.2 ⟨hn', hng, fun a ha b hbg hab => ?_⟩
    subst hab
    rcases hl' a ha with h' | h'
    · exact hdis a h' a hbg rfl
    · have := h2.lt a hbg; omega
  · intro b hb'
    rcases List.mem_append.1 hb' with h' | h'
    · rcases hl' b h' with h'' | h''
      · exact hl b (List.mem_append_left _ h'')
      · have := hb.size; omega
    · exact hl b (List.mem_append_right _ h')
section
variable {P : Program} {ops : Array Oper} {rest : List Oper} {o : Oper} {a : Act} {Q : Exit → Act → World → Prop} {K : Act → World → Prop} {E : Prop} {w W : World} {R : List Ds}
theorem run_appE {α : Type} [Cd α] [Ty α] [El P α] (t ty : TypeId) (ht : P.underlying t = some (.slice (Ty.id α))) (v : Value) (xs : List α) (x0 : α) (cs : List Value) (HS : Own W (.own v xs :: .elt cs x0 :: R) w) (ad : Addr) (c : Nat)
    (hc : ∀ j u, cs[j]? = some u → w.cell? (ad.add j) = some u) (hlen : (xs.length + 1) * El.bytes P α ≤ 140737488355328) (hl2 : xs.length + 1 ≤ 140737488355328) :
    ∃ v' w', (Builtin.append_ #[t, t] ty #[v, .slice (some ad) 1 c]).run P w = .ok v' w' ∧ Own W (.own v' (xs ++ [x0]) :: R) w' := by
  obtain ⟨i, z, hi, hz, h1, h2, h3⟩ := El.info (P := P) (α := α)
  obtain ⟨hb, fp, ⟨f, g, rfl, hr, f2, r2, rfl, hx0, hR⟩, hn, hlow⟩ := HS
  obtain ⟨css, fps, hrow, hl, hlf, hbig, hd, rfl⟩ := hr.row (base := 0) (fun _ _ => Nat.zero_le _)
  obtain ⟨v', w', hrun, h4, h5, _, h7⟩ := run_append_own_at (P := P) w 0 t ty (Ty.id α) i z (Cd.z α) (El.bytes P α) ht hi hz h1 h2 h3 Cd.zpos v xs.length _ hrow ad 1 c cs (by rw [Cd.rd_len (Cd.dp_rd hx0), Nat.one_mul]) hc (Cd.rd_one (Cd.dp_rd hx0)) (by simp only [maxLen]; omega) hlen (Nat.zero_le _)
  rw [← List.append_assoc] at hn hlow
  have hnf := (List.nodup_append.1 hn).1
  have hlt : ∀ b ∈ (v.ownBlock.toList ++ fps.flatten) ++ f2, b < w.heap.size := by
    intro b hb'
    rcases List.mem_append.1 hb' with h | h
    · exact Dp.lt hr b h
    · exact Cd.dp_lt hx0 b h
  have hne : ∀ b ∈ fps.flatten ++ f2, some b ≠ v.ownBlock := by
    intro b hb' e
    rw [List.append_assoc] at hnf
    exact (List.nodup_append.1 hnf).2.2 b (by rw [← e]; simp) b hb' rfl
  have hsame : ∀ b ∈ fps.flatten ++ f2, w'.heap[b]? = w.heap[b]? := fun b hb' => h5.block b (hlt b (by rw [List.append_assoc]; exact List.mem_append_right _ hb')) (hne b hb')
  refine ⟨v', w', hrun, Own.upd_at (R1' := [.own v' (xs ++ [x0])]) hb hn hlow hR h5.os h5.tape h5.output h5.size ?_ (v'.ownBlock.toList ++ (fps ++ [f2]).flatten) ?_ ?_ ?_⟩
  · intro b hb' hbn
    refine h5.block b hb' fun e => hbn ?_
    rw [← e]; simp
  · refine ⟨_, [], by simp, row_dp (css := css ++ [cs]) (fps := fps ++ [f2]) (base := 0) ?_ (by simp [hl]) (by simp [hlf]) (by rw [List.length_append]; exact hl2) ?_, rfl⟩
    · rw [List.length_append, List.flatten_append]
      simpa using h4
    · intro k x cs' f' hx hcs hf
      by_cases hk : k < xs.length
      · rw [List.getElem?_append_left hk] at hx
        rw [List.getElem?_append_left (by omega)] at hcs hf
        refine Cd.dp_loc (hd k x cs' f' hx hcs hf) fun b hb' => hsame b (List.mem_append_left _ (List.mem_flatten.2 ⟨f', List.mem_of_getElem? hf, hb'⟩))
      · rw [List.getElem?_append_right (by omega)] at hx
        rw [List.getElem?_append_right (by omega), hl] at hcs
        rw [List.getElem?_append_right (by omega), hlf] at hf
        have hk0 : k - xs.length = 0 := by
          rcases Nat.eq_zero_or_pos (k - xs.length) with h | h
          · exact h
          · rw [List.getElem?_eq_none (by simp; omega)] at hx; cases hx
        rw [hk0] at hx hcs hf
        simp only [List.getElem?_cons_zero, Option.some.injEq] at hx hcs hf
        subst hx hcs hf
        exact Cd.dp_loc hx0 fun b hb' => hsame b (List.mem_append_right _ hb')
  · rw [List.flatten_append]
    have e : (fps.flatten ++ [f2].flatten) = fps.flatten ++ f2 := by simp
    rw [e]
    rw [List.append_assoc] at hnf
    rcases h7 with h7 | h7
    · rw [h7]; exact hnf
    · rw [h7]
      refine List.nodup_append.2 ⟨by simp, (List.nodup_append.1 hnf).2.1, fun x hx y hy hxy => ?_⟩
      simp at hx
      subst hx hxy
      have := hlt w.heap.size (by rw [List.append_assoc]; exact List.mem_append_right _ hy)
      omega
  · intro b hb'
    rw [List.flatten_append] at hb'
    rcases List.mem_append.1 hb' with h | h
    · rcases h7 with h7 | h7
      · rw [h7] at h
        exact .inl (List.mem_append_left _ (List.mem_append_left _ h))
      · rw [h7] at h; simp at h; right; omega
    · left
      simp at h
      rcases h with h | h
      · exact List.mem_append_left _ (List.mem_append_right _ (by simpa using h))
      · exact List.mem_append_right _ h
theorem wp_appE {α : Type} [Cd α] [Ty α] [El P α] (hgd : o.guard = none) (s x : Operand) (t : TypeId) (ho : o.op = .call { callee := .builtin .append, args := #[s, x], argTypes := #[t, t] })
    (ht : P.underlying t = some (.slice (Ty.id α))) (v : Value) (xs : List α) (x0 : α) (cs : List Value) (HS : Own W (.own v xs :: .elt cs x0 :: R) w) (hs : a.eval s = v) (ad : Addr) (c : Nat) (hx : a.eval x = .slice (some ad) 1 c)
    (hc : ∀ j u, cs[j]? = some u → w.cell? (ad.add j) = some u) (hlen : (xs.length + 1) * El.bytes P α ≤ 140737488355328) (hl2 : xs.length + 1 ≤ 140737488355328)
    (h : ∀ v' w', Own W (.own v' (xs ++ [x0]) :: R) w' → wpList P ops Q rest (a.put o.dst v') w') : wpList P ops Q (o :: rest) a w := by
  refine wpList_plain hgd fun K hK => ?_
  obtain ⟨v', w', hrun, hO⟩ := run_appE (P := P) t o.type ht v xs x0 cs HS ad c hc hlen hl2
  unfold Oper.wp execOp
  simp only [ho, resolve, invoke, builtin, Sem.run_bind, Sem.run_pure, Result.andThen_ok, List.map_toArray, List.map_cons, List.map_nil, hs, hx, hrun]
  exact hK _ _ (h v' w' hO)
theorem hp_appE {α : Type} [Cd α] [Ty α] [El P α] (s x : Operand) (t : TypeId) (ho : o.op = .call { callee := .builtin .append, args := #[s, x], argTypes := #[t, t] }) (hw : Region.wanted o (yielded ops a.tmps) = true)
    (ht : P.underlying t = some (.slice (Ty.id α))) (v : Value) (xs : List α) (x0 : α) (cs : List Value) (HS : Own W (.own v xs :: .elt cs x0 :: R) w) (hs : a.eval s = v) (ad : Addr) (c : Nat) (hx : a.eval x = .slice (some ad) 1 c)
    (hc : ∀ j u, cs[j]? = some u → w.cell? (ad.add j) = some u) (hlen : (xs.length + 1) * El.bytes P α ≤ 140737488355328) (hl2 : xs.length + 1 ≤ 140737488355328)
    (h : ∀ v' w', Own W (.own v' (xs ++ [x0]) :: R) w' → K (a.put o.dst v') w') : if Region.wanted o (yielded ops a.tmps) = true then Oper.wp P o a w K Q else E := by
  rw [if_pos hw]
  obtain ⟨v', w', hrun, hO⟩ := run_appE (P := P) t o.type ht v xs x0 cs HS ad c hc hlen hl2
  unfold Oper.wp execOp
  simp only [ho, resolve, invoke, builtin, Sem.run_bind, Sem.run_pure, Result.andThen_ok, List.map_toArray, List.map_cons, List.map_nil, hs, hx, hrun]
  exact h v' w' hO
end
end Go.Ow

/- Reading numbers, in plain Lean. -/
namespace Go.Ow
set_option linter.unusedSimpArgs false
set_option linter.unusedVariables false
open Go.RowKit
/-- The number at the front: its value, the bytes that it takes, the code. -/
def rdNum : List UInt8 → Nat → Nat → Nat × Nat × Nat
  | [], i, _ => (0, i, 1)
  | x :: l, i, v => if i = 9 ∧ 1 < x.toNat then (0, 0, 2) else if x.toNat < 128 then (if x.toNat = 0 ∧ 0 < i then (0, 0, 3) else (v + x.toNat * 128 ^ i, i + 1, 0)) else rdNum l (i + 1) (v + (x.toNat % 128) * 128 ^ i)
theorem pow_le : ∀ i, i ≤ 9 → 128 ^ i ≤ 9223372036854775808 := by
  intro i h
  exact Nat.le_trans (Nat.pow_le_pow_right (by omega) h) (by decide)
theorem rdNum_code : ∀ (l : List UInt8) (i v : Nat), (rdNum l i v).2.2 ≤ 3
  | [], _, _ => by simp [rdNum]
  | x :: l, i, v => by
    rw [rdNum]
    split
    · simp
    · split
      · split <;> simp
      · exact rdNum_code l _ _
theorem rdNum_len : ∀ (l : List UInt8) (i v : Nat), (rdNum l i v).2.2 = 0 → (rdNum l i v).2.1 ≤ i + l.length
  | [], _, _ => by simp [rdNum]
  | x :: l, i, v => by
    rw [rdNum]
    split
    · simp
    · split
      · split <;> simp
      · intro h
        have := rdNum_len l _ _ h
        simp only [List.length_cons]; omega
theorem rdNum_lt : ∀ (l : List UInt8) (i v : Nat), i ≤ 9 → v < 128 ^ i → (rdNum l i v).1 < 18446744073709551616
  | [], _, _, _, _ => by simp [rdNum]
  | x :: l, i, v, hi, hv => by
    have hp := pow_le i hi
    have hx := UInt8.toNat_lt x
    rw [rdNum]
    split
    · simp
    · rename_i h9
      split
      · split
        · simp
        · simp only
          by_cases h : i = 9
          · have : x.toNat ≤ 1 := by omega
            have h2 : x.toNat * 128 ^ i ≤ 1 * 128 ^ i := Nat.mul_le_mul_right _ this
            omega
          · have h8 : 128 ^ i ≤ 72057594037927936 := Nat.le_trans (Nat.pow_le_pow_right (by omega) (show i ≤ 8 by omega)) (by decide)
            have h2 : x.toNat * 128 ^ i ≤ 127 * 128 ^ i := Nat.mul_le_mul_right _ (by omega)
            omega
      · have h : i ≠ 9 := by rintro rfl; omega
        refine rdNum_lt l (i + 1) _ (by omega) ?_
        have h2 : x.toNat % 128 * 128 ^ i ≤ 127 * 128 ^ i := Nat.mul_le_mul_right _ (by omega)
        rw [Nat.pow_succ]; omega
theorem or_add (v m i : Nat) (hv : v < 128 ^ i) : v ||| (m * 128 ^ i) = v + m * 128 ^ i := by
  have e : 128 ^ i = 2 ^ (7 * i) := by rw [show (128 : Nat) = 2 ^ 7 by rfl, ← Nat.pow_mul]
  rw [e] at hv ⊢
  rw [Nat.or_comm, Nat.mul_comm m, ← Nat.two_pow_add_eq_or_of_lt hv, Nat.add_comm]
theorem and127 (y : Nat) (h : y < 256) : Go.bits .and .u8 (y : Int) 127 = ((y % 128 : Nat) : Int) := by
  have : ∀ m : Fin 256, Go.bits .and .u8 (m.val : Int) 127 = ((m.val % 128 : Nat) : Int) := by decide +kernel
  exact this ⟨y, h⟩
theorem wrap64u (n : Nat) (h : n < 18446744073709551616) : IntKind.u64.wrap (n : Int) = (n : Int) := by simp [IntKind.wrap, IntKind.bits, IntKind.signed]; omega
theorem or_step (m y k : Nat) (hy : y < 256) (hk : k ≤ 9) (h9 : k = 9 → y ≤ 1) (hm : m < 128 ^ k) :
    Go.bits .or .u64 (m : Int) (IntKind.u64.wrap (IntKind.u64.wrap (Go.bits .and .u8 (y : Int) 127) * 2 ^ (7 * k))) = ((m + y % 128 * 128 ^ k : Nat) : Int) := by
  have hp := pow_le k hk
  have hq : y % 128 * 128 ^ k < 18446744073709551616 := by
    by_cases h : k = 9
    · have := h9 h
      have h2 : y % 128 * 128 ^ k ≤ 1 * 128 ^ k := Nat.mul_le_mul_right _ (by omega)
      omega
    · have h8 : 128 ^ k ≤ 72057594037927936 := Nat.le_trans (Nat.pow_le_pow_right (by omega) (show k ≤ 8 by omega)) (by decide)
      have h2 : y % 128 * 128 ^ k ≤ 127 * 128 ^ k := Nat.mul_le_mul_right _ (by omega)
      omega
  have e : ((y % 128 : Nat) : Int) * 2 ^ (7 * k) = ((y % 128 * 128 ^ k : Nat) : Int) := by
    rw [Int.pow_mul, show (2 : Int) ^ 7 = ((128 : Nat) : Int) by rfl]
    simp only [Int.natCast_mul, Int.natCast_pow]
  rw [and127 y hy, wrap64u _ (by omega), e, wrap64u _ hq, u64_or_nat m _ (by omega) hq, or_add _ _ _ hm]
/-! The reference: the bytes are counted first. -/
def cntB : List UInt8 → Nat → Nat
  | [], n => n
  | x :: l, n => if n < 9 ∧ 128 ≤ x.toNat then cntB l (n + 1) else n
def sumB : List UInt8 → Nat → Nat → Nat
  | x :: l, i, n + 1 => x.toNat % 128 * 128 ^ i + sumB l (i + 1) n
  | _, _, _ => 0
def finB (l : List UInt8) (i v j : Nat) : Nat × Nat × Nat :=
  match l[j - i]? with
  | none => (0, j, 1)
  | some x => if j = 9 ∧ 1 < x.toNat then (0, 0, 2) else if 0 < j ∧ x.toNat = 0 then (0, 0, 3) else (v + sumB l i (j + 1 - i), j + 1, 0)
theorem cntB_ge : ∀ (l : List UInt8) (i : Nat), i ≤ cntB l i
  | [], _ => by simp [cntB]
  | x :: l, i => by
    rw [cntB]
    split
    · have := cntB_ge l (i + 1); omega
    · exact Nat.le_refl _
theorem cntB_le : ∀ (l : List UInt8) (i : Nat), i ≤ 9 → cntB l i ≤ 9
  | [], _, h => by simpa [cntB] using h
  | x :: l, i, h => by
    rw [cntB]
    split
    · exact cntB_le l (i + 1) (by omega)
    · exact h
theorem rdNum_cnt : ∀ (l : List UInt8) (i v : Nat), i ≤ 9 → rdNum l i v = finB l i v (cntB l i)
  | [], i, v, _ => by simp [rdNum, cntB, finB]
  | x :: l, i, v, hi => by
    rw [cntB]
    by_cases h : i < 9 ∧ 128 ≤ x.toNat
    · rw [if_pos h, rdNum, if_neg (by omega), if_neg (by omega), rdNum_cnt l (i + 1) _ (by omega)]
      have hg := cntB_ge l (i + 1)
      unfold finB
      have e : (x :: l)[cntB l (i + 1) - i]? = l[cntB l (i + 1) - (i + 1)]? := by
        rw [show cntB l (i + 1) - i = (cntB l (i + 1) - (i + 1)) + 1 by omega, List.getElem?_cons_succ]
      rw [e]
      have e2 : sumB (x :: l) i (cntB l (i + 1) + 1 - i) = x.toNat % 128 * 128 ^ i + sumB l (i + 1) (cntB l (i + 1) + 1 - (i + 1)) := by
        rw [show cntB l (i + 1) + 1 - i = (cntB l (i + 1) + 1 - (i + 1)) + 1 by omega]; rfl
      rw [e2]
      cases l[cntB l (i + 1) - (i + 1)]? with
      | none => rfl
      | some y => simp only [Nat.add_assoc]
    · rw [if_neg h, rdNum]
      unfold finB
      simp only [Nat.sub_self, List.getElem?_cons_zero]
      have e2 : sumB (x :: l) i (i + 1 - i) = x.toNat % 128 * 128 ^ i := by
        rw [show i + 1 - i = 1 by omega]
        cases l <;> simp [sumB]
      rw [e2]
      by_cases h1 : i = 9 ∧ 1 < x.toNat
      · rw [if_pos h1, if_pos h1]
      · rw [if_neg h1, if_neg h1, if_pos (by omega)]
        have hm : x.toNat % 128 = x.toNat := by omega
        rw [hm]
        by_cases h2 : x.toNat = 0 ∧ 0 < i
        · rw [if_pos h2, if_pos (by omega)]
        · rw [if_neg h2, if_neg (by omega)]
end Go.Ow

/- Strings and bytes: conversions and appends at what a call owns. -/
namespace Go.Ow
set_option linter.unusedSimpArgs false
set_option linter.unusedVariables false
open Go.RowKit
attribute [local irreducible] wpQuiet

theorem strCells_flat (s : ByteArray) : Go.Lib.strCells s = ((s.data.toList : List UInt8).map Fl.fl).flatten := by
  unfold Go.Lib.strCells
  induction s.data.toList with
  | nil => rfl
  | cons x l ih => simp only [List.map_cons, List.flatten_cons, ih]; rfl
theorem size_list (s : ByteArray) : s.data.toList.length = s.size := by rw [Array.length_toList]; rfl

theorem bytesWorld_below (w : World) (e : TypeId) (s : ByteArray) : Below w.heap.size w (Go.Lib.bytesWorld w e s) :=
  ⟨rfl, rfl, rfl, by rw [Go.Lib.bytesWorld_size]; omega, fun j hj => Go.Lib.bytesWorld_at_old w e s j hj⟩

theorem bytesWorld_rd (w : World) (e : TypeId) (s : ByteArray) (hl : s.size ≤ 140737488355328) :
    Rd (Go.Lib.bytesWorld w e s) (.slice (some ⟨w.heap.size, 0, none⟩) s.size (grownCap w s.size 0 e)) (s.data.toList : List UInt8) := by
  have hz := size_list s
  refine ⟨some ⟨w.heap.size, 0, none⟩, grownCap w s.size 0 e, by rw [hz], by rw [hz]; exact grownCap_ge _ _ _ _, grownCap_le_maxLen _ _ _ _ (by simp only [maxLen]; omega), by omega, fun h => (by cases h), fun i hi => ?_⟩
  refine ⟨_, 0, [.int .u8 ((s.data.toList[i]'hi).toNat : Int)], rfl, rfl, fun j hj => ?_⟩
  have hj0 : j = 0 := by have h1 : j < 1 := hj; omega
  subst hj0
  have e1 : 0 + i * Cd.z UInt8 + 0 = i := by show 0 + i * 1 + 0 = i; omega
  rw [e1, Go.Lib.bytesWorld_cell w e s i (by omega)]
  simp [List.getD, List.getElem?_eq_getElem hi]

section
variable {P : Program} {ops : Array Oper} {rest : List Oper} {o : Oper} {a : Act} {Q : Exit → Act → World → Prop} {w W : World} {R : List Ds}

theorem wp_conv_bytes [Ty UInt8] (hgd : o.guard = none) (x : Operand) (src dst : TypeId) (hop : o.op = Op.convert src dst x) {u : TypeDesc} (hs : P.underlying src = some u) (hd : P.underlying dst = some (.slice (Ty.id UInt8)))
    (he : P.underlying (Ty.id UInt8) = some (.int .u8)) (HS : Own W R w) (s : ByteArray) (hx : a.eval x = .string s) (hl : s.size ≤ 140737488355328)
    (h : ∀ A c w', Own W R w' → Below w.heap.size w w' → Rd w' (.slice (some A) s.size c) (s.data.toList : List UInt8) → wpList P ops Q rest (a.put o.dst (.slice (some A) s.size c)) w') : wpList P ops Q (o :: rest) a w := by
  refine wpList_plain hgd fun K hK => ?_
  have hr := Go.Lib.run_convert_string_bytes (P := P) w src dst (Ty.id UInt8) s hs hd he
  have hb := bytesWorld_below w (Ty.id UInt8) s
  unfold Oper.wp execOp
  simp only [hop, resolve, Sem.run_bind, Sem.run_pure, Result.andThen_ok, hx, hr]
  exact hK _ _ (h _ _ _ (HS.of_below hb) hb (bytesWorld_rd w _ s hl))

theorem wp_app_str [Ty UInt8] [El P UInt8] (hgd : o.guard = none) (sl x : Operand) (t u : TypeId) (ho : o.op = .call { callee := .builtin .append, args := #[sl, x], argTypes := #[t, u] })
    (ht : P.underlying t = some (.slice (Ty.id UInt8))) (hu : P.underlying u = some .string) (hi : (P.info? (Ty.id UInt8)).map (fun i => (i.zero, i.size, i.bytes)) = some (some (.int .u8 0), 1, 1))
    (v : Value) (xs : List UInt8) (HS : Own W (.own v xs :: R) w) (hs : a.eval sl = v) (s : ByteArray) (hx : a.eval x = .string s) (hl : xs.length + s.size ≤ 140737488355328)
    (h : ∀ v' w', Own W (.own v' (xs ++ s.data.toList) :: R) w' → wpList P ops Q rest (a.put o.dst v') w') : wpList P ops Q (o :: rest) a w := by
  obtain ⟨i, hi, he⟩ := Option.map_eq_some_iff.1 hi
  simp only [Prod.mk.injEq] at he
  obtain ⟨h0, h1, h2⟩ := he
  obtain ⟨_, fp, ⟨f, g, hfp, hr, hR⟩, hn, hlow⟩ := id HS
  obtain ⟨hrow, hbig, hf⟩ := Dp.flat (base := 0) hr (fun _ _ => Nat.zero_le _)
  obtain ⟨v', w', hrun, h4, h5, _⟩ := Go.Lib.run_append_own_string (P := P) w 0 t u o.type (Ty.id UInt8) i ht hu hi h0 h1 h2 v xs.length _ hrow s (by simp only [maxLen]; omega) hl (Nat.zero_le _)
  refine wpList_plain hgd fun K hK => ?_
  unfold Oper.wp execOp
  simp only [ho, resolve, invoke, builtin, Sem.run_bind, Sem.run_pure, Result.andThen_ok, List.map_toArray, List.map_cons, List.map_nil, hs, hx, hrun]
  refine hK _ _ (h v' w' (HS.grow (by rw [List.length_append, List.map_append, List.flatten_append, size_list, ← strCells_flat]; exact h4) (by rw [List.length_append, size_list]; exact hl) h5 ?_))
  intro k hk
  rcases hrow.2 with ⟨rfl, he0⟩ | ⟨g, cap, cur, rfl, hbg, hg, hnc, hcm, hcs, htake⟩
  · by_cases hm : s.size = 0
    · have h4' := h4.2
      rcases h4' with ⟨rfl, _⟩ | ⟨g', cap', cur', rfl, _, hg', hnc', _⟩
      · cases hk
      · exfalso
        have hr : (Builtin.append_ #[t, u] o.type #[.slice none 0 0, .string s]).run P w = .ok (.slice none 0 0) w := by
          have hf := Go.Lib.run_firstCells_string (P := P) w 1 s
          have hn : Go.Lib.strCells s = [] := List.eq_nil_of_length_eq_zero (by rw [Go.Lib.strCells_length]; exact hm)
          rw [hm] at hf
          simp [Builtin.append_, run_underlying ht, run_underlying hu, sizeOf, typeInfo, hi, h1, Builtin.lenOf, hm, hf]
        rw [hrun] at hr
        injection hr with hr _
        injection hr with hr _ _
        cases hr
    · have hr := run_append_nil_string (P := P) w t u o.type (Ty.id UInt8) i (.int .u8 0) ht hu hi h0 s (by omega) (by omega) (by rw [h2]; omega)
      rw [hrun] at hr
      injection hr with hr _
      subst hr
      have : w.heap.size = k := by simpa [Value.ownBlock] using hk
      omega
  · by_cases hroom : xs.length + s.size ≤ cap
    · have hcs' : cur.size = cap := by have : cur.size = cap * 1 := hcs; omega
      have hr := Go.Lib.run_append_room_string (P := P) w t u o.type (Ty.id UInt8) i ht hu hi h1 g xs.length cap cur hg s hroom (by omega)
      rw [hrun] at hr
      injection hr with hr _
      subst hr
      exact .inl (by simpa [Value.ownBlock] using hk)
    · have holds : ∀ j u, ((xs.map Fl.fl).flatten)[j]? = some u → w.cell? ((⟨g, 0, none⟩ : Addr).add j) = some u := hrow.cells (g := g) rfl
      have hr := Go.Lib.run_append_grow_string (P := P) w t u o.type (Ty.id UInt8) i (.int .u8 0) ht hu hi h0 ⟨g, 0, none⟩ xs.length cap _ (by rw [h1, len_flat]; rfl) holds s (by omega) (by omega) (by rw [h2]; exact growslice_fits (by omega) (by omega))
      rw [hrun] at hr
      injection hr with hr _
      subst hr
      have : w.heap.size = k := by simpa [Value.ownBlock] using hk
      omega
end
end Go.Ow
