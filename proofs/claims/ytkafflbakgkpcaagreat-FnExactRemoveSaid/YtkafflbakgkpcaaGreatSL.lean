/- Leaves sorted by the library. -/
import Derived.Test.YtkafflbakgkpcaaGreatI3
import Derived.Test.YtkafflbakgkpcaaGreatL2
import Derived.Test.YtkafflbakgkpcaaGreatL1
import Derived.Test.YtkafflbakgkpcaaGreatL3
import Derived.Shelf.Lay
import Derived.Ground.SlsfProg
namespace Go.Proofs
set_option linter.unusedSimpArgs false
set_option linter.unusedVariables false
open Go.Shelf
shelf_lay_g SlLaysF0.n6 Slsf 6 at Tryz 90 as Tryz.sortLf
end Go.Proofs
namespace Go.Proofs.YtkafflbakgkpcaaGreat
set_option linter.unusedSimpArgs false
set_option linter.unusedVariables false
open Go.RowKit Go.Ow Go.Sort Go.Lib Go.Shelf
attribute [local irreducible] wpQuiet
set_option maxRecDepth 100000
/-- A leaf as the sort sees it. -/
def PvP (w : World) (g : Nat) (z : Pf) : Prop := dotIn z.l ∧ ∃ f, Dp (Ty.id ByteArray) w z.s.v z.l.p f ∧ g ∉ f
abbrev PV (w : World) (g : Nat) := { z : Pf // PvP w g z }
instance (w : World) (g : Nat) : Inhabited (PV w g) := ⟨⟨⟨⟨none, 0, 0⟩, ⟨[], false, 0, 1, ByteArray.empty⟩⟩, ⟨⟨by decide, by decide⟩, by decide, by decide⟩, [], .inl ⟨rfl, rfl, rfl⟩, by simp⟩⟩
def encP {w : World} {g : Nat} (x : PV w g) : List Value := [x.1.s.v, .bool x.1.l.fl, .int .i64 x.1.l.dr, .int .i64 x.1.l.ds, .string x.1.l.v]
def cfP {w : World} {g : Nat} (x y : PV w g) : Int := cmpL x.1.l y.1.l
theorem ltP {w : World} {g : Nat} (x y : PV w g) : ltOf cfP x y = before x.1.l y.1.l := by
  unfold ltOf cfP
  exact cmpL_lt _ _ x.2.1 y.2.1
theorem swoP (w : World) (g : Nat) : SWO (ltOf (cfP (w := w) (g := g))) where
  irrefl x := by rw [ltP]; exact before_irr _
  trans x y z h1 h2 := by rw [ltP] at *; exact before_trans h1 h2
  ntrans x y z h1 h2 := by rw [ltP] at *; exact before_ntrans h1 h2
theorem sortW_same {β : Type} [Inhabited β] (enc : β → List Value) (k : Nat) (w : World) (g m : Nat) (d : Array β) (os : Array Obj) (f : List Nat) (hf : ∀ b ∈ f, b < w.heap.size) (hg : g ∉ f) : Same w (sortWorldK enc k w g 0 m d os) f := by
  intro b hb
  have hsz : (sortWorldK enc k w g 0 m d os).heap = (w.heap.modify g (onCells (putCells id 0 (flatK enc k d)))) ++ os := rfl
  have : g ≠ b := fun e => hg (e ▸ hb)
  rw [hsz, Array.getElem?_append_left (by simpa using hf b hb), Array.getElem?_modify, if_neg this]
theorem cmpPv (w : World) (g size : Nat) : CmpLays Tryz.prog 59 #[] (encP (w := w) (g := g)) 5 cfP g 0 size w :=
  fun m os dk _ x y => by
    obtain ⟨f1, h1, hg1⟩ := x.2.2
    obtain ⟨f2, h2, hg2⟩ := y.2.2
    have hx := (h1.loc (sortW_same encP 5 w g m dk os f1 h1.lt hg1)).rd
    have hy := (h2.loc (sortW_same encP 5 w g m dk os f2 h2.lt hg2)).rd
    have h := compareLeavesG x.1.l y.1.l x.1.s.v y.1.s.v (sortWorldK encP 5 w g 0 m dk os) hx hy
    exact h.mono fun e w' ⟨he, hb, hg⟩ => ⟨he, hg.grows hb⟩
theorem sortLeaves {W w : World} {R : List Ds} (zs : List Pf) (g cap : Nat) (hz : ∀ z ∈ zs, PvP w g z) (HS : Own W (.own (.slice (some ⟨g, 0, none⟩) zs.length cap) zs :: R) w) :
    Calls Tryz.prog 90 #[.slice (some ⟨g, 0, none⟩) zs.length cap, .func (.func 59) #[] #[]] w fun e w' => e = .returned (.tuple #[]) ∧ ∃ zs' : List Pf, zs'.Perm zs ∧ (∀ i j (_ : i < j) (hj : j < zs'.length), before zs'[j].l (zs'[i]'(by omega)).l = false) ∧ Own W (.own (.slice (some ⟨g, 0, none⟩) zs.length cap) zs' :: R) w' := by
  obtain ⟨_, _, _, _, hbig⟩ := (HS.rd 0 rfl).val
  obtain ⟨d, hd⟩ : ∃ d : Array (PV w g), d.toList.map (fun x => x.1) = zs := ⟨(zs.pmap (fun s h => (⟨s, h⟩ : PV w g)) hz).toArray, by simp [List.map_pmap]⟩
  have hsz : d.size = zs.length := by rw [← hd]; simp
  obtain ⟨hh, hlt⟩ := HS.holdsK (enc := encP) (toA := fun x : PV w g => x.1) (fun x => rfl) d hd
  have eg : ∀ args w, (callFunc 59 args).run Tryz.prog w = .ok (.enter 59 args) w := enters_of Tryz.func59 (by kernel_rfl) rfl
  have hcon := AnyQ.slices_SortFunc Tryz.sortLf 5 (by intro w; kernel_rfl) (by intro w; kernel_rfl) (encP (w := w) (g := g)) (fun _ => rfl) (fun x v hv => by simp [encP] at hv; rcases hv with rfl | rfl | rfl | rfl | rfl <;> rfl) cfP (swoP w g) 59 #[] g 0 cap d w eg (cmpPv w g d.size) hh hlt (by omega)
  rw [hsz] at hcon
  change Calls Tryz.prog 90 _ _ _ at hcon
  refine hcon.mono ?_
  rintro e w' ⟨rfl, d', n, os, ⟨hs', _, hp⟩, hso, rfl⟩
  refine ⟨rfl, d'.toList.map (fun x => x.1), ?_, ?_, HS.sorted (enc := encP) (toA := fun x : PV w g => x.1) (fun x => rfl) d' (by omega) n os⟩
  · rw [← hd]
    refine List.Perm.map _ ?_
    have e1 : (d'.extract 0 d.size) = d' := by rw [← hs']; simp
    have e2 : (d.extract 0 d.size) = d := by simp
    rw [hsz] at hs'
    rw [← hsz, e1, e2] at hp
    exact hp
  · intro i j hij hj
    have hj' : j < d'.size := by simpa using hj
    have := hso i j (Nat.zero_le _) hij (by omega)
    rw [ltP, getElem!_pos d' j hj', getElem!_pos d' i (by omega)] at this
    simpa using this
end Go.Proofs.YtkafflbakgkpcaaGreat
