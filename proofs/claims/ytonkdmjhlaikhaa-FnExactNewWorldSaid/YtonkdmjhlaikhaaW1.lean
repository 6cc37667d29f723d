/- NewWorld: the world's data and the program's side. -/
import Derived.Test.YtonkdmjhlaikhaaR1
import Derived.Test.YtonkdmjhlaikhaaAp
namespace Go.Proofs.Ytonkdmjhlaikhaa
set_option linter.unusedSimpArgs false
set_option linter.unusedVariables false
open Go.RowKit Go.Ow
attribute [local irreducible] wpQuiet
set_option maxRecDepth 100000
/-- A slice without elements. -/
structure Nl where
  a : Option Addr
instance : Fl Nl := Fl.scalar (fun x => .slice x.a 0 0) (fun _ => rfl)
/-- A replica without leaves and runs. -/
structure Rz where
  i : Int
  A : Nl
  B : Nl
  C : Nl
  D : Nl
instance : Fl Rz := Fl.iso (fun r : Rz => (r.i, r.A, r.B, r.C, r.D))
/-- A pipe without messages and bytes. -/
structure Pz where
  f : Int
  t : Int
  M : Nl
  B : Nl
  n : Int
  m : Int
instance : Fl Pz := Fl.iso (fun p : Pz => (p.f, p.t, p.M, p.B, p.n, p.m))
instance : Ty Rz := ⟨48⟩
instance : Ty Pz := ⟨113⟩
instance : ElZ Try.prog Rz := { bytes := 104, info := El.of (by kernel_rfl), zero := ⟨0, ⟨none⟩, ⟨none⟩, ⟨none⟩, ⟨none⟩⟩, infoz := ElZ.of (by kernel_rfl) }
instance : ElZ Try.prog Pz := { bytes := 80, info := El.of (by kernel_rfl), zero := ⟨0, 0, ⟨none⟩, ⟨none⟩, 0, 0⟩, infoz := ElZ.of (by kernel_rfl) }
def Pz.key (p : Pz) : Int × Int × Int × Int := (p.f, p.t, p.n, p.m)
def rowU (a b : Nat) : List (Int × Int × Int × Int) := ((List.range b).filter (· ≠ a)).map fun y : Nat => ((a : Int), (y : Int), 0, 0)
def keysU (n a : Nat) : List (Int × Int × Int × Int) := (List.range a).flatMap fun x => rowU x n
def idsU (a : Nat) : List Int := (List.range a).map fun x : Nat => (x : Int)
theorem idsU_succ (a : Nat) : idsU (a + 1) = idsU a ++ [(a : Int)] := by simp [idsU, List.range_succ]
theorem keysU_succ (n a : Nat) : keysU n (a + 1) = keysU n a ++ rowU a n := by simp [keysU, List.range_succ]
theorem rowU_succ (a b : Nat) : rowU a (b + 1) = rowU a b ++ (if b = a then [] else [((a : Int), (b : Int), 0, 0)]) := by
  unfold rowU
  rw [List.range_succ, List.filter_append, List.map_append]
  by_cases h : b = a <;> simp [h]
def wldOk (n : Int) : Bool := decide (1 ≤ n) && decide (n ≤ 8)
def wldN (n : Int) : Nat := if wldOk n then n.toNat else 0
def WldPost (w : World) (n : Int) (e : Ending) (w' : World) : Prop :=
  ∃ (v1 v2 : Value) (rs : List Rz) (ps : List Pz), e = .returned (.tuple #[.agg #[v1, v2], .bool (wldOk n)]) ∧ rs.map (·.i) = idsU (wldN n) ∧ ps.map Pz.key = keysU (wldN n) (wldN n) ∧ Own w [.own v1 rs, .own v2 ps] w'
end Go.Proofs.Ytonkdmjhlaikhaa
