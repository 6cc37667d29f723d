/-
  No cell of these rows narrows 'for every input' (looked for: loops, veiled, ifaces, maps, wideKeys, modest, calm, conditions, laid).
  DERIVED. THE GIVEN ROWS OF THIS SEAT. 3 by the template 'for every input the law returns true; each argument reads behind the call as it read before'; 0 by the template 'total and deterministic' (their statements: YtkafflbakgkpcaaGreatTotals.lean).
  GIVEN WITH THE SEED: the statements are not yours to turn. If you find one false, say at which input.
  Laid BY PROGRAM, IN A SANDBOX (cutbox-rows.mjs): the forced cells as the released guide's own fill.sh prints them over the translation a4963aee9b1c6795… (all of the seat's roots in one cut). By AI agents, Wed Nov 11 2026. No macro, syntax, notation, axiom, sorry.
-/
import Derived.Test.YtkafflbakgkpcaaGreatChecked
import GoSem.Claim
import GoSem.ClaimJoined
import GoSem.ClaimMapViews
import Derived.JoinedTies
import Derived.KernelRfl
namespace Go.Proofs.YtkafflbakgkpcaaGreat
/- THE CELL 'sum', in the pinned program and in every row, IS THE sha256 OF THE DUMP (.gsa) THAT YtkafflbakgkpcaaGreatProg.lean LOADS. Nothing in Lean hashes anything: it is a label: what it is worth is what the hold of that sum in a sandbox is worth. -/
noncomputable def Tryz.pinned : Pinned := { name := "ytkafflbakgkpcaagreat", sum := "a4963aee9b1c67953410235ea7110b516a265ac9e14fc93650d35a392709ea39", checked := Tryz.checked }
namespace Rows
def none {H : Type} : Left H := { results := [], args := [] }

/-- 'laws.FnExactRemove': WHATEVER THE INPUT: true; the input reads as it did. -/
def fnExactRemoveSpec : ChangeSpec := { name := "fnExactRemove", fn := fun _ => fun
  | [d1, d2] => { results := [.lit (.bool true)], args := [d1, d2] }
  | _ => none }
def fnExactRemoveRow : OpenClaim := { program := "ytkafflbakgkpcaagreat", sum := "a4963aee9b1c67953410235ea7110b516a265ac9e14fc93650d35a392709ea39", func := "loop.example/s02772/laws.FnExactRemove", spec := "fnExactRemove", inPlace := ["maps.clone"], unfollowed := true, recurses := true, plainKeys := false, apart := false }
def FnExactRemoveSaid : Prop := fnExactRemoveRow.holds Tryz.pinned (OpenSpec.ofChange fnExactRemoveSpec)

/-- ITS FALSE NEIGHBOUR: 'it returns false'. Refute it at one input. -/
def fnExactRemoveWrong : ChangeSpec := { name := "fnExactRemove", fn := fun _ => fun
  | [d1, d2] => { results := [.lit (.bool false)], args := [d1, d2] }
  | _ => none }
def FnExactRemoveWrongFalsely : Prop := fnExactRemoveRow.holds Tryz.pinned (OpenSpec.ofChange fnExactRemoveWrong)

/-- 'laws.FnExactSetFlag': WHATEVER THE INPUT: true; the input reads as it did. -/
def fnExactSetFlagSpec : ChangeSpec := { name := "fnExactSetFlag", fn := fun _ => fun
  | [d1, d2, d3, d4] => { results := [.lit (.bool true)], args := [d1, d2, d3, d4] }
  | _ => none }
def fnExactSetFlagRow : OpenClaim := { program := "ytkafflbakgkpcaagreat", sum := "a4963aee9b1c67953410235ea7110b516a265ac9e14fc93650d35a392709ea39", func := "loop.example/s02772/laws.FnExactSetFlag", spec := "fnExactSetFlag", inPlace := ["maps.clone"], unfollowed := true, recurses := true, plainKeys := false, apart := false }
def FnExactSetFlagSaid : Prop := fnExactSetFlagRow.holds Tryz.pinned (OpenSpec.ofChange fnExactSetFlagSpec)

/-- ITS FALSE NEIGHBOUR: 'it returns false'. Refute it at one input. -/
def fnExactSetFlagWrong : ChangeSpec := { name := "fnExactSetFlag", fn := fun _ => fun
  | [d1, d2, d3, d4] => { results := [.lit (.bool false)], args := [d1, d2, d3, d4] }
  | _ => none }
def FnExactSetFlagWrongFalsely : Prop := fnExactSetFlagRow.holds Tryz.pinned (OpenSpec.ofChange fnExactSetFlagWrong)

/-- 'laws.FnExactWriteReg': WHATEVER THE INPUT: true; the input reads as it did. -/
def fnExactWriteRegSpec : ChangeSpec := { name := "fnExactWriteReg", fn := fun _ => fun
  | [d1, d2, d3, d4] => { results := [.lit (.bool true)], args := [d1, d2, d3, d4] }
  | _ => none }
def fnExactWriteRegRow : OpenClaim := { program := "ytkafflbakgkpcaagreat", sum := "a4963aee9b1c67953410235ea7110b516a265ac9e14fc93650d35a392709ea39", func := "loop.example/s02772/laws.FnExactWriteReg", spec := "fnExactWriteReg", inPlace := ["maps.clone"], unfollowed := true, recurses := true, plainKeys := false, apart := false }
def FnExactWriteRegSaid : Prop := fnExactWriteRegRow.holds Tryz.pinned (OpenSpec.ofChange fnExactWriteRegSpec)

/-- ITS FALSE NEIGHBOUR: 'it returns false'. Refute it at one input. -/
def fnExactWriteRegWrong : ChangeSpec := { name := "fnExactWriteReg", fn := fun _ => fun
  | [d1, d2, d3, d4] => { results := [.lit (.bool false)], args := [d1, d2, d3, d4] }
  | _ => none }
def FnExactWriteRegWrongFalsely : Prop := fnExactWriteRegRow.holds Tryz.pinned (OpenSpec.ofChange fnExactWriteRegWrong)

/- THE SECOND FORM. 'bulk': how many values and letters a reading holds, each counted each time it is reached (what is shared counts as often as it is met; a slice's spare places count too). A statement '..UptoSaid' is the law's where the arguments, and the package variables that the reading takes, are together of bulk at most 1048576: NARROWER than '..Said'. Prove '..Said' where nothing that the law and all that it calls make is longer than what came in: it says more and counts as full. Else prove '..UptoSaid'. A law counts once. -/
mutual
def uptoBulk {H : Type} : DataW H → Nat
  | .lit (.string bytes) => bytes.length + 1
  | .lit _ => 1
  | .nil => 1
  | .ptr d => uptoBulk d + 1
  | .slice elems spare => uptoBulkAll elems + uptoBulkAll spare + 1
  | .agg parts => uptoBulkAll parts + 1
  | .iface _ d => uptoBulk d + 1
  | .map entries => uptoBulkEntries entries + 1
  | .held _ => 1
def uptoBulkAll {H : Type} : List (DataW H) → Nat
  | [] => 0
  | d :: r => uptoBulk d + uptoBulkAll r
def uptoBulkEntries {H : Type} : List (Lit × DataW H) → Nat
  | [] => 0
  | x :: r => uptoBulkEntry x + uptoBulkEntries r
def uptoBulkEntry {H : Type} : Lit × DataW H → Nat
  | (.string bytes, d) => bytes.length + uptoBulk d + 1
  | (_, d) => uptoBulk d + 1
 end
def uptoSmall : (H : Type) → List (DataW H) → Bool := fun _ ds => decide (uptoBulkAll ds ≤ 1048576)
def OpenSpec.upto (s : _root_.Go.ChangeSpec) : _root_.Go.OpenSpec := { _root_.Go.OpenSpec.ofChange s with cond := some uptoSmall }

/-- 'laws.FnExactRemove', WHERE WHAT IT READS IS OF BULK AT MOST 1048576: true; the input reads as it did. -/
def fnExactRemoveUptoRow : OpenClaim := { program := "ytkafflbakgkpcaagreat", sum := "a4963aee9b1c67953410235ea7110b516a265ac9e14fc93650d35a392709ea39", func := "loop.example/s02772/laws.FnExactRemove", spec := "fnExactRemove", inPlace := ["maps.clone"], unfollowed := true, recurses := true, plainKeys := false, apart := false, narrowed := true }
def FnExactRemoveUptoSaid : Prop := fnExactRemoveUptoRow.holds Tryz.pinned (OpenSpec.upto fnExactRemoveSpec)

/-- 'laws.FnExactSetFlag', WHERE WHAT IT READS IS OF BULK AT MOST 1048576: true; the input reads as it did. -/
def fnExactSetFlagUptoRow : OpenClaim := { program := "ytkafflbakgkpcaagreat", sum := "a4963aee9b1c67953410235ea7110b516a265ac9e14fc93650d35a392709ea39", func := "loop.example/s02772/laws.FnExactSetFlag", spec := "fnExactSetFlag", inPlace := ["maps.clone"], unfollowed := true, recurses := true, plainKeys := false, apart := false, narrowed := true }
def FnExactSetFlagUptoSaid : Prop := fnExactSetFlagUptoRow.holds Tryz.pinned (OpenSpec.upto fnExactSetFlagSpec)

/-- 'laws.FnExactWriteReg', WHERE WHAT IT READS IS OF BULK AT MOST 1048576: true; the input reads as it did. -/
def fnExactWriteRegUptoRow : OpenClaim := { program := "ytkafflbakgkpcaagreat", sum := "a4963aee9b1c67953410235ea7110b516a265ac9e14fc93650d35a392709ea39", func := "loop.example/s02772/laws.FnExactWriteReg", spec := "fnExactWriteReg", inPlace := ["maps.clone"], unfollowed := true, recurses := true, plainKeys := false, apart := false, narrowed := true }
def FnExactWriteRegUptoSaid : Prop := fnExactWriteRegUptoRow.holds Tryz.pinned (OpenSpec.upto fnExactWriteRegSpec)

end Rows
end Go.Proofs.YtkafflbakgkpcaaGreat
