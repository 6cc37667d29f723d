/-
  No cell of these rows narrows 'for every input' (looked for: loops, veiled, ifaces, maps, wideKeys, modest, calm, conditions, laid).
  DERIVED. THE GIVEN ROWS OF THIS SEAT. 5 by the template 'for every input the law returns true; each argument reads behind the call as it read before'; 0 by the template 'total and deterministic' (their statements: YtbcgbkeldcaalaaTotals.lean).
  GIVEN WITH THE SEED: the statements are not yours to turn. If you find one false, say at which input.
  Laid BY PROGRAM, IN A SANDBOX (cutbox-rows.mjs): the forced cells as the released guide's own fill.sh prints them over the translation 58eef7c1ca8c7abc… (all of the seat's roots in one cut). By AI agents, Wed Nov 11 2026. No macro, syntax, notation, axiom, sorry.
-/
import Derived.Test.YtbcgbkeldcaalaaChecked
import GoSem.Claim
import GoSem.ClaimJoined
import GoSem.ClaimMapViews
import Derived.JoinedTies
import Derived.KernelRfl
namespace Go.Proofs.Ytbcgbkeldcaalaa
/- THE CELL 'sum', in the pinned program and in every row, IS THE sha256 OF THE DUMP (.gsa) THAT YtbcgbkeldcaalaaProg.lean LOADS. Nothing in Lean hashes anything: it is a label: what it is worth is what the hold of that sum in a sandbox is worth. -/
noncomputable def Try.pinned : Pinned := { name := "ytbcgbkeldcaalaa", sum := "58eef7c1ca8c7abca6af595ceb2c8e878044fb8a9554b1abb38e22d7822e301b", checked := Try.checked }
namespace Rows
def none {H : Type} : Left H := { results := [], args := [] }

/-- 'laws.FnExactReplicaOk': WHATEVER THE INPUT: true; the input reads as it did. -/
def fnExactReplicaOkSpec : ChangeSpec := { name := "fnExactReplicaOk", fn := fun _ => fun
  | [d] => { results := [.lit (.bool true)], args := [d] }
  | _ => none }
def fnExactReplicaOkRow : OpenClaim := { program := "ytbcgbkeldcaalaa", sum := "58eef7c1ca8c7abca6af595ceb2c8e878044fb8a9554b1abb38e22d7822e301b", func := "loop.example/s02772/laws.FnExactReplicaOk", spec := "fnExactReplicaOk", unfollowed := true, recurses := true, plainKeys := false, apart := false }
def FnExactReplicaOkSaid : Prop := fnExactReplicaOkRow.holds Try.pinned (OpenSpec.ofChange fnExactReplicaOkSpec)

/-- ITS FALSE NEIGHBOUR: 'it returns false'. Refute it at one input. -/
def fnExactReplicaOkWrong : ChangeSpec := { name := "fnExactReplicaOk", fn := fun _ => fun
  | [d] => { results := [.lit (.bool false)], args := [d] }
  | _ => none }
def FnExactReplicaOkWrongFalsely : Prop := fnExactReplicaOkRow.holds Try.pinned (OpenSpec.ofChange fnExactReplicaOkWrong)

/-- 'laws.FnExactPutState': WHATEVER THE INPUT: true; the input reads as it did. -/
def fnExactPutStateSpec : ChangeSpec := { name := "fnExactPutState", fn := fun _ => fun
  | [d] => { results := [.lit (.bool true)], args := [d] }
  | _ => none }
def fnExactPutStateRow : OpenClaim := { program := "ytbcgbkeldcaalaa", sum := "58eef7c1ca8c7abca6af595ceb2c8e878044fb8a9554b1abb38e22d7822e301b", func := "loop.example/s02772/laws.FnExactPutState", spec := "fnExactPutState", unfollowed := true, recurses := true, plainKeys := false, apart := false }
def FnExactPutStateSaid : Prop := fnExactPutStateRow.holds Try.pinned (OpenSpec.ofChange fnExactPutStateSpec)

/-- ITS FALSE NEIGHBOUR: 'it returns false'. Refute it at one input. -/
def fnExactPutStateWrong : ChangeSpec := { name := "fnExactPutState", fn := fun _ => fun
  | [d] => { results := [.lit (.bool false)], args := [d] }
  | _ => none }
def FnExactPutStateWrongFalsely : Prop := fnExactPutStateRow.holds Try.pinned (OpenSpec.ofChange fnExactPutStateWrong)

/-- 'laws.FnExactWhole': WHATEVER THE INPUT: true; the input reads as it did. -/
def fnExactWholeSpec : ChangeSpec := { name := "fnExactWhole", fn := fun _ => fun
  | [d] => { results := [.lit (.bool true)], args := [d] }
  | _ => none }
def fnExactWholeRow : OpenClaim := { program := "ytbcgbkeldcaalaa", sum := "58eef7c1ca8c7abca6af595ceb2c8e878044fb8a9554b1abb38e22d7822e301b", func := "loop.example/s02772/laws.FnExactWhole", spec := "fnExactWhole", unfollowed := true, recurses := true, plainKeys := false, apart := false }
def FnExactWholeSaid : Prop := fnExactWholeRow.holds Try.pinned (OpenSpec.ofChange fnExactWholeSpec)

/-- ITS FALSE NEIGHBOUR: 'it returns false'. Refute it at one input. -/
def fnExactWholeWrong : ChangeSpec := { name := "fnExactWhole", fn := fun _ => fun
  | [d] => { results := [.lit (.bool false)], args := [d] }
  | _ => none }
def FnExactWholeWrongFalsely : Prop := fnExactWholeRow.holds Try.pinned (OpenSpec.ofChange fnExactWholeWrong)

/-- 'laws.FnExactHello': WHATEVER THE INPUT: true; the input reads as it did. -/
def fnExactHelloSpec : ChangeSpec := { name := "fnExactHello", fn := fun _ => fun
  | [d] => { results := [.lit (.bool true)], args := [d] }
  | _ => none }
def fnExactHelloRow : OpenClaim := { program := "ytbcgbkeldcaalaa", sum := "58eef7c1ca8c7abca6af595ceb2c8e878044fb8a9554b1abb38e22d7822e301b", func := "loop.example/s02772/laws.FnExactHello", spec := "fnExactHello", unfollowed := true, recurses := true, plainKeys := false, apart := false }
def FnExactHelloSaid : Prop := fnExactHelloRow.holds Try.pinned (OpenSpec.ofChange fnExactHelloSpec)

/-- ITS FALSE NEIGHBOUR: 'it returns false'. Refute it at one input. -/
def fnExactHelloWrong : ChangeSpec := { name := "fnExactHello", fn := fun _ => fun
  | [d] => { results := [.lit (.bool false)], args := [d] }
  | _ => none }
def FnExactHelloWrongFalsely : Prop := fnExactHelloRow.holds Try.pinned (OpenSpec.ofChange fnExactHelloWrong)

/-- 'laws.FnExactKeys': WHATEVER THE INPUT: true; the input reads as it did. -/
def fnExactKeysSpec : ChangeSpec := { name := "fnExactKeys", fn := fun _ => fun
  | [d1, d2] => { results := [.lit (.bool true)], args := [d1, d2] }
  | _ => none }
def fnExactKeysRow : OpenClaim := { program := "ytbcgbkeldcaalaa", sum := "58eef7c1ca8c7abca6af595ceb2c8e878044fb8a9554b1abb38e22d7822e301b", func := "loop.example/s02772/laws.FnExactKeys", spec := "fnExactKeys", inPlace := ["internal/bytealg.abigen_runtime_cmpstring"], unfollowed := true, recurses := true, plainKeys := false, apart := false }
def FnExactKeysSaid : Prop := fnExactKeysRow.holds Try.pinned (OpenSpec.ofChange fnExactKeysSpec)

/-- ITS FALSE NEIGHBOUR: 'it returns false'. Refute it at one input. -/
def fnExactKeysWrong : ChangeSpec := { name := "fnExactKeys", fn := fun _ => fun
  | [d1, d2] => { results := [.lit (.bool false)], args := [d1, d2] }
  | _ => none }
def FnExactKeysWrongFalsely : Prop := fnExactKeysRow.holds Try.pinned (OpenSpec.ofChange fnExactKeysWrong)

/- THE SECOND FORM. 'bulk': how many values and letters a reading holds, each counted each time it is reached (what is shared counts as often as it is met; a slice's spare places count too). A statement '..UptoSaid' is the law's where the arguments, and the package variables that the reading takes, are together of bulk at most 1048576: NARROWER than '..Said'. Prove '..Said' where nothing that the law and all that it calls make is longer than what came in: it says more and counts as full. Else prove '..UptoSaid'. A law counts once. -/
mutual
def uptoBulk {H : Type} : DataW H → Nat
  | .lit (.string bytes) => bytes.length + 1
  | .lit _ => 1
  | .nil => 1
  | .ptr d => uptoBulk d + 1
  | .slice elems spare => uptoBulkAll elems + uptoBulkAll spare + 1
  | .agg parts => uptoBulkAll parts + 1
  | .iface _ d => uptoBulk d + 1
  | .map entries => uptoBulkEntries entries + 1
  | .held _ => 1
def uptoBulkAll {H : Type} : List (DataW H) → Nat
  | [] => 0
  | d :: r => uptoBulk d + uptoBulkAll r
def uptoBulkEntries {H : Type} : List (Lit × DataW H) → Nat
  | [] => 0
  | x :: r => uptoBulkEntry x + uptoBulkEntries r
def uptoBulkEntry {H : Type} : Lit × DataW H → Nat
  | (.string bytes, d) => bytes.length + uptoBulk d + 1
  | (_, d) => uptoBulk d + 1
 end
def uptoSmall : (H : Type) → List (DataW H) → Bool := fun _ ds => decide (uptoBulkAll ds ≤ 1048576)
def OpenSpec.upto (s : _root_.Go.ChangeSpec) : _root_.Go.OpenSpec := { _root_.Go.OpenSpec.ofChange s with cond := some uptoSmall }

/-- 'laws.FnExactReplicaOk', WHERE WHAT IT READS IS OF BULK AT MOST 1048576: true; the input reads as it did. -/
def fnExactReplicaOkUptoRow : OpenClaim := { program := "ytbcgbkeldcaalaa", sum := "58eef7c1ca8c7abca6af595ceb2c8e878044fb8a9554b1abb38e22d7822e301b", func := "loop.example/s02772/laws.FnExactReplicaOk", spec := "fnExactReplicaOk", unfollowed := true, recurses := true, plainKeys := false, apart := false, narrowed := true }
def FnExactReplicaOkUptoSaid : Prop := fnExactReplicaOkUptoRow.holds Try.pinned (OpenSpec.upto fnExactReplicaOkSpec)

/-- 'laws.FnExactPutState', WHERE WHAT IT READS IS OF BULK AT MOST 1048576: true; the input reads as it did. -/
def fnExactPutStateUptoRow : OpenClaim := { program := "ytbcgbkeldcaalaa", sum := "58eef7c1ca8c7abca6af595ceb2c8e878044fb8a9554b1abb38e22d7822e301b", func := "loop.example/s02772/laws.FnExactPutState", spec := "fnExactPutState", unfollowed := true, recurses := true, plainKeys := false, apart := false, narrowed := true }
def FnExactPutStateUptoSaid : Prop := fnExactPutStateUptoRow.holds Try.pinned (OpenSpec.upto fnExactPutStateSpec)

/-- 'laws.FnExactWhole', WHERE WHAT IT READS IS OF BULK AT MOST 1048576: true; the input reads as it did. -/
def fnExactWholeUptoRow : OpenClaim := { program := "ytbcgbkeldcaalaa", sum := "58eef7c1ca8c7abca6af595ceb2c8e878044fb8a9554b1abb38e22d7822e301b", func := "loop.example/s02772/laws.FnExactWhole", spec := "fnExactWhole", unfollowed := true, recurses := true, plainKeys := false, apart := false, narrowed := true }
def FnExactWholeUptoSaid : Prop := fnExactWholeUptoRow.holds Try.pinned (OpenSpec.upto fnExactWholeSpec)

/-- 'laws.FnExactHello', WHERE WHAT IT READS IS OF BULK AT MOST 1048576: true; the input reads as it did. -/
def fnExactHelloUptoRow : OpenClaim := { program := "ytbcgbkeldcaalaa", sum := "58eef7c1ca8c7abca6af595ceb2c8e878044fb8a9554b1abb38e22d7822e301b", func := "loop.example/s02772/laws.FnExactHello", spec := "fnExactHello", unfollowed := true, recurses := true, plainKeys := false, apart := false, narrowed := true }
def FnExactHelloUptoSaid : Prop := fnExactHelloUptoRow.holds Try.pinned (OpenSpec.upto fnExactHelloSpec)

/-- 'laws.FnExactKeys', WHERE WHAT IT READS IS OF BULK AT MOST 1048576: true; the input reads as it did. -/
def fnExactKeysUptoRow : OpenClaim := { program := "ytbcgbkeldcaalaa", sum := "58eef7c1ca8c7abca6af595ceb2c8e878044fb8a9554b1abb38e22d7822e301b", func := "loop.example/s02772/laws.FnExactKeys", spec := "fnExactKeys", inPlace := ["internal/bytealg.abigen_runtime_cmpstring"], unfollowed := true, recurses := true, plainKeys := false, apart := false, narrowed := true }
def FnExactKeysUptoSaid : Prop := fnExactKeysUptoRow.holds Try.pinned (OpenSpec.upto fnExactKeysSpec)

end Rows
end Go.Proofs.Ytbcgbkeldcaalaa
