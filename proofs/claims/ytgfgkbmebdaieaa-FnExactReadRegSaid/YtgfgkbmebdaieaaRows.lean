/-
  No cell of these rows narrows 'for every input' (looked for: loops, veiled, ifaces, maps, wideKeys, modest, calm, conditions, laid).
  DERIVED. THE GIVEN ROWS OF THIS SEAT. 8 by the template 'for every input the law returns true; each argument reads behind the call as it read before'; 0 by the template 'total and deterministic' (their statements: YtgfgkbmebdaieaaTotals.lean).
  GIVEN WITH THE SEED: the statements are not yours to turn. If you find one false, say at which input.
  Laid BY PROGRAM, IN A SANDBOX (cutbox-rows.mjs): the forced cells as the released guide's own fill.sh prints them over the translation 0aec289fb43d8187… (all of the seat's roots in one cut). By AI agents, Wed Nov 11 2026. No macro, syntax, notation, axiom, sorry.
-/
import Derived.Test.YtgfgkbmebdaieaaChecked
import GoSem.Claim
import GoSem.ClaimJoined
import GoSem.ClaimMapViews
import Derived.JoinedTies
import Derived.KernelRfl
namespace Go.Proofs.Ytgfgkbmebdaieaa
/- THE CELL 'sum', in the pinned program and in every row, IS THE sha256 OF THE DUMP (.gsa) THAT YtgfgkbmebdaieaaProg.lean LOADS. Nothing in Lean hashes anything: it is a label: what it is worth is what the hold of that sum in a sandbox is worth. -/
noncomputable def Try.pinned : Pinned := { name := "ytgfgkbmebdaieaa", sum := "0aec289fb43d8187fd464341c2ab7110a0602da1325b52769a42ac6f1586a450", checked := Try.checked }
namespace Rows
def none {H : Type} : Left H := { results := [], args := [] }

/-- 'laws.FnExactStateOk': WHATEVER THE INPUT: true; the input reads as it did. -/
def fnExactStateOkSpec : ChangeSpec := { name := "fnExactStateOk", fn := fun _ => fun
  | [d] => { results := [.lit (.bool true)], args := [d] }
  | _ => none }
def fnExactStateOkRow : OpenClaim := { program := "ytgfgkbmebdaieaa", sum := "0aec289fb43d8187fd464341c2ab7110a0602da1325b52769a42ac6f1586a450", func := "loop.example/s02772/laws.FnExactStateOk", spec := "fnExactStateOk", unfollowed := true, recurses := true, plainKeys := false, apart := false }
def FnExactStateOkSaid : Prop := fnExactStateOkRow.holds Try.pinned (OpenSpec.ofChange fnExactStateOkSpec)

/-- ITS FALSE NEIGHBOUR: 'it returns false'. Refute it at one input. -/
def fnExactStateOkWrong : ChangeSpec := { name := "fnExactStateOk", fn := fun _ => fun
  | [d] => { results := [.lit (.bool false)], args := [d] }
  | _ => none }
def FnExactStateOkWrongFalsely : Prop := fnExactStateOkRow.holds Try.pinned (OpenSpec.ofChange fnExactStateOkWrong)

/-- 'laws.FnExactReadFlag': WHATEVER THE INPUT: true; the input reads as it did. -/
def fnExactReadFlagSpec : ChangeSpec := { name := "fnExactReadFlag", fn := fun _ => fun
  | [d1, d2] => { results := [.lit (.bool true)], args := [d1, d2] }
  | _ => none }
def fnExactReadFlagRow : OpenClaim := { program := "ytgfgkbmebdaieaa", sum := "0aec289fb43d8187fd464341c2ab7110a0602da1325b52769a42ac6f1586a450", func := "loop.example/s02772/laws.FnExactReadFlag", spec := "fnExactReadFlag", unfollowed := true, recurses := true, plainKeys := false, apart := false }
def FnExactReadFlagSaid : Prop := fnExactReadFlagRow.holds Try.pinned (OpenSpec.ofChange fnExactReadFlagSpec)

/-- ITS FALSE NEIGHBOUR: 'it returns false'. Refute it at one input. -/
def fnExactReadFlagWrong : ChangeSpec := { name := "fnExactReadFlag", fn := fun _ => fun
  | [d1, d2] => { results := [.lit (.bool false)], args := [d1, d2] }
  | _ => none }
def FnExactReadFlagWrongFalsely : Prop := fnExactReadFlagRow.holds Try.pinned (OpenSpec.ofChange fnExactReadFlagWrong)

/-- 'laws.FnExactCovers': WHATEVER THE INPUT: true; the input reads as it did. -/
def fnExactCoversSpec : ChangeSpec := { name := "fnExactCovers", fn := fun _ => fun
  | [d1, d2] => { results := [.lit (.bool true)], args := [d1, d2] }
  | _ => none }
def fnExactCoversRow : OpenClaim := { program := "ytgfgkbmebdaieaa", sum := "0aec289fb43d8187fd464341c2ab7110a0602da1325b52769a42ac6f1586a450", func := "loop.example/s02772/laws.FnExactCovers", spec := "fnExactCovers", unfollowed := true, recurses := true, plainKeys := false, apart := false }
def FnExactCoversSaid : Prop := fnExactCoversRow.holds Try.pinned (OpenSpec.ofChange fnExactCoversSpec)

/-- ITS FALSE NEIGHBOUR: 'it returns false'. Refute it at one input. -/
def fnExactCoversWrong : ChangeSpec := { name := "fnExactCovers", fn := fun _ => fun
  | [d1, d2] => { results := [.lit (.bool false)], args := [d1, d2] }
  | _ => none }
def FnExactCoversWrongFalsely : Prop := fnExactCoversRow.holds Try.pinned (OpenSpec.ofChange fnExactCoversWrong)

/-- 'laws.FnExactUnion': WHATEVER THE INPUT: true; the input reads as it did. -/
def fnExactUnionSpec : ChangeSpec := { name := "fnExactUnion", fn := fun _ => fun
  | [d1, d2] => { results := [.lit (.bool true)], args := [d1, d2] }
  | _ => none }
def fnExactUnionRow : OpenClaim := { program := "ytgfgkbmebdaieaa", sum := "0aec289fb43d8187fd464341c2ab7110a0602da1325b52769a42ac6f1586a450", func := "loop.example/s02772/laws.FnExactUnion", spec := "fnExactUnion", unfollowed := true, recurses := true, plainKeys := false, apart := false }
def FnExactUnionSaid : Prop := fnExactUnionRow.holds Try.pinned (OpenSpec.ofChange fnExactUnionSpec)

/-- ITS FALSE NEIGHBOUR: 'it returns false'. Refute it at one input. -/
def fnExactUnionWrong : ChangeSpec := { name := "fnExactUnion", fn := fun _ => fun
  | [d1, d2] => { results := [.lit (.bool false)], args := [d1, d2] }
  | _ => none }
def FnExactUnionWrongFalsely : Prop := fnExactUnionRow.holds Try.pinned (OpenSpec.ofChange fnExactUnionWrong)

/-- 'laws.FnExactAddDot': WHATEVER THE INPUT: true; the input reads as it did. -/
def fnExactAddDotSpec : ChangeSpec := { name := "fnExactAddDot", fn := fun _ => fun
  | [d1, d2] => { results := [.lit (.bool true)], args := [d1, d2] }
  | _ => none }
def fnExactAddDotRow : OpenClaim := { program := "ytgfgkbmebdaieaa", sum := "0aec289fb43d8187fd464341c2ab7110a0602da1325b52769a42ac6f1586a450", func := "loop.example/s02772/laws.FnExactAddDot", spec := "fnExactAddDot", unfollowed := true, recurses := true, plainKeys := false, apart := false }
def FnExactAddDotSaid : Prop := fnExactAddDotRow.holds Try.pinned (OpenSpec.ofChange fnExactAddDotSpec)

/-- ITS FALSE NEIGHBOUR: 'it returns false'. Refute it at one input. -/
def fnExactAddDotWrong : ChangeSpec := { name := "fnExactAddDot", fn := fun _ => fun
  | [d1, d2] => { results := [.lit (.bool false)], args := [d1, d2] }
  | _ => none }
def FnExactAddDotWrongFalsely : Prop := fnExactAddDotRow.holds Try.pinned (OpenSpec.ofChange fnExactAddDotWrong)

/-- 'laws.FnExactReplicaOk': WHATEVER THE INPUT: true; the input reads as it did. -/
def fnExactReplicaOkSpec : ChangeSpec := { name := "fnExactReplicaOk", fn := fun _ => fun
  | [d] => { results := [.lit (.bool true)], args := [d] }
  | _ => none }
def fnExactReplicaOkRow : OpenClaim := { program := "ytgfgkbmebdaieaa", sum := "0aec289fb43d8187fd464341c2ab7110a0602da1325b52769a42ac6f1586a450", func := "loop.example/s02772/laws.FnExactReplicaOk", spec := "fnExactReplicaOk", unfollowed := true, recurses := true, plainKeys := false, apart := false }
def FnExactReplicaOkSaid : Prop := fnExactReplicaOkRow.holds Try.pinned (OpenSpec.ofChange fnExactReplicaOkSpec)

/-- ITS FALSE NEIGHBOUR: 'it returns false'. Refute it at one input. -/
def fnExactReplicaOkWrong : ChangeSpec := { name := "fnExactReplicaOk", fn := fun _ => fun
  | [d] => { results := [.lit (.bool false)], args := [d] }
  | _ => none }
def FnExactReplicaOkWrongFalsely : Prop := fnExactReplicaOkRow.holds Try.pinned (OpenSpec.ofChange fnExactReplicaOkWrong)

/-- 'laws.FnExactPutState': WHATEVER THE INPUT: true; the input reads as it did. -/
def fnExactPutStateSpec : ChangeSpec := { name := "fnExactPutState", fn := fun _ => fun
  | [d] => { results := [.lit (.bool true)], args := [d] }
  | _ => none }
def fnExactPutStateRow : OpenClaim := { program := "ytgfgkbmebdaieaa", sum := "0aec289fb43d8187fd464341c2ab7110a0602da1325b52769a42ac6f1586a450", func := "loop.example/s02772/laws.FnExactPutState", spec := "fnExactPutState", unfollowed := true, recurses := true, plainKeys := false, apart := false }
def FnExactPutStateSaid : Prop := fnExactPutStateRow.holds Try.pinned (OpenSpec.ofChange fnExactPutStateSpec)

/-- ITS FALSE NEIGHBOUR: 'it returns false'. Refute it at one input. -/
def fnExactPutStateWrong : ChangeSpec := { name := "fnExactPutState", fn := fun _ => fun
  | [d] => { results := [.lit (.bool false)], args := [d] }
  | _ => none }
def FnExactPutStateWrongFalsely : Prop := fnExactPutStateRow.holds Try.pinned (OpenSpec.ofChange fnExactPutStateWrong)

/-- 'laws.FnExactReadReg': WHATEVER THE INPUT: true; the input reads as it did. -/
def fnExactReadRegSpec : ChangeSpec := { name := "fnExactReadReg", fn := fun _ => fun
  | [d1, d2] => { results := [.lit (.bool true)], args := [d1, d2] }
  | _ => none }
def fnExactReadRegRow : OpenClaim := { program := "ytgfgkbmebdaieaa", sum := "0aec289fb43d8187fd464341c2ab7110a0602da1325b52769a42ac6f1586a450", func := "loop.example/s02772/laws.FnExactReadReg", spec := "fnExactReadReg", unfollowed := true, recurses := true, plainKeys := false, apart := false }
def FnExactReadRegSaid : Prop := fnExactReadRegRow.holds Try.pinned (OpenSpec.ofChange fnExactReadRegSpec)

/-- ITS FALSE NEIGHBOUR: 'it returns false'. Refute it at one input. -/
def fnExactReadRegWrong : ChangeSpec := { name := "fnExactReadReg", fn := fun _ => fun
  | [d1, d2] => { results := [.lit (.bool false)], args := [d1, d2] }
  | _ => none }
def FnExactReadRegWrongFalsely : Prop := fnExactReadRegRow.holds Try.pinned (OpenSpec.ofChange fnExactReadRegWrong)

/- THE SECOND FORM. 'bulk': how many values and letters a reading holds, each counted each time it is reached (what is shared counts as often as it is met; a slice's spare places count too). A statement '..UptoSaid' is the law's where the arguments, and the package variables that the reading takes, are together of bulk at most 1048576: NARROWER than '..Said'. Prove '..Said' where nothing that the law and all that it calls make is longer than what came in: it says more and counts as full. Else prove '..UptoSaid'. A law counts once. -/
mutual
def uptoBulk {H : Type} : DataW H → Nat
  | .lit (.string bytes) => bytes.length + 1
  | .lit _ => 1
  | .nil => 1
  | .ptr d => uptoBulk d + 1
  | .slice elems spare => uptoBulkAll elems + uptoBulkAll spare + 1
  | .agg parts => uptoBulkAll parts + 1
  | .iface _ d => uptoBulk d + 1
  | .map entries => uptoBulkEntries entries + 1
  | .held _ => 1
def uptoBulkAll {H : Type} : List (DataW H) → Nat
  | [] => 0
  | d :: r => uptoBulk d + uptoBulkAll r
def uptoBulkEntries {H : Type} : List (Lit × DataW H) → Nat
  | [] => 0
  | x :: r => uptoBulkEntry x + uptoBulkEntries r
def uptoBulkEntry {H : Type} : Lit × DataW H → Nat
  | (.string bytes, d) => bytes.length + uptoBulk d + 1
  | (_, d) => uptoBulk d + 1
 end
def uptoSmall : (H : Type) → List (DataW H) → Bool := fun _ ds => decide (uptoBulkAll ds ≤ 1048576)
def OpenSpec.upto (s : _root_.Go.ChangeSpec) : _root_.Go.OpenSpec := { _root_.Go.OpenSpec.ofChange s with cond := some uptoSmall }

/-- 'laws.FnExactStateOk', WHERE WHAT IT READS IS OF BULK AT MOST 1048576: true; the input reads as it did. -/
def fnExactStateOkUptoRow : OpenClaim := { program := "ytgfgkbmebdaieaa", sum := "0aec289fb43d8187fd464341c2ab7110a0602da1325b52769a42ac6f1586a450", func := "loop.example/s02772/laws.FnExactStateOk", spec := "fnExactStateOk", unfollowed := true, recurses := true, plainKeys := false, apart := false, narrowed := true }
def FnExactStateOkUptoSaid : Prop := fnExactStateOkUptoRow.holds Try.pinned (OpenSpec.upto fnExactStateOkSpec)

/-- 'laws.FnExactReadFlag', WHERE WHAT IT READS IS OF BULK AT MOST 1048576: true; the input reads as it did. -/
def fnExactReadFlagUptoRow : OpenClaim := { program := "ytgfgkbmebdaieaa", sum := "0aec289fb43d8187fd464341c2ab7110a0602da1325b52769a42ac6f1586a450", func := "loop.example/s02772/laws.FnExactReadFlag", spec := "fnExactReadFlag", unfollowed := true, recurses := true, plainKeys := false, apart := false, narrowed := true }
def FnExactReadFlagUptoSaid : Prop := fnExactReadFlagUptoRow.holds Try.pinned (OpenSpec.upto fnExactReadFlagSpec)

/-- 'laws.FnExactCovers', WHERE WHAT IT READS IS OF BULK AT MOST 1048576: true; the input reads as it did. -/
def fnExactCoversUptoRow : OpenClaim := { program := "ytgfgkbmebdaieaa", sum := "0aec289fb43d8187fd464341c2ab7110a0602da1325b52769a42ac6f1586a450", func := "loop.example/s02772/laws.FnExactCovers", spec := "fnExactCovers", unfollowed := true, recurses := true, plainKeys := false, apart := false, narrowed := true }
def FnExactCoversUptoSaid : Prop := fnExactCoversUptoRow.holds Try.pinned (OpenSpec.upto fnExactCoversSpec)

/-- 'laws.FnExactUnion', WHERE WHAT IT READS IS OF BULK AT MOST 1048576: true; the input reads as it did. -/
def fnExactUnionUptoRow : OpenClaim := { program := "ytgfgkbmebdaieaa", sum := "0aec289fb43d8187fd464341c2ab7110a0602da1325b52769a42ac6f1586a450", func := "loop.example/s02772/laws.FnExactUnion", spec := "fnExactUnion", unfollowed := true, recurses := true, plainKeys := false, apart := false, narrowed := true }
def FnExactUnionUptoSaid : Prop := fnExactUnionUptoRow.holds Try.pinned (OpenSpec.upto fnExactUnionSpec)

/-- 'laws.FnExactAddDot', WHERE WHAT IT READS IS OF BULK AT MOST 1048576: true; the input reads as it did. -/
def fnExactAddDotUptoRow : OpenClaim := { program := "ytgfgkbmebdaieaa", sum := "0aec289fb43d8187fd464341c2ab7110a0602da1325b52769a42ac6f1586a450", func := "loop.example/s02772/laws.FnExactAddDot", spec := "fnExactAddDot", unfollowed := true, recurses := true, plainKeys := false, apart := false, narrowed := true }
def FnExactAddDotUptoSaid : Prop := fnExactAddDotUptoRow.holds Try.pinned (OpenSpec.upto fnExactAddDotSpec)

/-- 'laws.FnExactReplicaOk', WHERE WHAT IT READS IS OF BULK AT MOST 1048576: true; the input reads as it did. -/
def fnExactReplicaOkUptoRow : OpenClaim := { program := "ytgfgkbmebdaieaa", sum := "0aec289fb43d8187fd464341c2ab7110a0602da1325b52769a42ac6f1586a450", func := "loop.example/s02772/laws.FnExactReplicaOk", spec := "fnExactReplicaOk", unfollowed := true, recurses := true, plainKeys := false, apart := false, narrowed := true }
def FnExactReplicaOkUptoSaid : Prop := fnExactReplicaOkUptoRow.holds Try.pinned (OpenSpec.upto fnExactReplicaOkSpec)

/-- 'laws.FnExactPutState', WHERE WHAT IT READS IS OF BULK AT MOST 1048576: true; the input reads as it did. -/
def fnExactPutStateUptoRow : OpenClaim := { program := "ytgfgkbmebdaieaa", sum := "0aec289fb43d8187fd464341c2ab7110a0602da1325b52769a42ac6f1586a450", func := "loop.example/s02772/laws.FnExactPutState", spec := "fnExactPutState", unfollowed := true, recurses := true, plainKeys := false, apart := false, narrowed := true }
def FnExactPutStateUptoSaid : Prop := fnExactPutStateUptoRow.holds Try.pinned (OpenSpec.upto fnExactPutStateSpec)

/-- 'laws.FnExactReadReg', WHERE WHAT IT READS IS OF BULK AT MOST 1048576: true; the input reads as it did. -/
def fnExactReadRegUptoRow : OpenClaim := { program := "ytgfgkbmebdaieaa", sum := "0aec289fb43d8187fd464341c2ab7110a0602da1325b52769a42ac6f1586a450", func := "loop.example/s02772/laws.FnExactReadReg", spec := "fnExactReadReg", unfollowed := true, recurses := true, plainKeys := false, apart := false, narrowed := true }
def FnExactReadRegUptoSaid : Prop := fnExactReadRegUptoRow.holds Try.pinned (OpenSpec.upto fnExactReadRegSpec)

end Rows
end Go.Proofs.Ytgfgkbmebdaieaa
