/-
  No cell of these rows narrows 'for every input' (looked for: loops, veiled, ifaces, maps, wideKeys, modest, calm, conditions, laid).
  DERIVED. THE GIVEN ROWS OF THIS SEAT. 23 by the template 'for every input the law returns true; each argument reads behind the call as it read before'; 0 by the template 'total and deterministic' (their statements: YtghpideinaaofaaTotals.lean).
  GIVEN WITH THE SEED: the statements are not yours to turn. If you find one false, say at which input.
  Laid BY PROGRAM, IN A SANDBOX (cutbox-rows.mjs): the forced cells as the released guide's own fill.sh prints them over the translation cb694cc6e01ef73c… (all of the seat's roots in one cut). By AI agents, Wed Nov 11 2026. No macro, syntax, notation, axiom, sorry.
-/
import Derived.Test.YtghpideinaaofaaChecked
import GoSem.Claim
import GoSem.ClaimJoined
import GoSem.ClaimMapViews
import Derived.JoinedTies
import Derived.KernelRfl
namespace Go.Proofs.Ytghpideinaaofaa
/- THE CELL 'sum', in the pinned program and in every row, IS THE sha256 OF THE DUMP (.gsa) THAT YtghpideinaaofaaProg.lean LOADS. Nothing in Lean hashes anything: it is a label: what it is worth is what the hold of that sum in a sandbox is worth. -/
noncomputable def Try.pinned : Pinned := { name := "ytghpideinaaofaa", sum := "cb694cc6e01ef73c45df280d8fb967127cec1467d03f1de726d478882e463f5a", checked := Try.checked }
namespace Rows
def none {H : Type} : Left H := { results := [], args := [] }

/-- 'laws.FnExactConstants': WHATEVER THE INPUT: true; the input reads as it did. -/
def fnExactConstantsSpec : ChangeSpec := { name := "fnExactConstants", fn := fun _ => fun
  | [] => { results := [.lit (.bool true)], args := [] }
  | _ => none }
def fnExactConstantsRow : OpenClaim := { program := "ytghpideinaaofaa", sum := "cb694cc6e01ef73c45df280d8fb967127cec1467d03f1de726d478882e463f5a", func := "loop.example/s02772/laws.FnExactConstants", spec := "fnExactConstants", plainKeys := false, apart := false }
def FnExactConstantsSaid : Prop := fnExactConstantsRow.holds Try.pinned (OpenSpec.ofChange fnExactConstantsSpec)

/-- ITS FALSE NEIGHBOUR: 'it returns false'. Refute it at one input. -/
def fnExactConstantsWrong : ChangeSpec := { name := "fnExactConstants", fn := fun _ => fun
  | [] => { results := [.lit (.bool false)], args := [] }
  | _ => none }
def FnExactConstantsWrongFalsely : Prop := fnExactConstantsRow.holds Try.pinned (OpenSpec.ofChange fnExactConstantsWrong)

/-- 'laws.FnExactDigest': WHATEVER THE INPUT: true; the input reads as it did. -/
def fnExactDigestSpec : ChangeSpec := { name := "fnExactDigest", fn := fun _ => fun
  | [d] => { results := [.lit (.bool true)], args := [d] }
  | _ => none }
def fnExactDigestRow : OpenClaim := { program := "ytghpideinaaofaa", sum := "cb694cc6e01ef73c45df280d8fb967127cec1467d03f1de726d478882e463f5a", func := "loop.example/s02772/laws.FnExactDigest", spec := "fnExactDigest", plainKeys := false, apart := false }
def FnExactDigestSaid : Prop := fnExactDigestRow.holds Try.pinned (OpenSpec.ofChange fnExactDigestSpec)

/-- ITS FALSE NEIGHBOUR: 'it returns false'. Refute it at one input. -/
def fnExactDigestWrong : ChangeSpec := { name := "fnExactDigest", fn := fun _ => fun
  | [d] => { results := [.lit (.bool false)], args := [d] }
  | _ => none }
def FnExactDigestWrongFalsely : Prop := fnExactDigestRow.holds Try.pinned (OpenSpec.ofChange fnExactDigestWrong)

/-- 'laws.FnExactPutUvarint': WHATEVER THE INPUT: true; the input reads as it did. -/
def fnExactPutUvarintSpec : ChangeSpec := { name := "fnExactPutUvarint", fn := fun _ => fun
  | [d] => { results := [.lit (.bool true)], args := [d] }
  | _ => none }
def fnExactPutUvarintRow : OpenClaim := { program := "ytghpideinaaofaa", sum := "cb694cc6e01ef73c45df280d8fb967127cec1467d03f1de726d478882e463f5a", func := "loop.example/s02772/laws.FnExactPutUvarint", spec := "fnExactPutUvarint", recurses := true, plainKeys := false, apart := false }
def FnExactPutUvarintSaid : Prop := fnExactPutUvarintRow.holds Try.pinned (OpenSpec.ofChange fnExactPutUvarintSpec)

/-- ITS FALSE NEIGHBOUR: 'it returns false'. Refute it at one input. -/
def fnExactPutUvarintWrong : ChangeSpec := { name := "fnExactPutUvarint", fn := fun _ => fun
  | [d] => { results := [.lit (.bool false)], args := [d] }
  | _ => none }
def FnExactPutUvarintWrongFalsely : Prop := fnExactPutUvarintRow.holds Try.pinned (OpenSpec.ofChange fnExactPutUvarintWrong)

/-- 'laws.FnExactPutText': WHATEVER THE INPUT: true; the input reads as it did. -/
def fnExactPutTextSpec : ChangeSpec := { name := "fnExactPutText", fn := fun _ => fun
  | [d] => { results := [.lit (.bool true)], args := [d] }
  | _ => none }
def fnExactPutTextRow : OpenClaim := { program := "ytghpideinaaofaa", sum := "cb694cc6e01ef73c45df280d8fb967127cec1467d03f1de726d478882e463f5a", func := "loop.example/s02772/laws.FnExactPutText", spec := "fnExactPutText", recurses := true, plainKeys := false, apart := false }
def FnExactPutTextSaid : Prop := fnExactPutTextRow.holds Try.pinned (OpenSpec.ofChange fnExactPutTextSpec)

/-- ITS FALSE NEIGHBOUR: 'it returns false'. Refute it at one input. -/
def fnExactPutTextWrong : ChangeSpec := { name := "fnExactPutText", fn := fun _ => fun
  | [d] => { results := [.lit (.bool false)], args := [d] }
  | _ => none }
def FnExactPutTextWrongFalsely : Prop := fnExactPutTextRow.holds Try.pinned (OpenSpec.ofChange fnExactPutTextWrong)

/-- 'laws.FnExactCrc32': WHATEVER THE INPUT: true; the input reads as it did. -/
def fnExactCrc32Spec : ChangeSpec := { name := "fnExactCrc32", fn := fun _ => fun
  | [d] => { results := [.lit (.bool true)], args := [d] }
  | _ => none }
def fnExactCrc32Row : OpenClaim := { program := "ytghpideinaaofaa", sum := "cb694cc6e01ef73c45df280d8fb967127cec1467d03f1de726d478882e463f5a", func := "loop.example/s02772/laws.FnExactCrc32", spec := "fnExactCrc32", plainKeys := false, apart := false }
def FnExactCrc32Said : Prop := fnExactCrc32Row.holds Try.pinned (OpenSpec.ofChange fnExactCrc32Spec)

/-- ITS FALSE NEIGHBOUR: 'it returns false'. Refute it at one input. -/
def fnExactCrc32Wrong : ChangeSpec := { name := "fnExactCrc32", fn := fun _ => fun
  | [d] => { results := [.lit (.bool false)], args := [d] }
  | _ => none }
def FnExactCrc32WrongFalsely : Prop := fnExactCrc32Row.holds Try.pinned (OpenSpec.ofChange fnExactCrc32Wrong)

/-- 'laws.FnExactContextOk': WHATEVER THE INPUT: true; the input reads as it did. -/
def fnExactContextOkSpec : ChangeSpec := { name := "fnExactContextOk", fn := fun _ => fun
  | [d] => { results := [.lit (.bool true)], args := [d] }
  | _ => none }
def fnExactContextOkRow : OpenClaim := { program := "ytghpideinaaofaa", sum := "cb694cc6e01ef73c45df280d8fb967127cec1467d03f1de726d478882e463f5a", func := "loop.example/s02772/laws.FnExactContextOk", spec := "fnExactContextOk", plainKeys := false, apart := false }
def FnExactContextOkSaid : Prop := fnExactContextOkRow.holds Try.pinned (OpenSpec.ofChange fnExactContextOkSpec)

/-- ITS FALSE NEIGHBOUR: 'it returns false'. Refute it at one input. -/
def fnExactContextOkWrong : ChangeSpec := { name := "fnExactContextOk", fn := fun _ => fun
  | [d] => { results := [.lit (.bool false)], args := [d] }
  | _ => none }
def FnExactContextOkWrongFalsely : Prop := fnExactContextOkRow.holds Try.pinned (OpenSpec.ofChange fnExactContextOkWrong)

/-- 'laws.FnExactPutFrame': WHATEVER THE INPUT: true; the input reads as it did. -/
def fnExactPutFrameSpec : ChangeSpec := { name := "fnExactPutFrame", fn := fun _ => fun
  | [d] => { results := [.lit (.bool true)], args := [d] }
  | _ => none }
def fnExactPutFrameRow : OpenClaim := { program := "ytghpideinaaofaa", sum := "cb694cc6e01ef73c45df280d8fb967127cec1467d03f1de726d478882e463f5a", func := "loop.example/s02772/laws.FnExactPutFrame", spec := "fnExactPutFrame", recurses := true, plainKeys := false, apart := false }
def FnExactPutFrameSaid : Prop := fnExactPutFrameRow.holds Try.pinned (OpenSpec.ofChange fnExactPutFrameSpec)

/-- ITS FALSE NEIGHBOUR: 'it returns false'. Refute it at one input. -/
def fnExactPutFrameWrong : ChangeSpec := { name := "fnExactPutFrame", fn := fun _ => fun
  | [d] => { results := [.lit (.bool false)], args := [d] }
  | _ => none }
def FnExactPutFrameWrongFalsely : Prop := fnExactPutFrameRow.holds Try.pinned (OpenSpec.ofChange fnExactPutFrameWrong)

/-- 'laws.FnExactNextDot': WHATEVER THE INPUT: true; the input reads as it did. -/
def fnExactNextDotSpec : ChangeSpec := { name := "fnExactNextDot", fn := fun _ => fun
  | [d1, d2] => { results := [.lit (.bool true)], args := [d1, d2] }
  | _ => none }
def fnExactNextDotRow : OpenClaim := { program := "ytghpideinaaofaa", sum := "cb694cc6e01ef73c45df280d8fb967127cec1467d03f1de726d478882e463f5a", func := "loop.example/s02772/laws.FnExactNextDot", spec := "fnExactNextDot", plainKeys := false, apart := false }
def FnExactNextDotSaid : Prop := fnExactNextDotRow.holds Try.pinned (OpenSpec.ofChange fnExactNextDotSpec)

/-- ITS FALSE NEIGHBOUR: 'it returns false'. Refute it at one input. -/
def fnExactNextDotWrong : ChangeSpec := { name := "fnExactNextDot", fn := fun _ => fun
  | [d1, d2] => { results := [.lit (.bool false)], args := [d1, d2] }
  | _ => none }
def FnExactNextDotWrongFalsely : Prop := fnExactNextDotRow.holds Try.pinned (OpenSpec.ofChange fnExactNextDotWrong)

/-- 'laws.FnExactHasDot': WHATEVER THE INPUT: true; the input reads as it did. -/
def fnExactHasDotSpec : ChangeSpec := { name := "fnExactHasDot", fn := fun _ => fun
  | [d1, d2] => { results := [.lit (.bool true)], args := [d1, d2] }
  | _ => none }
def fnExactHasDotRow : OpenClaim := { program := "ytghpideinaaofaa", sum := "cb694cc6e01ef73c45df280d8fb967127cec1467d03f1de726d478882e463f5a", func := "loop.example/s02772/laws.FnExactHasDot", spec := "fnExactHasDot", unfollowed := true, recurses := true, plainKeys := false, apart := false }
def FnExactHasDotSaid : Prop := fnExactHasDotRow.holds Try.pinned (OpenSpec.ofChange fnExactHasDotSpec)

/-- ITS FALSE NEIGHBOUR: 'it returns false'. Refute it at one input. -/
def fnExactHasDotWrong : ChangeSpec := { name := "fnExactHasDot", fn := fun _ => fun
  | [d1, d2] => { results := [.lit (.bool false)], args := [d1, d2] }
  | _ => none }
def FnExactHasDotWrongFalsely : Prop := fnExactHasDotRow.holds Try.pinned (OpenSpec.ofChange fnExactHasDotWrong)

/-- 'laws.FnExactPutContext': WHATEVER THE INPUT: true; the input reads as it did. -/
def fnExactPutContextSpec : ChangeSpec := { name := "fnExactPutContext", fn := fun _ => fun
  | [d] => { results := [.lit (.bool true)], args := [d] }
  | _ => none }
def fnExactPutContextRow : OpenClaim := { program := "ytghpideinaaofaa", sum := "cb694cc6e01ef73c45df280d8fb967127cec1467d03f1de726d478882e463f5a", func := "loop.example/s02772/laws.FnExactPutContext", spec := "fnExactPutContext", recurses := true, plainKeys := false, apart := false }
def FnExactPutContextSaid : Prop := fnExactPutContextRow.holds Try.pinned (OpenSpec.ofChange fnExactPutContextSpec)

/-- ITS FALSE NEIGHBOUR: 'it returns false'. Refute it at one input. -/
def fnExactPutContextWrong : ChangeSpec := { name := "fnExactPutContext", fn := fun _ => fun
  | [d] => { results := [.lit (.bool false)], args := [d] }
  | _ => none }
def FnExactPutContextWrongFalsely : Prop := fnExactPutContextRow.holds Try.pinned (OpenSpec.ofChange fnExactPutContextWrong)

/-- 'laws.FnExactNewReplica': WHATEVER THE INPUT: true; the input reads as it did. -/
def fnExactNewReplicaSpec : ChangeSpec := { name := "fnExactNewReplica", fn := fun _ => fun
  | [d] => { results := [.lit (.bool true)], args := [d] }
  | _ => none }
def fnExactNewReplicaRow : OpenClaim := { program := "ytghpideinaaofaa", sum := "cb694cc6e01ef73c45df280d8fb967127cec1467d03f1de726d478882e463f5a", func := "loop.example/s02772/laws.FnExactNewReplica", spec := "fnExactNewReplica", plainKeys := false, apart := false }
def FnExactNewReplicaSaid : Prop := fnExactNewReplicaRow.holds Try.pinned (OpenSpec.ofChange fnExactNewReplicaSpec)

/-- ITS FALSE NEIGHBOUR: 'it returns false'. Refute it at one input. -/
def fnExactNewReplicaWrong : ChangeSpec := { name := "fnExactNewReplica", fn := fun _ => fun
  | [d] => { results := [.lit (.bool false)], args := [d] }
  | _ => none }
def FnExactNewReplicaWrongFalsely : Prop := fnExactNewReplicaRow.holds Try.pinned (OpenSpec.ofChange fnExactNewReplicaWrong)

/-- 'laws.FnExactStateOk': WHATEVER THE INPUT: true; the input reads as it did. -/
def fnExactStateOkSpec : ChangeSpec := { name := "fnExactStateOk", fn := fun _ => fun
  | [d] => { results := [.lit (.bool true)], args := [d] }
  | _ => none }
def fnExactStateOkRow : OpenClaim := { program := "ytghpideinaaofaa", sum := "cb694cc6e01ef73c45df280d8fb967127cec1467d03f1de726d478882e463f5a", func := "loop.example/s02772/laws.FnExactStateOk", spec := "fnExactStateOk", unfollowed := true, recurses := true, plainKeys := false, apart := false }
def FnExactStateOkSaid : Prop := fnExactStateOkRow.holds Try.pinned (OpenSpec.ofChange fnExactStateOkSpec)

/-- ITS FALSE NEIGHBOUR: 'it returns false'. Refute it at one input. -/
def fnExactStateOkWrong : ChangeSpec := { name := "fnExactStateOk", fn := fun _ => fun
  | [d] => { results := [.lit (.bool false)], args := [d] }
  | _ => none }
def FnExactStateOkWrongFalsely : Prop := fnExactStateOkRow.holds Try.pinned (OpenSpec.ofChange fnExactStateOkWrong)

/-- 'laws.FnExactNewWorld': WHATEVER THE INPUT: true; the input reads as it did. -/
def fnExactNewWorldSpec : ChangeSpec := { name := "fnExactNewWorld", fn := fun _ => fun
  | [d] => { results := [.lit (.bool true)], args := [d] }
  | _ => none }
def fnExactNewWorldRow : OpenClaim := { program := "ytghpideinaaofaa", sum := "cb694cc6e01ef73c45df280d8fb967127cec1467d03f1de726d478882e463f5a", func := "loop.example/s02772/laws.FnExactNewWorld", spec := "fnExactNewWorld", plainKeys := false, apart := false }
def FnExactNewWorldSaid : Prop := fnExactNewWorldRow.holds Try.pinned (OpenSpec.ofChange fnExactNewWorldSpec)

/-- ITS FALSE NEIGHBOUR: 'it returns false'. Refute it at one input. -/
def fnExactNewWorldWrong : ChangeSpec := { name := "fnExactNewWorld", fn := fun _ => fun
  | [d] => { results := [.lit (.bool false)], args := [d] }
  | _ => none }
def FnExactNewWorldWrongFalsely : Prop := fnExactNewWorldRow.holds Try.pinned (OpenSpec.ofChange fnExactNewWorldWrong)

/-- 'laws.FnExactReadFlag': WHATEVER THE INPUT: true; the input reads as it did. -/
def fnExactReadFlagSpec : ChangeSpec := { name := "fnExactReadFlag", fn := fun _ => fun
  | [d1, d2] => { results := [.lit (.bool true)], args := [d1, d2] }
  | _ => none }
def fnExactReadFlagRow : OpenClaim := { program := "ytghpideinaaofaa", sum := "cb694cc6e01ef73c45df280d8fb967127cec1467d03f1de726d478882e463f5a", func := "loop.example/s02772/laws.FnExactReadFlag", spec := "fnExactReadFlag", unfollowed := true, recurses := true, plainKeys := false, apart := false }
def FnExactReadFlagSaid : Prop := fnExactReadFlagRow.holds Try.pinned (OpenSpec.ofChange fnExactReadFlagSpec)

/-- ITS FALSE NEIGHBOUR: 'it returns false'. Refute it at one input. -/
def fnExactReadFlagWrong : ChangeSpec := { name := "fnExactReadFlag", fn := fun _ => fun
  | [d1, d2] => { results := [.lit (.bool false)], args := [d1, d2] }
  | _ => none }
def FnExactReadFlagWrongFalsely : Prop := fnExactReadFlagRow.holds Try.pinned (OpenSpec.ofChange fnExactReadFlagWrong)

/-- 'laws.FnExactCovers': WHATEVER THE INPUT: true; the input reads as it did. -/
def fnExactCoversSpec : ChangeSpec := { name := "fnExactCovers", fn := fun _ => fun
  | [d1, d2] => { results := [.lit (.bool true)], args := [d1, d2] }
  | _ => none }
def fnExactCoversRow : OpenClaim := { program := "ytghpideinaaofaa", sum := "cb694cc6e01ef73c45df280d8fb967127cec1467d03f1de726d478882e463f5a", func := "loop.example/s02772/laws.FnExactCovers", spec := "fnExactCovers", unfollowed := true, recurses := true, plainKeys := false, apart := false }
def FnExactCoversSaid : Prop := fnExactCoversRow.holds Try.pinned (OpenSpec.ofChange fnExactCoversSpec)

/-- ITS FALSE NEIGHBOUR: 'it returns false'. Refute it at one input. -/
def fnExactCoversWrong : ChangeSpec := { name := "fnExactCovers", fn := fun _ => fun
  | [d1, d2] => { results := [.lit (.bool false)], args := [d1, d2] }
  | _ => none }
def FnExactCoversWrongFalsely : Prop := fnExactCoversRow.holds Try.pinned (OpenSpec.ofChange fnExactCoversWrong)

/-- 'laws.FnExactUnion': WHATEVER THE INPUT: true; the input reads as it did. -/
def fnExactUnionSpec : ChangeSpec := { name := "fnExactUnion", fn := fun _ => fun
  | [d1, d2] => { results := [.lit (.bool true)], args := [d1, d2] }
  | _ => none }
def fnExactUnionRow : OpenClaim := { program := "ytghpideinaaofaa", sum := "cb694cc6e01ef73c45df280d8fb967127cec1467d03f1de726d478882e463f5a", func := "loop.example/s02772/laws.FnExactUnion", spec := "fnExactUnion", unfollowed := true, recurses := true, plainKeys := false, apart := false }
def FnExactUnionSaid : Prop := fnExactUnionRow.holds Try.pinned (OpenSpec.ofChange fnExactUnionSpec)

/-- ITS FALSE NEIGHBOUR: 'it returns false'. Refute it at one input. -/
def fnExactUnionWrong : ChangeSpec := { name := "fnExactUnion", fn := fun _ => fun
  | [d1, d2] => { results := [.lit (.bool false)], args := [d1, d2] }
  | _ => none }
def FnExactUnionWrongFalsely : Prop := fnExactUnionRow.holds Try.pinned (OpenSpec.ofChange fnExactUnionWrong)

/-- 'laws.FnExactAddDot': WHATEVER THE INPUT: true; the input reads as it did. -/
def fnExactAddDotSpec : ChangeSpec := { name := "fnExactAddDot", fn := fun _ => fun
  | [d1, d2] => { results := [.lit (.bool true)], args := [d1, d2] }
  | _ => none }
def fnExactAddDotRow : OpenClaim := { program := "ytghpideinaaofaa", sum := "cb694cc6e01ef73c45df280d8fb967127cec1467d03f1de726d478882e463f5a", func := "loop.example/s02772/laws.FnExactAddDot", spec := "fnExactAddDot", unfollowed := true, recurses := true, plainKeys := false, apart := false }
def FnExactAddDotSaid : Prop := fnExactAddDotRow.holds Try.pinned (OpenSpec.ofChange fnExactAddDotSpec)

/-- ITS FALSE NEIGHBOUR: 'it returns false'. Refute it at one input. -/
def fnExactAddDotWrong : ChangeSpec := { name := "fnExactAddDot", fn := fun _ => fun
  | [d1, d2] => { results := [.lit (.bool false)], args := [d1, d2] }
  | _ => none }
def FnExactAddDotWrongFalsely : Prop := fnExactAddDotRow.holds Try.pinned (OpenSpec.ofChange fnExactAddDotWrong)

/-- 'laws.FnExactReplicaOk': WHATEVER THE INPUT: true; the input reads as it did. -/
def fnExactReplicaOkSpec : ChangeSpec := { name := "fnExactReplicaOk", fn := fun _ => fun
  | [d] => { results := [.lit (.bool true)], args := [d] }
  | _ => none }
def fnExactReplicaOkRow : OpenClaim := { program := "ytghpideinaaofaa", sum := "cb694cc6e01ef73c45df280d8fb967127cec1467d03f1de726d478882e463f5a", func := "loop.example/s02772/laws.FnExactReplicaOk", spec := "fnExactReplicaOk", unfollowed := true, recurses := true, plainKeys := false, apart := false }
def FnExactReplicaOkSaid : Prop := fnExactReplicaOkRow.holds Try.pinned (OpenSpec.ofChange fnExactReplicaOkSpec)

/-- ITS FALSE NEIGHBOUR: 'it returns false'. Refute it at one input. -/
def fnExactReplicaOkWrong : ChangeSpec := { name := "fnExactReplicaOk", fn := fun _ => fun
  | [d] => { results := [.lit (.bool false)], args := [d] }
  | _ => none }
def FnExactReplicaOkWrongFalsely : Prop := fnExactReplicaOkRow.holds Try.pinned (OpenSpec.ofChange fnExactReplicaOkWrong)

/-- 'laws.FnExactPutState': WHATEVER THE INPUT: true; the input reads as it did. -/
def fnExactPutStateSpec : ChangeSpec := { name := "fnExactPutState", fn := fun _ => fun
  | [d] => { results := [.lit (.bool true)], args := [d] }
  | _ => none }
def fnExactPutStateRow : OpenClaim := { program := "ytghpideinaaofaa", sum := "cb694cc6e01ef73c45df280d8fb967127cec1467d03f1de726d478882e463f5a", func := "loop.example/s02772/laws.FnExactPutState", spec := "fnExactPutState", unfollowed := true, recurses := true, plainKeys := false, apart := false }
def FnExactPutStateSaid : Prop := fnExactPutStateRow.holds Try.pinned (OpenSpec.ofChange fnExactPutStateSpec)

/-- ITS FALSE NEIGHBOUR: 'it returns false'. Refute it at one input. -/
def fnExactPutStateWrong : ChangeSpec := { name := "fnExactPutState", fn := fun _ => fun
  | [d] => { results := [.lit (.bool false)], args := [d] }
  | _ => none }
def FnExactPutStateWrongFalsely : Prop := fnExactPutStateRow.holds Try.pinned (OpenSpec.ofChange fnExactPutStateWrong)

/-- 'laws.FnExactWhole': WHATEVER THE INPUT: true; the input reads as it did. -/
def fnExactWholeSpec : ChangeSpec := { name := "fnExactWhole", fn := fun _ => fun
  | [d] => { results := [.lit (.bool true)], args := [d] }
  | _ => none }
def fnExactWholeRow : OpenClaim := { program := "ytghpideinaaofaa", sum := "cb694cc6e01ef73c45df280d8fb967127cec1467d03f1de726d478882e463f5a", func := "loop.example/s02772/laws.FnExactWhole", spec := "fnExactWhole", unfollowed := true, recurses := true, plainKeys := false, apart := false }
def FnExactWholeSaid : Prop := fnExactWholeRow.holds Try.pinned (OpenSpec.ofChange fnExactWholeSpec)

/-- ITS FALSE NEIGHBOUR: 'it returns false'. Refute it at one input. -/
def fnExactWholeWrong : ChangeSpec := { name := "fnExactWhole", fn := fun _ => fun
  | [d] => { results := [.lit (.bool false)], args := [d] }
  | _ => none }
def FnExactWholeWrongFalsely : Prop := fnExactWholeRow.holds Try.pinned (OpenSpec.ofChange fnExactWholeWrong)

/-- 'laws.FnExactHello': WHATEVER THE INPUT: true; the input reads as it did. -/
def fnExactHelloSpec : ChangeSpec := { name := "fnExactHello", fn := fun _ => fun
  | [d] => { results := [.lit (.bool true)], args := [d] }
  | _ => none }
def fnExactHelloRow : OpenClaim := { program := "ytghpideinaaofaa", sum := "cb694cc6e01ef73c45df280d8fb967127cec1467d03f1de726d478882e463f5a", func := "loop.example/s02772/laws.FnExactHello", spec := "fnExactHello", unfollowed := true, recurses := true, plainKeys := false, apart := false }
def FnExactHelloSaid : Prop := fnExactHelloRow.holds Try.pinned (OpenSpec.ofChange fnExactHelloSpec)

/-- ITS FALSE NEIGHBOUR: 'it returns false'. Refute it at one input. -/
def fnExactHelloWrong : ChangeSpec := { name := "fnExactHello", fn := fun _ => fun
  | [d] => { results := [.lit (.bool false)], args := [d] }
  | _ => none }
def FnExactHelloWrongFalsely : Prop := fnExactHelloRow.holds Try.pinned (OpenSpec.ofChange fnExactHelloWrong)

/-- 'laws.FnExactReadReg': WHATEVER THE INPUT: true; the input reads as it did. -/
def fnExactReadRegSpec : ChangeSpec := { name := "fnExactReadReg", fn := fun _ => fun
  | [d1, d2] => { results := [.lit (.bool true)], args := [d1, d2] }
  | _ => none }
def fnExactReadRegRow : OpenClaim := { program := "ytghpideinaaofaa", sum := "cb694cc6e01ef73c45df280d8fb967127cec1467d03f1de726d478882e463f5a", func := "loop.example/s02772/laws.FnExactReadReg", spec := "fnExactReadReg", unfollowed := true, recurses := true, plainKeys := false, apart := false }
def FnExactReadRegSaid : Prop := fnExactReadRegRow.holds Try.pinned (OpenSpec.ofChange fnExactReadRegSpec)

/-- ITS FALSE NEIGHBOUR: 'it returns false'. Refute it at one input. -/
def fnExactReadRegWrong : ChangeSpec := { name := "fnExactReadReg", fn := fun _ => fun
  | [d1, d2] => { results := [.lit (.bool false)], args := [d1, d2] }
  | _ => none }
def FnExactReadRegWrongFalsely : Prop := fnExactReadRegRow.holds Try.pinned (OpenSpec.ofChange fnExactReadRegWrong)

/-- 'laws.FnExactKeys': WHATEVER THE INPUT: true; the input reads as it did. -/
def fnExactKeysSpec : ChangeSpec := { name := "fnExactKeys", fn := fun _ => fun
  | [d1, d2] => { results := [.lit (.bool true)], args := [d1, d2] }
  | _ => none }
def fnExactKeysRow : OpenClaim := { program := "ytghpideinaaofaa", sum := "cb694cc6e01ef73c45df280d8fb967127cec1467d03f1de726d478882e463f5a", func := "loop.example/s02772/laws.FnExactKeys", spec := "fnExactKeys", inPlace := ["internal/bytealg.abigen_runtime_cmpstring"], unfollowed := true, recurses := true, plainKeys := false, apart := false }
def FnExactKeysSaid : Prop := fnExactKeysRow.holds Try.pinned (OpenSpec.ofChange fnExactKeysSpec)

/-- ITS FALSE NEIGHBOUR: 'it returns false'. Refute it at one input. -/
def fnExactKeysWrong : ChangeSpec := { name := "fnExactKeys", fn := fun _ => fun
  | [d1, d2] => { results := [.lit (.bool false)], args := [d1, d2] }
  | _ => none }
def FnExactKeysWrongFalsely : Prop := fnExactKeysRow.holds Try.pinned (OpenSpec.ofChange fnExactKeysWrong)

/- THE SECOND FORM. 'bulk': how many values and letters a reading holds, each counted each time it is reached (what is shared counts as often as it is met; a slice's spare places count too). A statement '..UptoSaid' is the law's where the arguments, and the package variables that the reading takes, are together of bulk at most 1048576: NARROWER than '..Said'. Prove '..Said' where nothing that the law and all that it calls make is longer than what came in: it says more and counts as full. Else prove '..UptoSaid'. A law counts once. -/
mutual
def uptoBulk {H : Type} : DataW H → Nat
  | .lit (.string bytes) => bytes.length + 1
  | .lit _ => 1
  | .nil => 1
  | .ptr d => uptoBulk d + 1
  | .slice elems spare => uptoBulkAll elems + uptoBulkAll spare + 1
  | .agg parts => uptoBulkAll parts + 1
  | .iface _ d => uptoBulk d + 1
  | .map entries => uptoBulkEntries entries + 1
  | .held _ => 1
def uptoBulkAll {H : Type} : List (DataW H) → Nat
  | [] => 0
  | d :: r => uptoBulk d + uptoBulkAll r
def uptoBulkEntries {H : Type} : List (Lit × DataW H) → Nat
  | [] => 0
  | x :: r => uptoBulkEntry x + uptoBulkEntries r
def uptoBulkEntry {H : Type} : Lit × DataW H → Nat
  | (.string bytes, d) => bytes.length + uptoBulk d + 1
  | (_, d) => uptoBulk d + 1
 end
def uptoSmall : (H : Type) → List (DataW H) → Bool := fun _ ds => decide (uptoBulkAll ds ≤ 1048576)
def OpenSpec.upto (s : _root_.Go.ChangeSpec) : _root_.Go.OpenSpec := { _root_.Go.OpenSpec.ofChange s with cond := some uptoSmall }

/-- 'laws.FnExactConstants', WHERE WHAT IT READS IS OF BULK AT MOST 1048576: true; the input reads as it did. -/
def fnExactConstantsUptoRow : OpenClaim := { program := "ytghpideinaaofaa", sum := "cb694cc6e01ef73c45df280d8fb967127cec1467d03f1de726d478882e463f5a", func := "loop.example/s02772/laws.FnExactConstants", spec := "fnExactConstants", plainKeys := false, apart := false, narrowed := true }
def FnExactConstantsUptoSaid : Prop := fnExactConstantsUptoRow.holds Try.pinned (OpenSpec.upto fnExactConstantsSpec)

/-- 'laws.FnExactDigest', WHERE WHAT IT READS IS OF BULK AT MOST 1048576: true; the input reads as it did. -/
def fnExactDigestUptoRow : OpenClaim := { program := "ytghpideinaaofaa", sum := "cb694cc6e01ef73c45df280d8fb967127cec1467d03f1de726d478882e463f5a", func := "loop.example/s02772/laws.FnExactDigest", spec := "fnExactDigest", plainKeys := false, apart := false, narrowed := true }
def FnExactDigestUptoSaid : Prop := fnExactDigestUptoRow.holds Try.pinned (OpenSpec.upto fnExactDigestSpec)

/-- 'laws.FnExactPutUvarint', WHERE WHAT IT READS IS OF BULK AT MOST 1048576: true; the input reads as it did. -/
def fnExactPutUvarintUptoRow : OpenClaim := { program := "ytghpideinaaofaa", sum := "cb694cc6e01ef73c45df280d8fb967127cec1467d03f1de726d478882e463f5a", func := "loop.example/s02772/laws.FnExactPutUvarint", spec := "fnExactPutUvarint", recurses := true, plainKeys := false, apart := false, narrowed := true }
def FnExactPutUvarintUptoSaid : Prop := fnExactPutUvarintUptoRow.holds Try.pinned (OpenSpec.upto fnExactPutUvarintSpec)

/-- 'laws.FnExactPutText', WHERE WHAT IT READS IS OF BULK AT MOST 1048576: true; the input reads as it did. -/
def fnExactPutTextUptoRow : OpenClaim := { program := "ytghpideinaaofaa", sum := "cb694cc6e01ef73c45df280d8fb967127cec1467d03f1de726d478882e463f5a", func := "loop.example/s02772/laws.FnExactPutText", spec := "fnExactPutText", recurses := true, plainKeys := false, apart := false, narrowed := true }
def FnExactPutTextUptoSaid : Prop := fnExactPutTextUptoRow.holds Try.pinned (OpenSpec.upto fnExactPutTextSpec)

/-- 'laws.FnExactCrc32', WHERE WHAT IT READS IS OF BULK AT MOST 1048576: true; the input reads as it did. -/
def fnExactCrc32UptoRow : OpenClaim := { program := "ytghpideinaaofaa", sum := "cb694cc6e01ef73c45df280d8fb967127cec1467d03f1de726d478882e463f5a", func := "loop.example/s02772/laws.FnExactCrc32", spec := "fnExactCrc32", plainKeys := false, apart := false, narrowed := true }
def FnExactCrc32UptoSaid : Prop := fnExactCrc32UptoRow.holds Try.pinned (OpenSpec.upto fnExactCrc32Spec)

/-- 'laws.FnExactContextOk', WHERE WHAT IT READS IS OF BULK AT MOST 1048576: true; the input reads as it did. -/
def fnExactContextOkUptoRow : OpenClaim := { program := "ytghpideinaaofaa", sum := "cb694cc6e01ef73c45df280d8fb967127cec1467d03f1de726d478882e463f5a", func := "loop.example/s02772/laws.FnExactContextOk", spec := "fnExactContextOk", plainKeys := false, apart := false, narrowed := true }
def FnExactContextOkUptoSaid : Prop := fnExactContextOkUptoRow.holds Try.pinned (OpenSpec.upto fnExactContextOkSpec)

/-- 'laws.FnExactPutFrame', WHERE WHAT IT READS IS OF BULK AT MOST 1048576: true; the input reads as it did. -/
def fnExactPutFrameUptoRow : OpenClaim := { program := "ytghpideinaaofaa", sum := "cb694cc6e01ef73c45df280d8fb967127cec1467d03f1de726d478882e463f5a", func := "loop.example/s02772/laws.FnExactPutFrame", spec := "fnExactPutFrame", recurses := true, plainKeys := false, apart := false, narrowed := true }
def FnExactPutFrameUptoSaid : Prop := fnExactPutFrameUptoRow.holds Try.pinned (OpenSpec.upto fnExactPutFrameSpec)

/-- 'laws.FnExactNextDot', WHERE WHAT IT READS IS OF BULK AT MOST 1048576: true; the input reads as it did. -/
def fnExactNextDotUptoRow : OpenClaim := { program := "ytghpideinaaofaa", sum := "cb694cc6e01ef73c45df280d8fb967127cec1467d03f1de726d478882e463f5a", func := "loop.example/s02772/laws.FnExactNextDot", spec := "fnExactNextDot", plainKeys := false, apart := false, narrowed := true }
def FnExactNextDotUptoSaid : Prop := fnExactNextDotUptoRow.holds Try.pinned (OpenSpec.upto fnExactNextDotSpec)

/-- 'laws.FnExactHasDot', WHERE WHAT IT READS IS OF BULK AT MOST 1048576: true; the input reads as it did. -/
def fnExactHasDotUptoRow : OpenClaim := { program := "ytghpideinaaofaa", sum := "cb694cc6e01ef73c45df280d8fb967127cec1467d03f1de726d478882e463f5a", func := "loop.example/s02772/laws.FnExactHasDot", spec := "fnExactHasDot", unfollowed := true, recurses := true, plainKeys := false, apart := false, narrowed := true }
def FnExactHasDotUptoSaid : Prop := fnExactHasDotUptoRow.holds Try.pinned (OpenSpec.upto fnExactHasDotSpec)

/-- 'laws.FnExactPutContext', WHERE WHAT IT READS IS OF BULK AT MOST 1048576: true; the input reads as it did. -/
def fnExactPutContextUptoRow : OpenClaim := { program := "ytghpideinaaofaa", sum := "cb694cc6e01ef73c45df280d8fb967127cec1467d03f1de726d478882e463f5a", func := "loop.example/s02772/laws.FnExactPutContext", spec := "fnExactPutContext", recurses := true, plainKeys := false, apart := false, narrowed := true }
def FnExactPutContextUptoSaid : Prop := fnExactPutContextUptoRow.holds Try.pinned (OpenSpec.upto fnExactPutContextSpec)

/-- 'laws.FnExactNewReplica', WHERE WHAT IT READS IS OF BULK AT MOST 1048576: true; the input reads as it did. -/
def fnExactNewReplicaUptoRow : OpenClaim := { program := "ytghpideinaaofaa", sum := "cb694cc6e01ef73c45df280d8fb967127cec1467d03f1de726d478882e463f5a", func := "loop.example/s02772/laws.FnExactNewReplica", spec := "fnExactNewReplica", plainKeys := false, apart := false, narrowed := true }
def FnExactNewReplicaUptoSaid : Prop := fnExactNewReplicaUptoRow.holds Try.pinned (OpenSpec.upto fnExactNewReplicaSpec)

/-- 'laws.FnExactStateOk', WHERE WHAT IT READS IS OF BULK AT MOST 1048576: true; the input reads as it did. -/
def fnExactStateOkUptoRow : OpenClaim := { program := "ytghpideinaaofaa", sum := "cb694cc6e01ef73c45df280d8fb967127cec1467d03f1de726d478882e463f5a", func := "loop.example/s02772/laws.FnExactStateOk", spec := "fnExactStateOk", unfollowed := true, recurses := true, plainKeys := false, apart := false, narrowed := true }
def FnExactStateOkUptoSaid : Prop := fnExactStateOkUptoRow.holds Try.pinned (OpenSpec.upto fnExactStateOkSpec)

/-- 'laws.FnExactNewWorld', WHERE WHAT IT READS IS OF BULK AT MOST 1048576: true; the input reads as it did. -/
def fnExactNewWorldUptoRow : OpenClaim := { program := "ytghpideinaaofaa", sum := "cb694cc6e01ef73c45df280d8fb967127cec1467d03f1de726d478882e463f5a", func := "loop.example/s02772/laws.FnExactNewWorld", spec := "fnExactNewWorld", plainKeys := false, apart := false, narrowed := true }
def FnExactNewWorldUptoSaid : Prop := fnExactNewWorldUptoRow.holds Try.pinned (OpenSpec.upto fnExactNewWorldSpec)

/-- 'laws.FnExactReadFlag', WHERE WHAT IT READS IS OF BULK AT MOST 1048576: true; the input reads as it did. -/
def fnExactReadFlagUptoRow : OpenClaim := { program := "ytghpideinaaofaa", sum := "cb694cc6e01ef73c45df280d8fb967127cec1467d03f1de726d478882e463f5a", func := "loop.example/s02772/laws.FnExactReadFlag", spec := "fnExactReadFlag", unfollowed := true, recurses := true, plainKeys := false, apart := false, narrowed := true }
def FnExactReadFlagUptoSaid : Prop := fnExactReadFlagUptoRow.holds Try.pinned (OpenSpec.upto fnExactReadFlagSpec)

/-- 'laws.FnExactCovers', WHERE WHAT IT READS IS OF BULK AT MOST 1048576: true; the input reads as it did. -/
def fnExactCoversUptoRow : OpenClaim := { program := "ytghpideinaaofaa", sum := "cb694cc6e01ef73c45df280d8fb967127cec1467d03f1de726d478882e463f5a", func := "loop.example/s02772/laws.FnExactCovers", spec := "fnExactCovers", unfollowed := true, recurses := true, plainKeys := false, apart := false, narrowed := true }
def FnExactCoversUptoSaid : Prop := fnExactCoversUptoRow.holds Try.pinned (OpenSpec.upto fnExactCoversSpec)

/-- 'laws.FnExactUnion', WHERE WHAT IT READS IS OF BULK AT MOST 1048576: true; the input reads as it did. -/
def fnExactUnionUptoRow : OpenClaim := { program := "ytghpideinaaofaa", sum := "cb694cc6e01ef73c45df280d8fb967127cec1467d03f1de726d478882e463f5a", func := "loop.example/s02772/laws.FnExactUnion", spec := "fnExactUnion", unfollowed := true, recurses := true, plainKeys := false, apart := false, narrowed := true }
def FnExactUnionUptoSaid : Prop := fnExactUnionUptoRow.holds Try.pinned (OpenSpec.upto fnExactUnionSpec)

/-- 'laws.FnExactAddDot', WHERE WHAT IT READS IS OF BULK AT MOST 1048576: true; the input reads as it did. -/
def fnExactAddDotUptoRow : OpenClaim := { program := "ytghpideinaaofaa", sum := "cb694cc6e01ef73c45df280d8fb967127cec1467d03f1de726d478882e463f5a", func := "loop.example/s02772/laws.FnExactAddDot", spec := "fnExactAddDot", unfollowed := true, recurses := true, plainKeys := false, apart := false, narrowed := true }
def FnExactAddDotUptoSaid : Prop := fnExactAddDotUptoRow.holds Try.pinned (OpenSpec.upto fnExactAddDotSpec)

/-- 'laws.FnExactReplicaOk', WHERE WHAT IT READS IS OF BULK AT MOST 1048576: true; the input reads as it did. -/
def fnExactReplicaOkUptoRow : OpenClaim := { program := "ytghpideinaaofaa", sum := "cb694cc6e01ef73c45df280d8fb967127cec1467d03f1de726d478882e463f5a", func := "loop.example/s02772/laws.FnExactReplicaOk", spec := "fnExactReplicaOk", unfollowed := true, recurses := true, plainKeys := false, apart := false, narrowed := true }
def FnExactReplicaOkUptoSaid : Prop := fnExactReplicaOkUptoRow.holds Try.pinned (OpenSpec.upto fnExactReplicaOkSpec)

/-- 'laws.FnExactPutState', WHERE WHAT IT READS IS OF BULK AT MOST 1048576: true; the input reads as it did. -/
def fnExactPutStateUptoRow : OpenClaim := { program := "ytghpideinaaofaa", sum := "cb694cc6e01ef73c45df280d8fb967127cec1467d03f1de726d478882e463f5a", func := "loop.example/s02772/laws.FnExactPutState", spec := "fnExactPutState", unfollowed := true, recurses := true, plainKeys := false, apart := false, narrowed := true }
def FnExactPutStateUptoSaid : Prop := fnExactPutStateUptoRow.holds Try.pinned (OpenSpec.upto fnExactPutStateSpec)

/-- 'laws.FnExactWhole', WHERE WHAT IT READS IS OF BULK AT MOST 1048576: true; the input reads as it did. -/
def fnExactWholeUptoRow : OpenClaim := { program := "ytghpideinaaofaa", sum := "cb694cc6e01ef73c45df280d8fb967127cec1467d03f1de726d478882e463f5a", func := "loop.example/s02772/laws.FnExactWhole", spec := "fnExactWhole", unfollowed := true, recurses := true, plainKeys := false, apart := false, narrowed := true }
def FnExactWholeUptoSaid : Prop := fnExactWholeUptoRow.holds Try.pinned (OpenSpec.upto fnExactWholeSpec)

/-- 'laws.FnExactHello', WHERE WHAT IT READS IS OF BULK AT MOST 1048576: true; the input reads as it did. -/
def fnExactHelloUptoRow : OpenClaim := { program := "ytghpideinaaofaa", sum := "cb694cc6e01ef73c45df280d8fb967127cec1467d03f1de726d478882e463f5a", func := "loop.example/s02772/laws.FnExactHello", spec := "fnExactHello", unfollowed := true, recurses := true, plainKeys := false, apart := false, narrowed := true }
def FnExactHelloUptoSaid : Prop := fnExactHelloUptoRow.holds Try.pinned (OpenSpec.upto fnExactHelloSpec)

/-- 'laws.FnExactReadReg', WHERE WHAT IT READS IS OF BULK AT MOST 1048576: true; the input reads as it did. -/
def fnExactReadRegUptoRow : OpenClaim := { program := "ytghpideinaaofaa", sum := "cb694cc6e01ef73c45df280d8fb967127cec1467d03f1de726d478882e463f5a", func := "loop.example/s02772/laws.FnExactReadReg", spec := "fnExactReadReg", unfollowed := true, recurses := true, plainKeys := false, apart := false, narrowed := true }
def FnExactReadRegUptoSaid : Prop := fnExactReadRegUptoRow.holds Try.pinned (OpenSpec.upto fnExactReadRegSpec)

/-- 'laws.FnExactKeys', WHERE WHAT IT READS IS OF BULK AT MOST 1048576: true; the input reads as it did. -/
def fnExactKeysUptoRow : OpenClaim := { program := "ytghpideinaaofaa", sum := "cb694cc6e01ef73c45df280d8fb967127cec1467d03f1de726d478882e463f5a", func := "loop.example/s02772/laws.FnExactKeys", spec := "fnExactKeys", inPlace := ["internal/bytealg.abigen_runtime_cmpstring"], unfollowed := true, recurses := true, plainKeys := false, apart := false, narrowed := true }
def FnExactKeysUptoSaid : Prop := fnExactKeysUptoRow.holds Try.pinned (OpenSpec.upto fnExactKeysSpec)

end Rows
end Go.Proofs.Ytghpideinaaofaa
