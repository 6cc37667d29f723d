/-
  No cell of these rows narrows 'for every input' (looked for: loops, veiled, ifaces, maps, wideKeys, modest, calm, conditions, laid).
  DERIVED. THE GIVEN ROWS OF THIS SEAT. 6 by the template 'for every input the law returns true; each argument reads behind the call as it read before'; 0 by the template 'total and deterministic' (their statements: YtedkhkfhheomdaaTotals.lean).
  GIVEN WITH THE SEED: the statements are not yours to turn. If you find one false, say at which input.
  Laid BY PROGRAM, IN A SANDBOX (cutbox-rows.mjs): the forced cells as the released guide's own fill.sh prints them over the translation eaf755426aff9208… (all of the seat's roots in one cut). By AI agents, Wed Nov 11 2026. No macro, syntax, notation, axiom, sorry.
-/
import Derived.Test.YtedkhkfhheomdaaChecked
import GoSem.Claim
import GoSem.ClaimJoined
import GoSem.ClaimMapViews
import Derived.JoinedTies
import Derived.KernelRfl
namespace Go.Proofs.Ytedkhkfhheomdaa
/- THE CELL 'sum', in the pinned program and in every row, IS THE sha256 OF THE DUMP (.gsa) THAT YtedkhkfhheomdaaProg.lean LOADS. Nothing in Lean hashes anything: it is a label: what it is worth is what the hold of that sum in a sandbox is worth. -/
noncomputable def Try.pinned : Pinned := { name := "ytedkhkfhheomdaa", sum := "eaf755426aff9208074398bee3f6c869325a7fbac15f8f6223a12b86074bfa61", checked := Try.checked }
namespace Rows
def none {H : Type} : Left H := { results := [], args := [] }

/-- 'laws.FnExactConstants': WHATEVER THE INPUT: true; the input reads as it did. -/
def fnExactConstantsSpec : ChangeSpec := { name := "fnExactConstants", fn := fun _ => fun
  | [] => { results := [.lit (.bool true)], args := [] }
  | _ => none }
def fnExactConstantsRow : OpenClaim := { program := "ytedkhkfhheomdaa", sum := "eaf755426aff9208074398bee3f6c869325a7fbac15f8f6223a12b86074bfa61", func := "loop.example/s02772/laws.FnExactConstants", spec := "fnExactConstants", apart := false }
def FnExactConstantsSaid : Prop := fnExactConstantsRow.holds Try.pinned (OpenSpec.ofChange fnExactConstantsSpec)

/-- ITS FALSE NEIGHBOUR: 'it returns false'. Refute it at one input. -/
def fnExactConstantsWrong : ChangeSpec := { name := "fnExactConstants", fn := fun _ => fun
  | [] => { results := [.lit (.bool false)], args := [] }
  | _ => none }
def FnExactConstantsWrongFalsely : Prop := fnExactConstantsRow.holds Try.pinned (OpenSpec.ofChange fnExactConstantsWrong)

/-- 'laws.FnExactDigest': WHATEVER THE INPUT: true; the input reads as it did. -/
def fnExactDigestSpec : ChangeSpec := { name := "fnExactDigest", fn := fun _ => fun
  | [d] => { results := [.lit (.bool true)], args := [d] }
  | _ => none }
def fnExactDigestRow : OpenClaim := { program := "ytedkhkfhheomdaa", sum := "eaf755426aff9208074398bee3f6c869325a7fbac15f8f6223a12b86074bfa61", func := "loop.example/s02772/laws.FnExactDigest", spec := "fnExactDigest", apart := false }
def FnExactDigestSaid : Prop := fnExactDigestRow.holds Try.pinned (OpenSpec.ofChange fnExactDigestSpec)

/-- ITS FALSE NEIGHBOUR: 'it returns false'. Refute it at one input. -/
def fnExactDigestWrong : ChangeSpec := { name := "fnExactDigest", fn := fun _ => fun
  | [d] => { results := [.lit (.bool false)], args := [d] }
  | _ => none }
def FnExactDigestWrongFalsely : Prop := fnExactDigestRow.holds Try.pinned (OpenSpec.ofChange fnExactDigestWrong)

/-- 'laws.FnExactPutUvarint': WHATEVER THE INPUT: true; the input reads as it did. -/
def fnExactPutUvarintSpec : ChangeSpec := { name := "fnExactPutUvarint", fn := fun _ => fun
  | [d] => { results := [.lit (.bool true)], args := [d] }
  | _ => none }
def fnExactPutUvarintRow : OpenClaim := { program := "ytedkhkfhheomdaa", sum := "eaf755426aff9208074398bee3f6c869325a7fbac15f8f6223a12b86074bfa61", func := "loop.example/s02772/laws.FnExactPutUvarint", spec := "fnExactPutUvarint", recurses := true, apart := false }
def FnExactPutUvarintSaid : Prop := fnExactPutUvarintRow.holds Try.pinned (OpenSpec.ofChange fnExactPutUvarintSpec)

/-- ITS FALSE NEIGHBOUR: 'it returns false'. Refute it at one input. -/
def fnExactPutUvarintWrong : ChangeSpec := { name := "fnExactPutUvarint", fn := fun _ => fun
  | [d] => { results := [.lit (.bool false)], args := [d] }
  | _ => none }
def FnExactPutUvarintWrongFalsely : Prop := fnExactPutUvarintRow.holds Try.pinned (OpenSpec.ofChange fnExactPutUvarintWrong)

/-- 'laws.FnExactPutText': WHATEVER THE INPUT: true; the input reads as it did. -/
def fnExactPutTextSpec : ChangeSpec := { name := "fnExactPutText", fn := fun _ => fun
  | [d] => { results := [.lit (.bool true)], args := [d] }
  | _ => none }
def fnExactPutTextRow : OpenClaim := { program := "ytedkhkfhheomdaa", sum := "eaf755426aff9208074398bee3f6c869325a7fbac15f8f6223a12b86074bfa61", func := "loop.example/s02772/laws.FnExactPutText", spec := "fnExactPutText", recurses := true, apart := false }
def FnExactPutTextSaid : Prop := fnExactPutTextRow.holds Try.pinned (OpenSpec.ofChange fnExactPutTextSpec)

/-- ITS FALSE NEIGHBOUR: 'it returns false'. Refute it at one input. -/
def fnExactPutTextWrong : ChangeSpec := { name := "fnExactPutText", fn := fun _ => fun
  | [d] => { results := [.lit (.bool false)], args := [d] }
  | _ => none }
def FnExactPutTextWrongFalsely : Prop := fnExactPutTextRow.holds Try.pinned (OpenSpec.ofChange fnExactPutTextWrong)

/-- 'laws.FnExactCrc32': WHATEVER THE INPUT: true; the input reads as it did. -/
def fnExactCrc32Spec : ChangeSpec := { name := "fnExactCrc32", fn := fun _ => fun
  | [d] => { results := [.lit (.bool true)], args := [d] }
  | _ => none }
def fnExactCrc32Row : OpenClaim := { program := "ytedkhkfhheomdaa", sum := "eaf755426aff9208074398bee3f6c869325a7fbac15f8f6223a12b86074bfa61", func := "loop.example/s02772/laws.FnExactCrc32", spec := "fnExactCrc32", apart := false }
def FnExactCrc32Said : Prop := fnExactCrc32Row.holds Try.pinned (OpenSpec.ofChange fnExactCrc32Spec)

/-- ITS FALSE NEIGHBOUR: 'it returns false'. Refute it at one input. -/
def fnExactCrc32Wrong : ChangeSpec := { name := "fnExactCrc32", fn := fun _ => fun
  | [d] => { results := [.lit (.bool false)], args := [d] }
  | _ => none }
def FnExactCrc32WrongFalsely : Prop := fnExactCrc32Row.holds Try.pinned (OpenSpec.ofChange fnExactCrc32Wrong)

/-- 'laws.FnExactContextOk': WHATEVER THE INPUT: true; the input reads as it did. -/
def fnExactContextOkSpec : ChangeSpec := { name := "fnExactContextOk", fn := fun _ => fun
  | [d] => { results := [.lit (.bool true)], args := [d] }
  | _ => none }
def fnExactContextOkRow : OpenClaim := { program := "ytedkhkfhheomdaa", sum := "eaf755426aff9208074398bee3f6c869325a7fbac15f8f6223a12b86074bfa61", func := "loop.example/s02772/laws.FnExactContextOk", spec := "fnExactContextOk", apart := false }
def FnExactContextOkSaid : Prop := fnExactContextOkRow.holds Try.pinned (OpenSpec.ofChange fnExactContextOkSpec)

/-- ITS FALSE NEIGHBOUR: 'it returns false'. Refute it at one input. -/
def fnExactContextOkWrong : ChangeSpec := { name := "fnExactContextOk", fn := fun _ => fun
  | [d] => { results := [.lit (.bool false)], args := [d] }
  | _ => none }
def FnExactContextOkWrongFalsely : Prop := fnExactContextOkRow.holds Try.pinned (OpenSpec.ofChange fnExactContextOkWrong)

/- THE SECOND FORM. 'bulk': how many values and letters a reading holds, each counted each time it is reached (what is shared counts as often as it is met; a slice's spare places count too). A statement '..UptoSaid' is the law's where the arguments, and the package variables that the reading takes, are together of bulk at most 1048576: NARROWER than '..Said'. Prove '..Said' where nothing that the law and all that it calls make is longer than what came in: it says more and counts as full. Else prove '..UptoSaid'. A law counts once. -/
mutual
def uptoBulk {H : Type} : DataW H → Nat
  | .lit (.string bytes) => bytes.length + 1
  | .lit _ => 1
  | .nil => 1
  | .ptr d => uptoBulk d + 1
  | .slice elems spare => uptoBulkAll elems + uptoBulkAll spare + 1
  | .agg parts => uptoBulkAll parts + 1
  | .iface _ d => uptoBulk d + 1
  | .map entries => uptoBulkEntries entries + 1
  | .held _ => 1
def uptoBulkAll {H : Type} : List (DataW H) → Nat
  | [] => 0
  | d :: r => uptoBulk d + uptoBulkAll r
def uptoBulkEntries {H : Type} : List (Lit × DataW H) → Nat
  | [] => 0
  | x :: r => uptoBulkEntry x + uptoBulkEntries r
def uptoBulkEntry {H : Type} : Lit × DataW H → Nat
  | (.string bytes, d) => bytes.length + uptoBulk d + 1
  | (_, d) => uptoBulk d + 1
 end
def uptoSmall : (H : Type) → List (DataW H) → Bool := fun _ ds => decide (uptoBulkAll ds ≤ 1048576)
def OpenSpec.upto (s : _root_.Go.ChangeSpec) : _root_.Go.OpenSpec := { _root_.Go.OpenSpec.ofChange s with cond := some uptoSmall }

/-- 'laws.FnExactConstants', WHERE WHAT IT READS IS OF BULK AT MOST 1048576: true; the input reads as it did. -/
def fnExactConstantsUptoRow : OpenClaim := { program := "ytedkhkfhheomdaa", sum := "eaf755426aff9208074398bee3f6c869325a7fbac15f8f6223a12b86074bfa61", func := "loop.example/s02772/laws.FnExactConstants", spec := "fnExactConstants", apart := false, narrowed := true }
def FnExactConstantsUptoSaid : Prop := fnExactConstantsUptoRow.holds Try.pinned (OpenSpec.upto fnExactConstantsSpec)

/-- 'laws.FnExactDigest', WHERE WHAT IT READS IS OF BULK AT MOST 1048576: true; the input reads as it did. -/
def fnExactDigestUptoRow : OpenClaim := { program := "ytedkhkfhheomdaa", sum := "eaf755426aff9208074398bee3f6c869325a7fbac15f8f6223a12b86074bfa61", func := "loop.example/s02772/laws.FnExactDigest", spec := "fnExactDigest", apart := false, narrowed := true }
def FnExactDigestUptoSaid : Prop := fnExactDigestUptoRow.holds Try.pinned (OpenSpec.upto fnExactDigestSpec)

/-- 'laws.FnExactPutUvarint', WHERE WHAT IT READS IS OF BULK AT MOST 1048576: true; the input reads as it did. -/
def fnExactPutUvarintUptoRow : OpenClaim := { program := "ytedkhkfhheomdaa", sum := "eaf755426aff9208074398bee3f6c869325a7fbac15f8f6223a12b86074bfa61", func := "loop.example/s02772/laws.FnExactPutUvarint", spec := "fnExactPutUvarint", recurses := true, apart := false, narrowed := true }
def FnExactPutUvarintUptoSaid : Prop := fnExactPutUvarintUptoRow.holds Try.pinned (OpenSpec.upto fnExactPutUvarintSpec)

/-- 'laws.FnExactPutText', WHERE WHAT IT READS IS OF BULK AT MOST 1048576: true; the input reads as it did. -/
def fnExactPutTextUptoRow : OpenClaim := { program := "ytedkhkfhheomdaa", sum := "eaf755426aff9208074398bee3f6c869325a7fbac15f8f6223a12b86074bfa61", func := "loop.example/s02772/laws.FnExactPutText", spec := "fnExactPutText", recurses := true, apart := false, narrowed := true }
def FnExactPutTextUptoSaid : Prop := fnExactPutTextUptoRow.holds Try.pinned (OpenSpec.upto fnExactPutTextSpec)

/-- 'laws.FnExactCrc32', WHERE WHAT IT READS IS OF BULK AT MOST 1048576: true; the input reads as it did. -/
def fnExactCrc32UptoRow : OpenClaim := { program := "ytedkhkfhheomdaa", sum := "eaf755426aff9208074398bee3f6c869325a7fbac15f8f6223a12b86074bfa61", func := "loop.example/s02772/laws.FnExactCrc32", spec := "fnExactCrc32", apart := false, narrowed := true }
def FnExactCrc32UptoSaid : Prop := fnExactCrc32UptoRow.holds Try.pinned (OpenSpec.upto fnExactCrc32Spec)

/-- 'laws.FnExactContextOk', WHERE WHAT IT READS IS OF BULK AT MOST 1048576: true; the input reads as it did. -/
def fnExactContextOkUptoRow : OpenClaim := { program := "ytedkhkfhheomdaa", sum := "eaf755426aff9208074398bee3f6c869325a7fbac15f8f6223a12b86074bfa61", func := "loop.example/s02772/laws.FnExactContextOk", spec := "fnExactContextOk", apart := false, narrowed := true }
def FnExactContextOkUptoSaid : Prop := fnExactContextOkUptoRow.holds Try.pinned (OpenSpec.upto fnExactContextOkSpec)

end Rows
end Go.Proofs.Ytedkhkfhheomdaa
