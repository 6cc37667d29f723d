/-
  NARROWER THAN 'FOR EVERY INPUT', by the rows' own cells (each row's printed sentence says how): FnExactGetUvarint: ifaces, laid · FnExactGetText: ifaces, laid · FnExactGetContext: ifaces, laid · FnNumbers: ifaces, laid · FnFramed: ifaces, laid.
  DERIVED. THE GIVEN ROWS OF THIS SEAT. 5 by the template 'for every input the law returns true; each argument reads behind the call as it read before'; 0 by the template 'total and deterministic' (their statements: YtonkdmjhlaikhaaDoorTotals.lean).
  GIVEN WITH THE SEED: the statements are not yours to turn. If you find one false, say at which input.
  Laid BY PROGRAM, IN A SANDBOX (cutbox-rows.mjs): the forced cells as the released guide's own fill.sh prints them over the translation 71986b1460f956ea… (all of the seat's roots in one cut). By AI agents, Wed Nov 11 2026. No macro, syntax, notation, axiom, sorry.
-/
import Derived.Test.YtonkdmjhlaikhaaDoorChecked
import GoSem.Claim
import GoSem.ClaimJoined
import GoSem.ClaimMapViews
import Derived.JoinedTies
import Derived.KernelRfl
namespace Go.Proofs.YtonkdmjhlaikhaaDoor
/- THE CELL 'sum', in the pinned program and in every row, IS THE sha256 OF THE DUMP (.gsa) THAT YtonkdmjhlaikhaaDoorProg.lean LOADS. Nothing in Lean hashes anything: it is a label: what it is worth is what the hold of that sum in a sandbox is worth. -/
noncomputable def Tryd.pinned : Pinned := { name := "ytonkdmjhlaikhaadoor", sum := "71986b1460f956ea29fd62d665bc7aae57d9e350f1ba31998370c27a3c26a071", checked := Tryd.checked }
namespace Rows
def none {H : Type} : Left H := { results := [], args := [] }

/- WHAT THE LISTED PACKAGE-LEVEL VARIABLES READ AS WHEN THE CALL BEGINS. Each datum BY PROGRAM (the guide's laid-datum.mjs) off the statement by which the dump's own 'gosem.cut.vars' lays the variable. In a bare row this is a premise. The card (YtonkdmjhlaikhaaDoorCards.lean) ties it to the program's text. -/
def laid_errors_errorType {H : Type} : DataW H := .iface "internal/reflectlite.rtype" (.agg [.ptr (.lit (.string [101, 114, 114, 111, 114]))])
def laid_loop_example_s02772_impl_errShort {H : Type} : DataW H := .iface "*errors.errorString" (.ptr (.agg [.lit (.string [116, 104, 101, 32, 98, 121, 116, 101, 115, 32, 101, 110, 100])]))

/-- 'laws.FnExactGetUvarint': WHATEVER THE INPUT: true; the input reads as it did. -/
def fnExactGetUvarintSpec : ChangeSpec := { name := "fnExactGetUvarint", vars := ["loop.example/s02772/impl.errShort"], fn := fun _ => fun
  | [d1, d2, g1] => { results := [.lit (.bool true)], args := [d1, d2], vars := [g1] }
  | _ => none }
def fnExactGetUvarintRow : OpenClaim := { program := "ytonkdmjhlaikhaadoor", sum := "71986b1460f956ea29fd62d665bc7aae57d9e350f1ba31998370c27a3c26a071", func := "loop.example/s02772/laws.FnExactGetUvarint", spec := "fnExactGetUvarint", inPlace := ["internal/reflectlite.TypeOf", "internal/reflectlite.ValueOf", "(internal/reflectlite.Value).Type", "(internal/reflectlite.Value).IsNil", "(internal/reflectlite.Value).Elem", "(internal/reflectlite.Value).Set"], unfollowed := true, recurses := true, named := ["loop.example/s02772/impl.errShort", "errors.errorType"], ifaces := true, apart := false, laid := [("errors.errorType", laid_errors_errorType), ("loop.example/s02772/impl.errShort", laid_loop_example_s02772_impl_errShort)] }
def FnExactGetUvarintSaid : Prop := fnExactGetUvarintRow.holds Tryd.pinned (OpenSpec.ofChange fnExactGetUvarintSpec)

/-- ITS FALSE NEIGHBOUR: 'it returns false'. Refute it at one input. -/
def fnExactGetUvarintWrong : ChangeSpec := { name := "fnExactGetUvarint", vars := ["loop.example/s02772/impl.errShort"], fn := fun _ => fun
  | [d1, d2, g1] => { results := [.lit (.bool false)], args := [d1, d2], vars := [g1] }
  | _ => none }
def FnExactGetUvarintWrongFalsely : Prop := fnExactGetUvarintRow.holds Tryd.pinned (OpenSpec.ofChange fnExactGetUvarintWrong)

/-- 'laws.FnExactGetText': WHATEVER THE INPUT: true; the input reads as it did. -/
def fnExactGetTextSpec : ChangeSpec := { name := "fnExactGetText", vars := ["loop.example/s02772/impl.errShort"], fn := fun _ => fun
  | [d1, d2, d3, g1] => { results := [.lit (.bool true)], args := [d1, d2, d3], vars := [g1] }
  | _ => none }
def fnExactGetTextRow : OpenClaim := { program := "ytonkdmjhlaikhaadoor", sum := "71986b1460f956ea29fd62d665bc7aae57d9e350f1ba31998370c27a3c26a071", func := "loop.example/s02772/laws.FnExactGetText", spec := "fnExactGetText", inPlace := ["internal/reflectlite.TypeOf", "internal/reflectlite.ValueOf", "(internal/reflectlite.Value).Type", "(internal/reflectlite.Value).IsNil", "(internal/reflectlite.Value).Elem", "(internal/reflectlite.Value).Set"], unfollowed := true, recurses := true, named := ["loop.example/s02772/impl.errShort", "errors.errorType"], ifaces := true, apart := false, laid := [("errors.errorType", laid_errors_errorType), ("loop.example/s02772/impl.errShort", laid_loop_example_s02772_impl_errShort)] }
def FnExactGetTextSaid : Prop := fnExactGetTextRow.holds Tryd.pinned (OpenSpec.ofChange fnExactGetTextSpec)

/-- ITS FALSE NEIGHBOUR: 'it returns false'. Refute it at one input. -/
def fnExactGetTextWrong : ChangeSpec := { name := "fnExactGetText", vars := ["loop.example/s02772/impl.errShort"], fn := fun _ => fun
  | [d1, d2, d3, g1] => { results := [.lit (.bool false)], args := [d1, d2, d3], vars := [g1] }
  | _ => none }
def FnExactGetTextWrongFalsely : Prop := fnExactGetTextRow.holds Tryd.pinned (OpenSpec.ofChange fnExactGetTextWrong)

/-- 'laws.FnExactGetContext': WHATEVER THE INPUT: true; the input reads as it did. -/
def fnExactGetContextSpec : ChangeSpec := { name := "fnExactGetContext", vars := ["loop.example/s02772/impl.errShort"], fn := fun _ => fun
  | [d1, d2, g1] => { results := [.lit (.bool true)], args := [d1, d2], vars := [g1] }
  | _ => none }
def fnExactGetContextRow : OpenClaim := { program := "ytonkdmjhlaikhaadoor", sum := "71986b1460f956ea29fd62d665bc7aae57d9e350f1ba31998370c27a3c26a071", func := "loop.example/s02772/laws.FnExactGetContext", spec := "fnExactGetContext", recurses := true, named := ["loop.example/s02772/impl.errShort"], ifaces := true, apart := false, laid := [("loop.example/s02772/impl.errShort", laid_loop_example_s02772_impl_errShort)] }
def FnExactGetContextSaid : Prop := fnExactGetContextRow.holds Tryd.pinned (OpenSpec.ofChange fnExactGetContextSpec)

/-- ITS FALSE NEIGHBOUR: 'it returns false'. Refute it at one input. -/
def fnExactGetContextWrong : ChangeSpec := { name := "fnExactGetContext", vars := ["loop.example/s02772/impl.errShort"], fn := fun _ => fun
  | [d1, d2, g1] => { results := [.lit (.bool false)], args := [d1, d2], vars := [g1] }
  | _ => none }
def FnExactGetContextWrongFalsely : Prop := fnExactGetContextRow.holds Tryd.pinned (OpenSpec.ofChange fnExactGetContextWrong)

/-- 'laws.FnNumbers': WHATEVER THE INPUT: true; the input reads as it did. -/
def fnNumbersSpec : ChangeSpec := { name := "fnNumbers", vars := ["loop.example/s02772/impl.errShort"], fn := fun _ => fun
  | [d1, d2, g1] => { results := [.lit (.bool true)], args := [d1, d2], vars := [g1] }
  | _ => none }
def fnNumbersRow : OpenClaim := { program := "ytonkdmjhlaikhaadoor", sum := "71986b1460f956ea29fd62d665bc7aae57d9e350f1ba31998370c27a3c26a071", func := "loop.example/s02772/laws.FnNumbers", spec := "fnNumbers", inPlace := ["internal/reflectlite.TypeOf", "internal/reflectlite.ValueOf", "(internal/reflectlite.Value).Type", "(internal/reflectlite.Value).IsNil", "(internal/reflectlite.Value).Elem", "(internal/reflectlite.Value).Set"], unfollowed := true, recurses := true, named := ["loop.example/s02772/impl.errShort", "errors.errorType"], ifaces := true, apart := false, laid := [("errors.errorType", laid_errors_errorType), ("loop.example/s02772/impl.errShort", laid_loop_example_s02772_impl_errShort)] }
def FnNumbersSaid : Prop := fnNumbersRow.holds Tryd.pinned (OpenSpec.ofChange fnNumbersSpec)

/-- ITS FALSE NEIGHBOUR: 'it returns false'. Refute it at one input. -/
def fnNumbersWrong : ChangeSpec := { name := "fnNumbers", vars := ["loop.example/s02772/impl.errShort"], fn := fun _ => fun
  | [d1, d2, g1] => { results := [.lit (.bool false)], args := [d1, d2], vars := [g1] }
  | _ => none }
def FnNumbersWrongFalsely : Prop := fnNumbersRow.holds Tryd.pinned (OpenSpec.ofChange fnNumbersWrong)

/-- 'laws.FnFramed': WHATEVER THE INPUT: true; the input reads as it did. -/
def fnFramedSpec : ChangeSpec := { name := "fnFramed", vars := ["loop.example/s02772/impl.errShort"], fn := fun _ => fun
  | [d1, d2, g1] => { results := [.lit (.bool true)], args := [d1, d2], vars := [g1] }
  | _ => none }
def fnFramedRow : OpenClaim := { program := "ytonkdmjhlaikhaadoor", sum := "71986b1460f956ea29fd62d665bc7aae57d9e350f1ba31998370c27a3c26a071", func := "loop.example/s02772/laws.FnFramed", spec := "fnFramed", inPlace := ["internal/reflectlite.TypeOf", "internal/reflectlite.ValueOf", "(internal/reflectlite.Value).Type", "(internal/reflectlite.Value).IsNil", "(internal/reflectlite.Value).Elem", "(internal/reflectlite.Value).Set"], unfollowed := true, recurses := true, named := ["loop.example/s02772/impl.errShort", "errors.errorType"], ifaces := true, apart := false, laid := [("errors.errorType", laid_errors_errorType), ("loop.example/s02772/impl.errShort", laid_loop_example_s02772_impl_errShort)] }
def FnFramedSaid : Prop := fnFramedRow.holds Tryd.pinned (OpenSpec.ofChange fnFramedSpec)

/-- ITS FALSE NEIGHBOUR: 'it returns false'. Refute it at one input. -/
def fnFramedWrong : ChangeSpec := { name := "fnFramed", vars := ["loop.example/s02772/impl.errShort"], fn := fun _ => fun
  | [d1, d2, g1] => { results := [.lit (.bool false)], args := [d1, d2], vars := [g1] }
  | _ => none }
def FnFramedWrongFalsely : Prop := fnFramedRow.holds Tryd.pinned (OpenSpec.ofChange fnFramedWrong)

/- THE SECOND FORM. 'bulk': how many values and letters a reading holds, each counted each time it is reached (what is shared counts as often as it is met; a slice's spare places count too). A statement '..UptoSaid' is the law's where the arguments, and the package variables that the reading takes, are together of bulk at most 1048576: NARROWER than '..Said'. Prove '..Said' where nothing that the law and all that it calls make is longer than what came in: it says more and counts as full. Else prove '..UptoSaid'. A law counts once. -/
mutual
def uptoBulk {H : Type} : DataW H → Nat
  | .lit (.string bytes) => bytes.length + 1
  | .lit _ => 1
  | .nil => 1
  | .ptr d => uptoBulk d + 1
  | .slice elems spare => uptoBulkAll elems + uptoBulkAll spare + 1
  | .agg parts => uptoBulkAll parts + 1
  | .iface _ d => uptoBulk d + 1
  | .map entries => uptoBulkEntries entries + 1
  | .held _ => 1
def uptoBulkAll {H : Type} : List (DataW H) → Nat
  | [] => 0
  | d :: r => uptoBulk d + uptoBulkAll r
def uptoBulkEntries {H : Type} : List (Lit × DataW H) → Nat
  | [] => 0
  | x :: r => uptoBulkEntry x + uptoBulkEntries r
def uptoBulkEntry {H : Type} : Lit × DataW H → Nat
  | (.string bytes, d) => bytes.length + uptoBulk d + 1
  | (_, d) => uptoBulk d + 1
 end
def uptoSmall : (H : Type) → List (DataW H) → Bool := fun _ ds => decide (uptoBulkAll ds ≤ 1048576)
def OpenSpec.upto (s : _root_.Go.ChangeSpec) : _root_.Go.OpenSpec := { _root_.Go.OpenSpec.ofChange s with cond := some uptoSmall }

/-- 'laws.FnExactGetUvarint', WHERE WHAT IT READS IS OF BULK AT MOST 1048576: true; the input reads as it did. -/
def fnExactGetUvarintUptoRow : OpenClaim := { program := "ytonkdmjhlaikhaadoor", sum := "71986b1460f956ea29fd62d665bc7aae57d9e350f1ba31998370c27a3c26a071", func := "loop.example/s02772/laws.FnExactGetUvarint", spec := "fnExactGetUvarint", inPlace := ["internal/reflectlite.TypeOf", "internal/reflectlite.ValueOf", "(internal/reflectlite.Value).Type", "(internal/reflectlite.Value).IsNil", "(internal/reflectlite.Value).Elem", "(internal/reflectlite.Value).Set"], unfollowed := true, recurses := true, named := ["loop.example/s02772/impl.errShort", "errors.errorType"], ifaces := true, apart := false, laid := [("errors.errorType", laid_errors_errorType), ("loop.example/s02772/impl.errShort", laid_loop_example_s02772_impl_errShort)], narrowed := true }
def FnExactGetUvarintUptoSaid : Prop := fnExactGetUvarintUptoRow.holds Tryd.pinned (OpenSpec.upto fnExactGetUvarintSpec)

/-- 'laws.FnExactGetText', WHERE WHAT IT READS IS OF BULK AT MOST 1048576: true; the input reads as it did. -/
def fnExactGetTextUptoRow : OpenClaim := { program := "ytonkdmjhlaikhaadoor", sum := "71986b1460f956ea29fd62d665bc7aae57d9e350f1ba31998370c27a3c26a071", func := "loop.example/s02772/laws.FnExactGetText", spec := "fnExactGetText", inPlace := ["internal/reflectlite.TypeOf", "internal/reflectlite.ValueOf", "(internal/reflectlite.Value).Type", "(internal/reflectlite.Value).IsNil", "(internal/reflectlite.Value).Elem", "(internal/reflectlite.Value).Set"], unfollowed := true, recurses := true, named := ["loop.example/s02772/impl.errShort", "errors.errorType"], ifaces := true, apart := false, laid := [("errors.errorType", laid_errors_errorType), ("loop.example/s02772/impl.errShort", laid_loop_example_s02772_impl_errShort)], narrowed := true }
def FnExactGetTextUptoSaid : Prop := fnExactGetTextUptoRow.holds Tryd.pinned (OpenSpec.upto fnExactGetTextSpec)

/-- 'laws.FnExactGetContext', WHERE WHAT IT READS IS OF BULK AT MOST 1048576: true; the input reads as it did. -/
def fnExactGetContextUptoRow : OpenClaim := { program := "ytonkdmjhlaikhaadoor", sum := "71986b1460f956ea29fd62d665bc7aae57d9e350f1ba31998370c27a3c26a071", func := "loop.example/s02772/laws.FnExactGetContext", spec := "fnExactGetContext", recurses := true, named := ["loop.example/s02772/impl.errShort"], ifaces := true, apart := false, laid := [("loop.example/s02772/impl.errShort", laid_loop_example_s02772_impl_errShort)], narrowed := true }
def FnExactGetContextUptoSaid : Prop := fnExactGetContextUptoRow.holds Tryd.pinned (OpenSpec.upto fnExactGetContextSpec)

/-- 'laws.FnNumbers', WHERE WHAT IT READS IS OF BULK AT MOST 1048576: true; the input reads as it did. -/
def fnNumbersUptoRow : OpenClaim := { program := "ytonkdmjhlaikhaadoor", sum := "71986b1460f956ea29fd62d665bc7aae57d9e350f1ba31998370c27a3c26a071", func := "loop.example/s02772/laws.FnNumbers", spec := "fnNumbers", inPlace := ["internal/reflectlite.TypeOf", "internal/reflectlite.ValueOf", "(internal/reflectlite.Value).Type", "(internal/reflectlite.Value).IsNil", "(internal/reflectlite.Value).Elem", "(internal/reflectlite.Value).Set"], unfollowed := true, recurses := true, named := ["loop.example/s02772/impl.errShort", "errors.errorType"], ifaces := true, apart := false, laid := [("errors.errorType", laid_errors_errorType), ("loop.example/s02772/impl.errShort", laid_loop_example_s02772_impl_errShort)], narrowed := true }
def FnNumbersUptoSaid : Prop := fnNumbersUptoRow.holds Tryd.pinned (OpenSpec.upto fnNumbersSpec)

/-- 'laws.FnFramed', WHERE WHAT IT READS IS OF BULK AT MOST 1048576: true; the input reads as it did. -/
def fnFramedUptoRow : OpenClaim := { program := "ytonkdmjhlaikhaadoor", sum := "71986b1460f956ea29fd62d665bc7aae57d9e350f1ba31998370c27a3c26a071", func := "loop.example/s02772/laws.FnFramed", spec := "fnFramed", inPlace := ["internal/reflectlite.TypeOf", "internal/reflectlite.ValueOf", "(internal/reflectlite.Value).Type", "(internal/reflectlite.Value).IsNil", "(internal/reflectlite.Value).Elem", "(internal/reflectlite.Value).Set"], unfollowed := true, recurses := true, named := ["loop.example/s02772/impl.errShort", "errors.errorType"], ifaces := true, apart := false, laid := [("errors.errorType", laid_errors_errorType), ("loop.example/s02772/impl.errShort", laid_loop_example_s02772_impl_errShort)], narrowed := true }
def FnFramedUptoSaid : Prop := fnFramedUptoRow.holds Tryd.pinned (OpenSpec.upto fnFramedSpec)

end Rows
end Go.Proofs.YtonkdmjhlaikhaaDoor
