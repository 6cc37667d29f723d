/- Errors: what errors.Is and errors.As say of the program's own. -/
import Derived.Test.YtonkdmjhlaikhaaDoorTy
import Derived.WalkKit
import Derived.LaidEql
import Derived.Stop.Asserts
import Derived.RowKitTokens
import Derived.Outline
namespace Go.Proofs.YtonkdmjhlaikhaaDoor
set_option linter.unusedSimpArgs false
set_option linter.unusedVariables false
open Go.RowKit Go.Ow Go.Extern.Stop Go.Stop Go.Extern
attribute [local irreducible] wpQuiet
set_option maxRecDepth 100000
/-- An error by its code: none, the bytes end at a place, wrong bytes. -/
def errV (a : Addr) (code : Nat) (n : Int) : Value :=
  if code = 0 then .nilIface else if code = 1 then .iface 98 (.agg #[.int .i64 n, .iface 154 (.pointer (some a))]) else .iface 100 (.agg #[.int .i64 (code : Int)])
theorem erTypeOf (v : Value) (w : World) : (callFunc 71 #[.iface 154 v]).run Tryd.prog w = .ok (.value (.iface 139 (.agg #[.pointer (some ⟨2, 154, none⟩)]))) w := by kernel_rfl
theorem erComparable (w : World) : (callFunc 111 #[.agg #[.pointer (some ⟨2, 154, none⟩)]]).run Tryd.prog w = .ok (.value (.bool true)) w := by kernel_rfl
theorem erMethComparable (v : Value) (w : World) : (Go.method 286 139 v "Comparable").run Tryd.prog w = .ok (111, v) w := by kernel_rfl
theorem erMethUnwrap (v : Value) (w : World) : (Go.method 286 98 v "Unwrap").run Tryd.prog w = .ok (104, v) w := by kernel_rfl
theorem erComp : (Tryd.prog.info? 154).map (·.comparable) = some true := by kernel_rfl
theorem erSize : (Tryd.prog.info? 174).map (·.size) = some 1 := by kernel_rfl
theorem erNoIsP (v : Value) (xT : TypeId) (w : World) : (Instr.typeAssert (.iface 98 v) xT 141 true).run Tryd.prog w = .ok (.tuple #[.nilIface, .bool false]) w := run_typeAssert_lacksB Tryd.underlying141 (by kernel_rfl) (by kernel_rfl) v xT w
theorem erNoIsW (v : Value) (xT : TypeId) (w : World) : (Instr.typeAssert (.iface 100 v) xT 141 true).run Tryd.prog w = .ok (.tuple #[.nilIface, .bool false]) w := run_typeAssert_lacksB Tryd.underlying141 (by kernel_rfl) (by kernel_rfl) v xT w
theorem erNoUnW (v : Value) (xT : TypeId) (w : World) : (Instr.typeAssert (.iface 100 v) xT 144 true).run Tryd.prog w = .ok (.tuple #[.nilIface, .bool false]) w := run_typeAssert_lacksB Tryd.underlying144 (by kernel_rfl) (by kernel_rfl) v xT w
theorem erNoUnsW (v : Value) (xT : TypeId) (w : World) : (Instr.typeAssert (.iface 100 v) xT 146 true).run Tryd.prog w = .ok (.tuple #[.nilIface, .bool false]) w := run_typeAssert_lacksB Tryd.underlying146 (by kernel_rfl) (by kernel_rfl) v xT w
theorem erUnP (v : Value) (xT : TypeId) (w : World) : (Instr.typeAssert (.iface 98 v) xT 144 true).run Tryd.prog w = .ok (.tuple #[.iface 98 v, .bool true]) w := run_typeAssert_hasB Tryd.underlying144 (by kernel_rfl) v xT w
theorem placedUnwrap (n : Int) (a : Addr) (w : World) : Calls Tryd.prog 104 #[.agg #[.int .i64 n, .iface 154 (.pointer (some a))]] w fun e w' => e = .returned (.iface 154 (.pointer (some a))) ∧ Below w.heap.size w w' := by
  go_enter Tryd.func104, Tryd.ntmps104
  go_wp2
  go_ret
  exact ⟨rfl, ((Own.start w).alloc _).below⟩
theorem isShort (n : Int) (a : Addr) (w : World) : Calls Tryd.prog 56 #[.iface 98 (.agg #[.int .i64 n, .iface 154 (.pointer (some a))]), .iface 154 (.pointer (some a))] w fun e w' => e = .returned (.bool true) ∧ Below w.heap.size w w' := by
  obtain ⟨i, hi, hcmp⟩ := Option.map_eq_some_iff.1 erComp
  obtain ⟨j, hj, hjs⟩ := Option.map_eq_some_iff.1 erSize
  have tT := erTypeOf
  have cT := erComparable
  have mC := erMethComparable
  have mU := erMethUnwrap
  have nI := erNoIsP
  have uP := erUnP
  have heq := fun w => run_eql_iface_ptr_same (P := Tryd.prog) w a Tryd.underlying63 Tryd.underlying154 hi hcmp hj
  have hty := run_eql_iface_types (P := Tryd.prog) 98 154 (.agg #[.int .i64 n, .iface 154 (.pointer (some a))]) (.pointer (some a)) Tryd.underlying63 (by decide) w
  go_enter Tryd.func56, Tryd.ntmps56
  go_wp2
  refine wp_loop_rounds 2 ?_
  rw [rounds_succ]
  go_wp2_with fail
  refine (placedUnwrap n a w).mono ?_
  rintro e w2 ⟨rfl, hb⟩
  go_wp2
  rw [rounds_succ]
  go_wp2
  go_ret
  exact ⟨rfl, hb⟩
theorem isWrong (k : Int) (a : Addr) (w : World) : Calls Tryd.prog 56 #[.iface 100 (.agg #[.int .i64 k]), .iface 154 (.pointer (some a))] w fun e w' => e = .returned (.bool false) ∧ Below w.heap.size w w' := by
  have tT := erTypeOf
  have cT := erComparable
  have mC := erMethComparable
  have nI := erNoIsW
  have nU := erNoUnW
  have nV := erNoUnsW
  have hty := run_eql_iface_types (P := Tryd.prog) 100 154 (.agg #[.int .i64 k]) (.pointer (some a)) Tryd.underlying63 (by decide) w
  go_enter Tryd.func56, Tryd.ntmps56
  go_wp2
  refine wp_loop_rounds 1 ?_
  rw [rounds_succ]
  go_wp2
  go_ret
  exact ⟨rfl, (Own.start w).below⟩
end Go.Proofs.YtonkdmjhlaikhaaDoor
