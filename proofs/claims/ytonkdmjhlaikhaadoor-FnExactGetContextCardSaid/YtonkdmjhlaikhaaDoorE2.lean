/- Errors: errors.As at the program's own type; the code of an error. -/
import Derived.Test.YtonkdmjhlaikhaaDoorE1
namespace Go.Proofs.YtonkdmjhlaikhaaDoor
set_option linter.unusedSimpArgs false
set_option linter.unusedVariables false
open Go.RowKit Go.Ow Go.Extern.Stop Go.Stop Go.Extern
attribute [local irreducible] wpQuiet
set_option maxRecDepth 100000
theorem asValueOf (t : Addr) (w : World) : (callFunc 73 #[.iface 103 (.pointer (some t))]).run Tryd.prog w
    = .ok (.value (.agg #[.pointer (some ⟨2, 103, none⟩), .pointer (some ⟨w.heap.size, 0, none⟩), .int .u64 150])) (w.alloc (.cells #[.pointer (some t)] 103)) := by kernel_rfl
theorem asValueOfW (k : Int) (w : World) : (callFunc 73 #[.iface 100 (.agg #[.int .i64 k])]).run Tryd.prog w
    = .ok (.value (.agg #[.pointer (some ⟨2, 100, none⟩), .pointer (some ⟨w.heap.size, 0, none⟩), .int .u64 153])) (w.alloc (.cells #[.int .i64 k] 100)) := by kernel_rfl
theorem asType (a : Addr) (w : World) : (callFunc 74 #[.agg #[.pointer (some ⟨2, 103, none⟩), .pointer (some a), .int .u64 150]]).run Tryd.prog w
    = .ok (.value (.iface 139 (.agg #[.pointer (some ⟨2, 103, none⟩)]))) w := by kernel_rfl
theorem asMethKind (h : Value) (w : World) : (Go.method 286 139 (.agg #[h]) "Kind").run Tryd.prog w = .ok (99, h) w := by kernel_rfl
theorem asMethElem (h : Value) (w : World) : (Go.method 286 139 (.agg #[h]) "Elem").run Tryd.prog w = .ok (112, .agg #[h]) w := by kernel_rfl
theorem asMethImpl (h : Value) (w : World) : (Go.method 286 139 (.agg #[h]) "Implements").run Tryd.prog w = .ok (113, .agg #[h]) w := by kernel_rfl
theorem asMethAss (h : Value) (w : World) : (Go.method 286 139 (.agg #[h]) "AssignableTo").run Tryd.prog w = .ok (110, .agg #[h]) w := by kernel_rfl
theorem asKindP (w : World) : (callFunc 99 #[.pointer (some ⟨2, 103, none⟩)]).run Tryd.prog w = .ok (.value (.int .u8 22)) w := by kernel_rfl
theorem asKindW (w : World) : (callFunc 99 #[.pointer (some ⟨2, 100, none⟩)]).run Tryd.prog w = .ok (.value (.int .u8 25)) w := by kernel_rfl
theorem asElem (w : World) : (callFunc 112 #[.agg #[.pointer (some ⟨2, 103, none⟩)]]).run Tryd.prog w = .ok (.value (.iface 139 (.agg #[.pointer (some ⟨2, 100, none⟩)]))) w := by kernel_rfl
theorem asImpl (w : World) : (callFunc 113 #[.agg #[.pointer (some ⟨2, 100, none⟩)], .iface 139 (.agg #[.pointer (some ⟨2, 63, none⟩)])]).run Tryd.prog w = .ok (.value (.bool true)) w := by kernel_rfl
theorem asTypeOf (v : Value) (w : World) : (callFunc 71 #[.iface 100 v]).run Tryd.prog w = .ok (.value (.iface 139 (.agg #[.pointer (some ⟨2, 100, none⟩)]))) w := by kernel_rfl
theorem asAss (w : World) : (callFunc 110 #[.agg #[.pointer (some ⟨2, 100, none⟩)], .iface 139 (.agg #[.pointer (some ⟨2, 100, none⟩)])]).run Tryd.prog w = .ok (.value (.bool true)) w := by kernel_rfl
theorem rlm (z : Sem Value) (f : TypeId → Addr → Nat → Nat → Sem Value) (v : Value) :
    ReflectliteValue.method z f #[v] = (do match ← ReflectliteValue.parts v with | none => z | some (t, a, fl) => f t a fl (fl % 32)) := rfl
theorem asPartsP (a : Addr) (w : World) : (ReflectliteValue.parts (.agg #[.pointer (some ⟨2, 103, none⟩), .pointer (some a), .int .u64 150])).run Tryd.prog w = .ok (some (103, a, 150)) w := by kernel_rfl
theorem asPartsE (a : Addr) (w : World) : (ReflectliteValue.parts (.agg #[.pointer (some ⟨2, 100, none⟩), .pointer (some a), .int .u64 409])).run Tryd.prog w = .ok (some (100, a, 409)) w := by kernel_rfl
theorem asPartsW (a : Addr) (w : World) : (ReflectliteValue.parts (.agg #[.pointer (some ⟨2, 100, none⟩), .pointer (some a), .int .u64 153])).run Tryd.prog w = .ok (some (100, a, 153)) w := by kernel_rfl
theorem asIsNil (a p : Addr) (W : World) (ha : W.cell? a = some (.pointer (some p))) :
    (callFunc 75 #[.agg #[.pointer (some ⟨2, 103, none⟩), .pointer (some a), .int .u64 150]]).run Tryd.prog W = .ok (.value (.bool false)) W := by
  rw [@run_callFunc_extern Tryd.prog 75 _ (ReflectliteValue.method (ReflectliteValue.valueError "reflectlite.Value.IsNil" 0) ReflectliteValue.isNil) Tryd.func75 (by kernel_rfl) (by kernel_rfl) (by kernel_rfl) (by kernel_rfl)]
  rw [rlm]
  simp only [Sem.run_bind, asPartsP, Result.andThen]
  simp [ReflectliteValue.isNil, loadVar, isAgg, underlying, Tryd.underlying103, ha, Result.andThen]
theorem asElemOf (w : World) : (Rtype.elem? 103).run Tryd.prog w = .ok (some 100) w := by kernel_rfl
theorem asMk (p : Addr) (w : World) : (ReflectliteValue.mk 100 p ReflectliteValue.flagAddr).run Tryd.prog w = .ok (.agg #[.pointer (some ⟨2, 100, none⟩), .pointer (some p), .int .u64 409]) w := by kernel_rfl
theorem asElemV (a p : Addr) (W : World) (ha : W.cell? a = some (.pointer (some p))) :
    (callFunc 81 #[.agg #[.pointer (some ⟨2, 103, none⟩), .pointer (some a), .int .u64 150]]).run Tryd.prog W
      = .ok (.value (.agg #[.pointer (some ⟨2, 100, none⟩), .pointer (some p), .int .u64 409])) W := by
  rw [@run_callFunc_extern Tryd.prog 81 _ (ReflectliteValue.method (ReflectliteValue.valueError "reflectlite.Value.Elem" 0) ReflectliteValue.elem) Tryd.func81 (by kernel_rfl) (by kernel_rfl) (by kernel_rfl) (by kernel_rfl)]
  rw [rlm]
  simp only [Sem.run_bind, asPartsP, Result.andThen]
  simp [ReflectliteValue.elem, loadVar, isAgg, underlying, Tryd.underlying103, ha, Result.andThen, asElemOf, asMk]
end Go.Proofs.YtonkdmjhlaikhaaDoor
