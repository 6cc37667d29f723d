/- Dots as keys of this program's maps. -/
import Derived.Test.YtbcgbkeldcaalaaTy
import Derived.Test.YtbcgbkeldcaalaaL1
import Derived.WideKeyRuns
import Derived.Laws.StructEq
namespace Go.Proofs.Ytbcgbkeldcaalaa
set_option linter.unusedSimpArgs false
set_option linter.unusedVariables false
open Go.RowKit Go.Ow
attribute [local irreducible] wpQuiet
set_option maxRecDepth 100000
theorem dotEq (w : World) (a b : Int × Int) : (Op.equal 89 (dotv a) (dotv b)).run Try.prog w = .ok (decide (a = b)) w :=
  run_eq_dot (i := 3) (f1 := (Try.prog.fieldsOf 89)[0]!) (f2 := (Try.prog.fieldsOf 89)[1]!) Try.underlying89 (by kernel_rfl) (by kernel_rfl) (by kernel_rfl) (by kernel_rfl) (by kernel_rfl) (by kernel_rfl) (by kernel_rfl) (by kernel_rfl) Try.underlying3 (fun w x y => by kernel_rfl) (fun w x y => by kernel_rfl) w a b
theorem dotKey : DotKey Try.prog 89 where
  wide w x es := run_findKey_eq w (by kernel_rfl) x es
  check w em d := by
    obtain ⟨a1, a2⟩ := d
    kernel_rfl
  eq := dotEq
  stays w d := by
    obtain ⟨a1, a2⟩ := d
    simp [Instr.keyThatStays, Instr.sameBits, dotv]
end Go.Proofs.Ytbcgbkeldcaalaa
