/- Dots as keys of this program's maps. -/
import Derived.Test.YtkafflbakgkpcaaGreatTy
import Derived.Test.YtkafflbakgkpcaaGreatL1
import Derived.WideKeyRuns
import Derived.Laws.StructEq
namespace Go.Proofs.YtkafflbakgkpcaaGreat
set_option linter.unusedSimpArgs false
set_option linter.unusedVariables false
open Go.RowKit Go.Ow
attribute [local irreducible] wpQuiet
set_option maxRecDepth 100000
theorem dotEq (w : World) (a b : Int × Int) : (Op.equal 55 (dotv a) (dotv b)).run Tryz.prog w = .ok (decide (a = b)) w :=
  run_eq_dot (i := 3) (f1 := (Tryz.prog.fieldsOf 55)[0]!) (f2 := (Tryz.prog.fieldsOf 55)[1]!) Tryz.underlying55 (by kernel_rfl) (by kernel_rfl) (by kernel_rfl) (by kernel_rfl) (by kernel_rfl) (by kernel_rfl) (by kernel_rfl) (by kernel_rfl) Tryz.underlying3 (fun w x y => by kernel_rfl) (fun w x y => by kernel_rfl) w a b
theorem dotKey : DotKey Tryz.prog 55 where
  wide w x es := run_findKey_eq w (by kernel_rfl) x es
  check w em d := by
    obtain ⟨a1, a2⟩ := d
    kernel_rfl
  eq := dotEq
  stays w d := by
    obtain ⟨a1, a2⟩ := d
    simp [Instr.keyThatStays, Instr.sameBits, dotv]
end Go.Proofs.YtkafflbakgkpcaaGreat
