/- The numbers of the types in this program. -/
import Derived.Test.YtkafflbakgkpcaaGreatProg
import Derived.Test.YtkafflbakgkpcaaGreatL1
namespace Go.Proofs.YtkafflbakgkpcaaGreat
set_option linter.unusedSimpArgs false
set_option linter.unusedVariables false
open Go.Ow
instance : Ty Int := ⟨3⟩
instance : Ty UInt8 := ⟨5⟩
instance : Ty ByteArray := ⟨9⟩
instance : Ty Rn := ⟨81⟩
instance : ElZ Tryz.prog UInt8 := { bytes := 1, info := El.of (by kernel_rfl), zero := 0, infoz := ElZ.of (by kernel_rfl) }
instance : ElZ Tryz.prog Rn := { bytes := 24, info := El.of (by kernel_rfl), zero := ⟨0, 0, 0⟩, infoz := ElZ.of (by kernel_rfl) }
end Go.Proofs.YtkafflbakgkpcaaGreat
