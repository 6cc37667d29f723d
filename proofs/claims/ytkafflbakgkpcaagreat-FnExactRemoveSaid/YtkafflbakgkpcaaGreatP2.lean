/- PutContext: both sides. -/
import Derived.Test.YtkafflbakgkpcaaGreatYa
import Derived.Test.YtkafflbakgkpcaaGreatBa
import Derived.Test.YtkafflbakgkpcaaGreatM1
import Derived.Test.YtkafflbakgkpcaaGreatL1
import Derived.Test.YtkafflbakgkpcaaGreatCa
/-FM-/
namespace Go.Proofs.YtkafflbakgkpcaaGreat
set_option linter.unusedSimpArgs false
set_option linter.unusedVariables false
open Go.RowKit Go.Ow
attribute [local irreducible] wpQuiet
set_option maxRecDepth 100000
end Go.Proofs.YtkafflbakgkpcaaGreat
