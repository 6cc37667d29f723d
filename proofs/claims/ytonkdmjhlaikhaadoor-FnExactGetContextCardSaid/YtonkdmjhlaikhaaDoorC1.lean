/- Contexts: the law's own helpers and the two checks. -/
import Derived.Test.YtonkdmjhlaikhaaDoorTy
import Derived.Outline
namespace Go.Proofs.YtonkdmjhlaikhaaDoor
set_option linter.unusedSimpArgs false
set_option linter.unusedVariables false
open Go.RowKit Go.Ow
attribute [local irreducible] wpQuiet

def szL (n : Nat) (left : Int) : Int := if wrap64 (left - n) < 0 then -1 else wrap64 (left - n)
end Go.Proofs.YtonkdmjhlaikhaaDoor
