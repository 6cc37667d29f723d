/- Rows' readings of contexts and dots. -/
import Derived.Test.YtgfgkbmebdaieaaTy
import Derived.Test.YtgfgkbmebdaieaaDc
namespace Go.Proofs.Ytgfgkbmebdaieaa
set_option linter.unusedSimpArgs false
set_option linter.unusedVariables false
open Go.RowKit Go.Ow
instance : Wf Rn := Wf.iso (fun r : Rn => (r.r, r.f, r.t))
theorem dcInt : Dc Try.prog Int 3 := Dc.int Try.underlying3
set_option maxRecDepth 100000 in
theorem dcRun : Dc Try.prog Rn 125 := Dc.struct (DcF.iso (f := fun r : Rn => (r.r, r.f, r.t)) (g := fun p => ⟨p.1, p.2.1, p.2.2⟩) (fun _ => rfl) (DcF.cons dcInt rfl (by kernel_rfl) rfl (DcF.cons dcInt rfl (by kernel_rfl) rfl (DcF.one dcInt rfl (by kernel_rfl))))) Try.underlying125 (by kernel_rfl)
set_option maxRecDepth 100000 in
theorem dcContext : Dc Try.prog (List Rn) 25 := Dc.struct (DcF.one (Dc.list dcRun Try.underlying23 (by kernel_rfl) (of_decide_eq_true (by kernel_rfl))) rfl (by kernel_rfl)) Try.underlying25 (by kernel_rfl)
theorem dcDot : Dc Try.prog (Int × Int) 53 := Dc.struct (DcF.cons dcInt rfl (by kernel_rfl) rfl (DcF.one dcInt rfl (by kernel_rfl))) Try.underlying53 (by kernel_rfl)
end Go.Proofs.Ytgfgkbmebdaieaa
