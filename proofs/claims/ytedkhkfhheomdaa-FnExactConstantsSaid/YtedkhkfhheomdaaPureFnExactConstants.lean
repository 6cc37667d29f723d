/- FnExactConstants of the seat: the plain statement behind the row: the law's function is true outright. No condition. -/
import Derived.Test.YtedkhkfhheomdaaPFnExactConstantsx1
namespace Go.Proofs.Ytedkhkfhheomdaa.Pure
open Go.RowKit Go.Proofs.Ytedkhkfhheomdaa.PFnExactConstants Go.Proofs.YtedkhkfhheomdaaW.PrintWords Go.Proofs.YtedkhkfhheomdaaW.PrintLast

theorem FnExactConstants : laws_FnExactConstants.Pure := rfl

end Go.Proofs.Ytedkhkfhheomdaa.Pure
