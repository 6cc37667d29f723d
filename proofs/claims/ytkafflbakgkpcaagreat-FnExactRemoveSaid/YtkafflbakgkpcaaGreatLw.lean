/- What the laws of states share. -/
import Derived.Test.YtkafflbakgkpcaaGreatZb
import Derived.Test.YtkafflbakgkpcaaGreatFf
import Derived.Test.YtkafflbakgkpcaaGreatT3
import Derived.Deep.DeepCutAuto
namespace Go.Proofs.YtkafflbakgkpcaaGreat
set_option linter.unusedSimpArgs false
set_option linter.unusedVariables false
open Go.RowKit Go.Ow
theorem drop_n {W w : World} : ∀ (n : Nat) {R : List Ds}, Own W R w → Own W (R.drop n) w
  | 0, _, h => h
  | _ + 1, [], h => h
  | n + 1, _ :: R, h => drop_n n (R := R) h.drop
theorem own_take {W w : World} {R : List Ds} (n : Nat) (h : Own W R w) : Own W (R.take n) w := by
  have hp : R.Perm (R.drop n ++ R.take n) := by
    conv => lhs; rw [← List.take_append_drop n R]
    exact List.perm_append_comm
  have h1 := h.perm hp
  have h2 := drop_n (R.drop n).length h1
  rwa [List.drop_left] at h2
end Go.Proofs.YtkafflbakgkpcaaGreat
