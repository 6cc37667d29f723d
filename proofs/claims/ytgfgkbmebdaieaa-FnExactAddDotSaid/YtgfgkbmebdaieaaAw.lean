/- A goal at a world in which a variable was just made or written. -/
import Derived.Test.YtgfgkbmebdaieaaHl
import Derived.Outline
namespace Go.Ow
set_option linter.unusedSimpArgs false
set_option linter.unusedVariables false
open Go.RowKit
theorem at_box {W w : World} {R : List Ds} {t : TypeId} {v : Value} {G : World → Prop} (HS : Own W R w) (h : Own W (.box w.heap.size t [v] :: R) (w.alloc (.cells #[v] t)) → G (w.alloc (.cells #[v] t))) : G (w.alloc (.cells #[v] t)) := h (HS.box [v] t)
theorem at_set {W w : World} {R : List Ds} {t b : Nat} {u v : Value} {G : World → Prop} (i : Nat) (hi : R[i]? = some (.box b t [u])) (HS : Own W R w) (h : Own W (.box b t [v] :: R.eraseIdx i) (w.setCell ⟨b, 0, none⟩ v) → G (w.setCell ⟨b, 0, none⟩ v)) : G (w.setCell ⟨b, 0, none⟩ v) := h ((HS.pick i hi).set 0 v)
theorem th_box {W w : World} {R : List Ds} {t : TypeId} {v : Value} {K : Act → World → Prop} {Q : Exit → Act → World → Prop} {e : Exit} {a : Act} (HS : Own W R w) (h : Own W (.box w.heap.size t [v] :: R) (w.alloc (.cells #[v] t)) → Exit.then K Q e a (w.alloc (.cells #[v] t))) : Exit.then K Q e a (w.alloc (.cells #[v] t)) := h (HS.box [v] t)
theorem th_set {W w : World} {R : List Ds} {t b : Nat} {u v : Value} {K : Act → World → Prop} {Q : Exit → Act → World → Prop} {e : Exit} {a : Act} (i : Nat) (HS : Own W R w) (hi : R[i]? = some (.box b t [u])) (h : Own W (.box b t [v] :: R.eraseIdx i) (w.setCell ⟨b, 0, none⟩ v) → Exit.then K Q e a (w.setCell ⟨b, 0, none⟩ v)) : Exit.then K Q e a (w.setCell ⟨b, 0, none⟩ v) := h ((HS.pick i hi).set 0 v)
end Go.Ow
