/- The leaves of a live state cloned. -/
import Derived.Test.YtkafflbakgkpcaaGreatTy
import Derived.Test.YtkafflbakgkpcaaGreatL1
import Derived.Shelf.SlMaps.Clone
import Derived.Ground.SlmcProg
namespace Go.Proofs
set_option linter.unusedSimpArgs false
set_option linter.unusedVariables false
open Go.Shelf
set_option maxRecDepth 100000
shelf_lay_g SlLaysW.n5 Slmc 5 at Tryz 63 as Tryz.cloneM
end Go.Proofs
namespace Go.Proofs.YtkafflbakgkpcaaGreat
set_option linter.unusedSimpArgs false
set_option linter.unusedVariables false
open Go.RowKit Go.Ow Go.MapKept
set_option maxRecDepth 100000
theorem cloneMap {W0 : World} {R : List Ds} (b : Nat) (zs : List Pf) (w : World) (HS : Own W0 (.lm b zs :: R) w) :
    Calls Tryz.prog 63 #[.map (some b)] w fun e w' => ∃ bC es clock, e = .returned (.map (some bC)) ∧ Own W0 (.lmf es clock bC zs :: .lm b zs :: R) w' := by
  obtain ⟨es, clock, hb, he, hst⟩ := HS.lmAt
  refine (show Calls Tryz.prog 63 #[.map (some b)] w _ from AnyW.maps_Clone Tryz.cloneM b es clock w hb).mono ?_
  rintro e w' ⟨rfl, rfl⟩
  exact ⟨_, es, clock, rfl, Own.call (Rn := [.lmf es clock w.heap.size zs]) HS ⟨(Below.refl _ _).alloc (Nat.le_refl _) _, [w.heap.size], ⟨[w.heap.size], [], rfl, ⟨rfl, (MapKept.heap_alloc w _).1, he, hst⟩, rfl⟩, by simp, by simp⟩⟩
end Go.Proofs.YtkafflbakgkpcaaGreat
