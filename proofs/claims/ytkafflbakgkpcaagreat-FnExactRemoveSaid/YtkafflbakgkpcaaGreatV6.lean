/- Union and Covers: the program's side. -/
import Derived.Test.YtkafflbakgkpcaaGreatVb
import Derived.Test.YtkafflbakgkpcaaGreatCa
/-FR-/
namespace Go.Proofs.YtkafflbakgkpcaaGreat
set_option linter.unusedSimpArgs false
set_option linter.unusedVariables false
open Go.RowKit Go.Ow Go.MapKept
attribute [local irreducible] wpQuiet
set_option maxRecDepth 100000
theorem cloudNs {xs : List Rn} (h : ctxOk xs = true) : ∀ k, Ns (mget (cloud [] xs) k) ∧ (mget (cloud [] xs) k).length ≤ 1048576 := fun k => by
  rw [mget_cloud0]
  refine ⟨spaced_ns (spaced_ctx xs k h), ?_⟩
  have h1 : (spansOf xs k).length ≤ xs.length := by unfold spansOf; rw [List.length_map]; exact List.length_filter_le _ _
  have h2 := ((ctxOk_nf xs).1 h).2
  omega
/-- Both clouds made, the second put into the first, its runs. -/
theorem runs_of {xs ys : List Rn} (hx : ctxOk xs = true) (hy : ctxOk ys = true) {g' : List (Int × List Sp)}
    (h : ∀ k, Ns (mget g' k) ∧ (∀ q, SpIn (mget g' k) q ↔ SpIn (mget (cloud [] xs) k) q ∨ SpIn (mget (cloud [] ys) k) q) ∧ (mget g' k).length ≤ (mget (cloud [] xs) k).length + (mget (cloud [] ys) k).length) : runsN g' 8 0 = uni xs ys ∧ (uni xs ys).length ≤ 4194304 := by
  have nx := (ctxOk_nf xs).1 hx
  have ny := (ctxOk_nf ys).1 hy
  refine ⟨runs_uni nx.1 ny.1 (fun k => (h k).1) (fun k q => ?_), ?_⟩
  · rw [(h k).2.1 q, mget_cloud0, mget_cloud0]
  · have := uni_len ys xs; omega
end Go.Proofs.YtkafflbakgkpcaaGreat
