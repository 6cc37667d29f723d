/- Join: the reference's side. -/
import Derived.Test.YtkafflbakgkpcaaGreatJn
import Derived.Test.YtkafflbakgkpcaaGreatT2
import Derived.Test.YtkafflbakgkpcaaGreatJ5
namespace Go.Proofs.YtkafflbakgkpcaaGreat
set_option linter.unusedSimpArgs false
set_option linter.unusedVariables false
open Go.RowKit Go.Ow
attribute [local irreducible] wpQuiet
set_option maxRecDepth 100000
def jOk (a b : St) : Bool := stOk a && (stOk b && fitsB (joinL a b) (uni a.c b.c))
def jR (a b : St) : St := if jOk a b = true then ⟨joinL a b, uni a.c b.c⟩ else ⟨[], []⟩
theorem specFits (l : List Lf) (c : List Rn) (vl vc : Value) (w : World) (h1 : Rd w vl l) (h2 : Rd w vc c) :
    Calls Tryz.prog 53 #[.agg #[vl, vc]] w fun e w' => e = .returned (.bool (fitsB l c)) ∧ Below w.heap.size w w' := by
  obtain ⟨A, c1, rfl, _, hl⟩ := h1.val
  obtain ⟨A2, d2, rfl, _, hl2⟩ := h2.val
  have HS := (Own.start w).box [.slice A l.length c1, .slice A2 c.length d2] 36
  by_cases g1 : l.length ≤ 1000
  · by_cases g2 : c.length ≤ 1000
    · have HQ := Lib.hid (show fitsB l c = true by simp [fitsB, g1, g2])
      go_enter Tryz.func53, Tryz.ntmps53
      go_wp2
      go_ret
      exact ⟨by rw [HQ.out]; first | rfl | (simp; omega), HS.below⟩
    · have HQ := Lib.hid (show fitsB l c = false by simp [fitsB, g2])
      go_enter Tryz.func53, Tryz.ntmps53
      go_wp2
      go_ret
      exact ⟨by rw [HQ.out]; first | rfl | (simp; omega), HS.below⟩
  · have HQ := Lib.hid (show fitsB l c = false by simp [fitsB, g1])
    go_enter Tryz.func53, Tryz.ntmps53
    go_wp2
    go_ret
    exact ⟨by rw [HQ.out]; first | rfl | (simp; omega), HS.below⟩
theorem stOk_paths {s : St} (h : stOk s = true) : ∀ y ∈ s.l, y.p.length ≤ 1048576 := fun y hy => by
  have := stOk_leaf h y hy
  unfold okLeaf pathOk at this
  simp only [Bool.and_eq_true, decide_eq_true_eq] at this
  omega
theorem stOk_lens {s : St} (h : stOk s = true) : s.l.length ≤ 1048576 ∧ s.c.length ≤ 1048576 := by
  have h1 := stOk_len' h
  have h2 := ((ctxOk_nf s.c).1 (stOk_ctx' h)).2
  omega
end Go.Proofs.YtkafflbakgkpcaaGreat
