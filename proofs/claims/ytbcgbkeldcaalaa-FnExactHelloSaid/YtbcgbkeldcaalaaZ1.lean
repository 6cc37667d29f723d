/- Replicas handed in: copies, sizes, equality; fit states. -/
import Derived.Test.YtbcgbkeldcaalaaY6
import Derived.Test.YtbcgbkeldcaalaaH6
import Derived.Test.YtbcgbkeldcaalaaH3
import Derived.Test.YtbcgbkeldcaalaaJ6
namespace Go.Proofs.Ytbcgbkeldcaalaa
set_option linter.unusedSimpArgs false
set_option linter.unusedVariables false
open Go.RowKit Go.Ow
attribute [local irreducible] wpQuiet
set_option maxRecDepth 100000
def fitB (s : St) : Bool := decide ((psR s).2 = 0)
def rpOk (r : Rp) : Bool := decide (0 ≤ r.id) && (decide (r.id < 8) && (fitB r.s && fitB r.d))
theorem psR_code (s : St) : (psR s).2 ≤ 2 := by
  unfold psR
  split
  · split <;> simp
  · simp
theorem implFit (s : St) (vl vc : Value) (w : World) (h1 : Rd w vl s.l) (h2 : Rd w vc s.c) (hw : ∀ y ∈ s.l, LfW y) (hc : s.c.length ≤ 1048576) :
    Calls Try.prog 40 #[.agg #[vl, vc]] w fun e w' => e = .returned (.bool (fitB s)) ∧ Below w.heap.size w w' := by
  obtain ⟨A, c, rfl, _, hl⟩ := h1.val
  obtain ⟨A2, d2, rfl, _, hl2⟩ := h2.val
  have HW := Lib.hid hw
  clear hw
  have HS := (Own.start w).box [.slice A s.l.length c, .slice A2 s.c.length d2] 37
  obtain ⟨T, hT⟩ : ∃ T, (psR s).1 = T := ⟨_, rfl⟩
  have hk0 := psR_code s
  obtain ⟨k, hk⟩ : ∃ k, (psR s).2 = k := ⟨_, rfl⟩
  have HT := Lib.hid (And.intro hT hk)
  have HF := Lib.hid (show fitB s = decide (k = 0) by unfold fitB; rw [hk])
  clear hT hk hk0
  go_enter Try.func40, Try.ntmps40
  go_wp2_with fail
  refine (show Calls Try.prog 16 _ _ (fun e w' => ∃ v', e = .returned (.tuple #[v', .int .i64 (k : Nat)]) ∧ Own _ [.own v' T] w') from by have h := implPutState s _ _ _ (HS.old h1) (HS.old h2) HW.out hc; rw [HT.out.1, HT.out.2] at h; exact h).mono ?_
  rintro e w1 ⟨v', rfl, hs⟩
  have H1 := HS.call1 hs
  go_wp2
  go_ret
  exact ⟨by rw [HF.out]; have hkb : ((k : Int) == 0) = decide (k = 0) := (by rw [Bool.eq_iff_iff]; simp); rw [← hkb]; rfl, H1.below⟩
theorem specFit (s : St) (vl vc : Value) (w : World) (h1 : Rd w vl s.l) (h2 : Rd w vc s.c) (hw : ∀ y ∈ s.l, LfW y) :
    Calls Try.prog 39 #[.agg #[vl, vc]] w fun e w' => e = .returned (.bool (fitB s)) ∧ Below w.heap.size w w' := by
  obtain ⟨A, c, rfl, _, hl⟩ := h1.val
  obtain ⟨A2, d2, rfl, _, hl2⟩ := h2.val
  have HW := Lib.hid hw
  clear hw
  have HS := (Own.start w).box [.slice A s.l.length c, .slice A2 s.c.length d2] 37
  obtain ⟨T, hT⟩ : ∃ T, (psR s).1 = T := ⟨_, rfl⟩
  have hk0 := psR_code s
  obtain ⟨k, hk⟩ : ∃ k, (psR s).2 = k := ⟨_, rfl⟩
  have HT := Lib.hid (And.intro hT hk)
  have HF := Lib.hid (show fitB s = decide (k = 0) by unfold fitB; rw [hk])
  clear hT hk hk0
  go_enter Try.func39, Try.ntmps39
  go_wp2_with fail
  refine (show Calls Try.prog 14 _ _ (fun e w' => ∃ v', e = .returned (.tuple #[v', .int .i64 (k : Nat)]) ∧ Own _ [.own v' T] w') from by have h := specPutState s _ _ _ (HS.old h1) (HS.old h2) HW.out; rw [HT.out.1, HT.out.2] at h; exact h).mono ?_
  rintro e w1 ⟨v', rfl, hs⟩
  have H1 := HS.call1 hs
  go_wp2
  go_ret
  exact ⟨by rw [HF.out]; have hkb : ((k : Int) == 0) = decide (k = 0) := (by rw [Bool.eq_iff_iff]; simp); rw [← hkb]; rfl, H1.below⟩
end Go.Proofs.Ytbcgbkeldcaalaa
