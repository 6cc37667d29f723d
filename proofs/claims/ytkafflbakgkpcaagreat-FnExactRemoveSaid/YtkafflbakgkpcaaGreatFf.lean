import Derived.Test.YtkafflbakgkpcaaGreatRows
import Derived.WalkKit
import Derived.JoinedOf
import Derived.ProofKit
namespace Go.Proofs.YtkafflbakgkpcaaGreat
set_option linter.unusedSimpArgs false
set_option linter.unusedVariables false
/- The seat's facts that every row asks for. The head's word list is long: 'mayEnter', 'make' and 'liftsFinal' by kernel_rfl outgrow the kernel's memory; so the words are cut by lemma. -/
theorem wordsSigns_app : ∀ (a b : List Char), ' ' ∉ a → wordsSigns (a ++ ' ' :: b) = a :: wordsSigns b
  | [], b, _ => by simp [wordsSigns]
  | c :: a, b, h => by
    have ih := wordsSigns_app a b (fun x => h (List.mem_cons_of_mem _ x))
    have hc : c ≠ ' ' := fun e => h (e ▸ List.mem_cons_self)
    rw [List.cons_append, wordsSigns, ih]
    exact hc
theorem may_gen (P : Program) (X) (h : behindMainWord (wordsSigns P.initOrder.toList) = "cut".toList :: X) (h1 : P.laysLater = false) (h2 : P.bearsReflect = false) (h3 : P.doorFits [] = true) : P.mayEnter = true := by
  unfold Program.mayEnter
  rw [h]
  have e : stripLifts liftWords ("cut".toList :: X) = ([], "cut".toList :: X) := by rfl
  simp only [e, h1, h2, h3]
  rfl
theorem lifts_gen (P : Program) (X) (h : behindMainWord (wordsSigns P.initOrder.toList) = "cut".toList :: X) : P.liftsFinal = false := by
  unfold Program.liftsFinal Program.headLifts
  have e : stripLifts liftWords ("cut".toList :: X) = ([], "cut".toList :: X) := by rfl
  simp only [h, e]
  rfl
theorem make_gen (P : Program) (X) (h : behindMainWord (wordsSigns P.initOrder.toList) = "cut".toList :: X) : P.make = some .cut := by
  unfold Program.make Program.headLifts
  rw [h]
  rfl
theorem behind_gen (h s : List Char) (X) (hh : (h == "harness".toList) = true) (hs : isSumSigns s = true) : behindMainWord (h :: s :: X) = X := by
  unfold behindMainWord
  exact if_pos (by rw [hh, hs]; rfl)
set_option maxRecDepth 100000 in
theorem initL : Tryz.prog.initOrder.toList = ['h', 'a', 'r', 'n', 'e', 's', 's'] ++ ' ' :: (['5', '4', 'b', 'd', '3', '5', '3', '0', '7', 'e', '1', '0', 'c', '9', 'e', '6', '4', '4', '2', '9', '3', 'c', 'b', 'e', '2', '9', '4', '9', 'f', '1', '1', '7', '6', '8', '8', '4', '2', '7', 'f', '5', 'f', 'a', '3', '1', 'e', 'e', '4', '2', 'd', 'c', '6', 'a', '2', '7', '6', 'f', '7', '2', 'a', 'b', 'f', 'f', '4', 'd'] ++ ' ' :: (['c', 'u', 't'] ++ ' ' :: ['a', 't', ' ', 'l', 'o', 'o', 'p', '.', 'e', 'x', 'a', 'm', 'p', 'l', 'e', '/', 's', '0', '2', '7', '7', '2', '/', 'l', 'a', 'w', 's', '.', 'F', 'n', 'E', 'x', 'a', 'c', 't', 'R', 'e', 'm', 'o', 'v', 'e', ' ', 'l', 'o', 'o', 'p', '.', 'e', 'x', 'a', 'm', 'p', 'l', 'e', '/', 's', '0', '2', '7', '7', '2', '/', 'l', 'a', 'w', 's', '.', 'F', 'n', 'E', 'x', 'a', 'c', 't', 'S', 'e', 't', 'F', 'l', 'a', 'g', ' ', 'l', 'o', 'o', 'p', '.', 'e', 'x', 'a', 'm', 'p', 'l', 'e', '/', 's', '0', '2', '7', '7', '2', '/', 'l', 'a', 'w', 's', '.', 'F', 'n', 'E', 'x', 'a', 'c', 't', 'W', 'r', 'i', 't', 'e', 'R', 'e', 'g'])) := String.toList_ofList
theorem words_gen (h s r l : List Char) (e : l = h ++ ' ' :: (s ++ ' ' :: ("cut".toList ++ ' ' :: r))) (h1 : ' ' ∉ h) (h2 : ' ' ∉ s) (hh : (h == "harness".toList) = true) (hs : isSumSigns s = true) :
    behindMainWord (wordsSigns l) = "cut".toList :: wordsSigns r := by
  rw [e, wordsSigns_app _ _ h1, wordsSigns_app _ _ h2, behind_gen _ _ _ hh hs, wordsSigns_app _ _ (of_decide_eq_true (by kernel_rfl))]
theorem words : ∃ X, behindMainWord (wordsSigns Tryz.prog.initOrder.toList) = "cut".toList :: X :=
  ⟨_, words_gen _ _ _ _ initL (of_decide_eq_true (by kernel_rfl)) (of_decide_eq_true (by kernel_rfl)) (by kernel_rfl) (by kernel_rfl)⟩
theorem mayEnter : Tryz.prog.mayEnter = true := words.elim fun X h => may_gen _ X h (by kernel_rfl) (by kernel_rfl) (by kernel_rfl)
theorem liftsFinal : Tryz.prog.liftsFinal = false := words.elim fun X h => lifts_gen _ X h
theorem make : Tryz.prog.make = some .cut := words.elim fun X h => make_gen _ X h
theorem laidOutF : laidOutB Tryz.prog = true := by kernel_rfl
theorem mapsRowedF : mapsRowed Tryz.prog = true := by kernel_rfl
theorem stopsF : (Tryz.prog.stops == []) = true := by kernel_rfl
theorem knobsF : (Tryz.prog.stopKnobs == []) = true := by kernel_rfl
theorem plainKeysF : (Tryz.prog.plainKeys) = false := by kernel_rfl
theorem heardF : Tryz.prog.stopsHeard = true := by kernel_rfl
end Go.Proofs.YtkafflbakgkpcaaGreat
