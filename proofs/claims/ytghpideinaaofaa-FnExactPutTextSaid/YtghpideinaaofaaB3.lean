/- FnExactPutText: for every string the law returns true, and the string reads behind the call as it read before. No condition. -/
import Derived.Test.YtghpideinaaofaaRows
import Derived.Test.YtghpideinaaofaaB2
import Derived.Test.YtghpideinaaofaaFf
import Derived.Test.YtghpideinaaofaaDc
namespace Go.Proofs.Ytghpideinaaofaa
open Go.RowKit Go.Ow
attribute [local irreducible] wpQuiet
set_option maxRecDepth 100000
theorem lawPutText (s : ByteArray) (w : World) : Calls Try.prog 6 #[.string s] w fun e w' => e = .returned (.bool true) ∧ Below w.heap.size w w' := by
  have HS := Own.start w
  by_cases hn : s.size ≤ 1048576
  · have hl := uv_len10 s.size (by omega)
    have ht := Lib.hid (show (txt s).length ≤ 1048586 by unfold txt; rw [List.length_append, size_list]; omega)
    go_enter Try.func6, Try.ntmps6
    go_wp2_with fail
    refine (specPutText s _ (by omega)).mono ?_; rintro e w1 ⟨v1, rfl, hs⟩; obtain ⟨A1, c1, rfl, _, _⟩ := (hs.rd 0 rfl).val; (first | have H' := HS.call1 hs | have H' := HS.drew.call1 hs | have H' := (HS.box0 [_] _).call1 hs | have H' := ((HS.box0 [_] _).box0 [_] _).call1 hs | have H' := (HS.alloc _).call1 hs | have H' := ((HS.alloc _).alloc _).call1 hs); clear HS; have HS := H'; clear H'; have F := HS.facts; simp only [Own.Facts, Own.Cells, World.size_alloc] at F
    go_wp2_with fail
    refine (implPutText s _ (by omega)).mono ?_; rintro e w2 ⟨v2, rfl, hs⟩; obtain ⟨A2, c2, rfl, _, _⟩ := (hs.rd 0 rfl).val; (first | have H' := HS.call1 hs | have H' := HS.drew.call1 hs | have H' := (HS.box0 [_] _).call1 hs | have H' := ((HS.box0 [_] _).box0 [_] _).call1 hs | have H' := (HS.alloc _).call1 hs | have H' := ((HS.alloc _).alloc _).call1 hs); clear HS; have HS := H'; clear H'; have F := HS.facts; simp only [Own.Facts, Own.Cells, World.size_alloc] at F
    go_wp2_with fail
    refine (eqByteS (txt s) (txt s) _ _ _ (by repeat (first | exact HS.rd 0 rfl | exact HS.rd 1 rfl | exact HS.rd 2 rfl | exact HS.rd 3 rfl | exact HS.rd 4 rfl | exact HS.rd 5 rfl | exact HS.drew.rd 0 rfl | exact HS.drew.rd 1 rfl | exact HS.drew.rd 2 rfl | exact HS.drew.rd 3 rfl | exact HS.drew.rd 4 rfl | exact HS.drew.rd 5 rfl | refine Rd.alloc ?_ _)) (HS.rd 1 rfl)).mono ?_; rintro e w3 ⟨rfl, hb⟩; (first | have H' := HS.of_below hb | have H' := HS.drew.of_below hb | have H' := (HS.box0 [_] _).of_below hb | have H' := ((HS.box0 [_] _).box0 [_] _).of_below hb | have H' := (HS.alloc _).of_below hb | have H' := ((HS.alloc _).alloc _).of_below hb); clear HS; have HS := H'; clear H'; have F := HS.facts; simp only [Own.Facts, Own.Cells, World.size_alloc] at F
    go_wp2_with fail
    refine (markByteS _ _ 1 _ HS (by omega)).mono ?_
    rintro e w4 ⟨rfl, HS4⟩
    go_wp2_with fail
    refine (heldByteS _ _ 1 _ HS4 (by omega) (by have := ht.out; omega)).mono ?_
    rintro e w5 ⟨rfl, hb5⟩
    have HS5 := HS4.of_below hb5
    clear HS HS4
    have HS := HS5
    clear HS5
    go_wp2_with fail
    refine (implPutText s _ (by omega)).mono ?_; rintro e w6 ⟨v6, rfl, hs⟩; obtain ⟨A6, c6, rfl, _, _⟩ := (hs.rd 0 rfl).val; (first | have H' := HS.call1 hs | have H' := HS.drew.call1 hs | have H' := (HS.box0 [_] _).call1 hs | have H' := ((HS.box0 [_] _).box0 [_] _).call1 hs | have H' := (HS.alloc _).call1 hs | have H' := ((HS.alloc _).alloc _).call1 hs); clear HS; have HS := H'; clear H'; have F := HS.facts; simp only [Own.Facts, Own.Cells, World.size_alloc] at F
    go_wp2_with fail
    refine (eqByteS (txt s) (txt s) _ _ _ (by repeat (first | exact HS.rd 0 rfl | exact HS.rd 1 rfl | exact HS.rd 2 rfl | exact HS.rd 3 rfl | exact HS.rd 4 rfl | exact HS.rd 5 rfl | exact HS.drew.rd 0 rfl | exact HS.drew.rd 1 rfl | exact HS.drew.rd 2 rfl | exact HS.drew.rd 3 rfl | exact HS.drew.rd 4 rfl | exact HS.drew.rd 5 rfl | refine Rd.alloc ?_ _)) (HS.rd 2 rfl)).mono ?_; rintro e w7 ⟨rfl, hb⟩; (first | have H' := HS.of_below hb | have H' := HS.drew.of_below hb | have H' := (HS.box0 [_] _).of_below hb | have H' := ((HS.box0 [_] _).box0 [_] _).of_below hb | have H' := (HS.alloc _).of_below hb | have H' := ((HS.alloc _).alloc _).of_below hb); clear HS; have HS := H'; clear H'; have F := HS.facts; simp only [Own.Facts, Own.Cells, World.size_alloc] at F
    go_wp2
    go_ret
    exact ⟨rfl, HS.below⟩
  · go_enter Try.func6, Try.ntmps6
    go_wp2
    go_ret
    exact ⟨rfl, HS.below⟩
namespace fnExactPutText
open Go.ChangeShapes Go.WideShapes Go.ChangeAt Go.RowKit Go.Ow
set_option linter.unusedVariables false
theorem own : ownKnob Try.prog.godebug = none := by kernel_rfl
theorem laidOut : laidOutB Try.prog = true := laidOutF
set_option maxRecDepth 100000 in
theorem lifted (os : Os) (started : os.Started) (H : Type) (enc : TypeId × Value → H) :
    ReturnsInHanded {} Try.checked os 6 .any (Rows.fnExactPutTextSpec.pre6 enc Try.prog Try.f6 Rows.fnExactPutTextRow.domain false) (Rows.fnExactPutTextSpec.post enc Try.prog Try.f6 false true false false) := by
  refine returnsInHanded_of_change_sized (C := Try.checked) own started (by kernel_rfl) Try.func6
    (ChangeSpec.witness6 (enc := enc) (C := Try.checked) false ⟨#[], #[.string ByteArray.empty], []⟩ 8 (by kernel_rfl) (by kernel_rfl) (by kernel_rfl) (by kernel_rfl)) ?_
  intro W base args ds gs before hval0 hW hcnd hsz0 _
  have hsz : (DataW.weightsEach Try.prog (Try.f6.params.toList ++ Rows.fnExactPutTextSpec.plain.varTypes Try.prog) (ds ++ gs)).all (· ≤ reachBytes) = true := hsz0
  have hval : ∀ (j : Nat) t v, Try.f6.params[j]? = some t → args[j]? = some v → Value.okWide Try.prog W .any base t v := hval0
  have hW' := hW
  obtain ⟨p, q, hA0, hV, rfl, hfz, hnd⟩ := hW
  have hA : DataW.TrodAll enc Try.prog W 0 (fun _ => true) true Try.f6.params.toList args.toList ds p := hA0
  rw [Try.params6] at hA hval hsz
  obtain ⟨v0, vs0, d0, ds0, p0, q0, hargs, rfl, rfl, h0, r0⟩ := trodAll_cons hA
  obtain ⟨rfl, rfl, rfl⟩ := trodAll_nil r0
  obtain rfl : args = #[v0] := by cases args; simp_all
  obtain ⟨rfl, rfl⟩ := trodVars_none hV
  have hwt : ∀ n ∈ DataW.weightsEach Try.prog [9] [d0], n ≤ 140737488351232 := by
    have hsz2 : (DataW.weightsEach Try.prog [9] [d0]).all (· ≤ reachBytes) = true := hsz
    exact fun n hn => of_decide_eq_true (List.all_eq_true.1 hsz2 n hn)
  have k0 := h0
  have lt0 : ∀ x ∈ p0, x.block < W.heap.size := by obtain ⟨m, hm⟩ := k0; exact DataW.trod_lt m _ _ _ hm
  have wk0 := hval 0 9 v0 rfl rfl
  obtain ⟨fu0, hf0⟩ := h0
  have ww0 : ∀ n ∈ DataW.weights Try.prog 9 d0, n ≤ 140737488351232 := fun n hn => hwt n (weights_each (i := 0) rfl rfl n hn)
  obtain ⟨s, rfl, ok_s⟩ := open_s Try.underlying9 hf0 ww0 wk0
  clear hA0 hval0 hsz0 hsz
  refine (lawPutText s W).mono fun e W' ⟨he, bel⟩ => ?_
  subst he
  exact ⟨_, rfl, _, _, _, [], _, [], hW', trodAll_mk1 (shut_bool Try.underlying4 _), (trodAll_cons_mk (Below.trod laidOut (by kernel_rfl) (of_decide_eq_true (by kernel_rfl)) k0 bel lt0) trodAll_mk0), rfl, bel.frame _, fun h => by cases h⟩
theorem joined : joinedFacts Try.prog 6 Try.f6 Rows.fnExactPutTextSpec Rows.fnExactPutTextRow = true := by
  unfold joinedFacts
  simp only [Bool.and_eq_true, mayEnter, liftsFinal, make, laidOutF, mapsRowedF, stopsF, knobsF, plainKeysF, heardF]
  repeat' (refine And.intro ?_ ?_)
  all_goals first | exact trivial | with_reducible rfl | kernel_rfl
theorem over : Rows.fnExactPutTextRow.holds Try.pinned (OpenSpec.ofChange Rows.fnExactPutTextSpec) :=
  OpenClaim.holds_of_wide 6 Try.f6 rfl rfl rfl rfl rfl rfl rfl ⟨rfl, rfl, rfl, rfl, rfl⟩ rfl rfl rfl rfl rfl (by kernel_rfl) Try.func6 joined (of_decide_eq_true (by kernel_rfl))
    (by unfold Func.isWrapper; first | (rw [if_pos (by decide +kernel)]; kernel_rfl) | (rw [if_neg (by decide +kernel)]; exact ⟨rfl, rfl⟩))
    (fun os started H enc _ => lifted os started H enc)
end fnExactPutText
theorem fnExactPutText_holds : Rows.FnExactPutTextSaid := fnExactPutText.over
#print axioms fnExactPutText_holds
end Go.Proofs.Ytghpideinaaofaa
