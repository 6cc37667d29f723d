/- FnExactCrc32: for all bytes the law returns true, and the bytes read behind the call as they read before. No condition. -/
import Derived.Test.YtghpideinaaofaaRows
import Derived.Test.YtghpideinaaofaaK1
import Derived.Test.YtghpideinaaofaaFf
import Derived.Test.YtghpideinaaofaaDc
namespace Go.Proofs.Ytghpideinaaofaa
open Go.RowKit Go.Ow
attribute [local irreducible] wpQuiet
set_option maxRecDepth 100000
theorem lawCrc32 (xs : List UInt8) (v : Value) (w : World) (hv : Rd w v xs) : Calls Try.prog 7 #[v] w fun e w' => e = .returned (.bool true) ∧ Below w.heap.size w w' := by
  obtain ⟨A, c, rfl, hc, hl⟩ := hv.val
  have HS := Own.start w
  by_cases hn : xs.length ≤ 1048576
  · go_enter Try.func7, Try.ntmps7
    go_wp2_with fail
    refine (toByteS xs _ _ (by repeat (first | exact HS.old hv | exact HS.rd 0 rfl | exact HS.rd 1 rfl | exact HS.rd 2 rfl | exact HS.rd 3 rfl | exact HS.rd 4 rfl | exact HS.rd 5 rfl | exact HS.drew.old hv | exact HS.drew.rd 0 rfl | exact HS.drew.rd 1 rfl | exact HS.drew.rd 2 rfl | exact HS.drew.rd 3 rfl | exact HS.drew.rd 4 rfl | exact HS.drew.rd 5 rfl | refine Rd.alloc ?_ _))).mono ?_; rintro e w1 ⟨v1, rfl, hs⟩; obtain ⟨A1, c1, rfl, _, _⟩ := (hs.rd 0 rfl).val; (first | have H' := HS.call1 hs | have H' := HS.drew.call1 hs | have H' := (HS.box0 [_] _).call1 hs | have H' := ((HS.box0 [_] _).box0 [_] _).call1 hs | have H' := (HS.alloc _).call1 hs | have H' := ((HS.alloc _).alloc _).call1 hs); clear HS; have HS := H'; clear H'; have F := HS.facts; simp only [Own.Facts, Own.Cells, World.size_alloc] at F
    go_wp2_with fail
    refine (specCrc xs _ _ (by repeat (first | exact HS.old hv | exact HS.rd 0 rfl | exact HS.rd 1 rfl | exact HS.rd 2 rfl | exact HS.rd 3 rfl | exact HS.rd 4 rfl | exact HS.rd 5 rfl | exact HS.drew.old hv | exact HS.drew.rd 0 rfl | exact HS.drew.rd 1 rfl | exact HS.drew.rd 2 rfl | exact HS.drew.rd 3 rfl | exact HS.drew.rd 4 rfl | exact HS.drew.rd 5 rfl | refine Rd.alloc ?_ _))).mono ?_; rintro e w2 ⟨rfl, hb⟩; (first | have H' := HS.of_below hb | have H' := HS.drew.of_below hb | have H' := (HS.box0 [_] _).of_below hb | have H' := ((HS.box0 [_] _).box0 [_] _).of_below hb | have H' := (HS.alloc _).of_below hb | have H' := ((HS.alloc _).alloc _).of_below hb); clear HS; have HS := H'; clear H'; have F := HS.facts; simp only [Own.Facts, Own.Cells, World.size_alloc] at F
    go_wp2_with fail
    refine (toByteS xs _ _ (by repeat (first | exact HS.old hv | exact HS.rd 0 rfl | exact HS.rd 1 rfl | exact HS.rd 2 rfl | exact HS.rd 3 rfl | exact HS.rd 4 rfl | exact HS.rd 5 rfl | exact HS.drew.old hv | exact HS.drew.rd 0 rfl | exact HS.drew.rd 1 rfl | exact HS.drew.rd 2 rfl | exact HS.drew.rd 3 rfl | exact HS.drew.rd 4 rfl | exact HS.drew.rd 5 rfl | refine Rd.alloc ?_ _))).mono ?_; rintro e w3 ⟨v3, rfl, hs⟩; obtain ⟨A3, c3, rfl, _, _⟩ := (hs.rd 0 rfl).val; (first | have H' := HS.call1 hs | have H' := HS.drew.call1 hs | have H' := (HS.box0 [_] _).call1 hs | have H' := ((HS.box0 [_] _).box0 [_] _).call1 hs | have H' := (HS.alloc _).call1 hs | have H' := ((HS.alloc _).alloc _).call1 hs); clear HS; have HS := H'; clear H'; have F := HS.facts; simp only [Own.Facts, Own.Cells, World.size_alloc] at F
    go_wp2_with fail
    refine (implCrc xs _ _ (by repeat (first | exact HS.old hv | exact HS.rd 0 rfl | exact HS.rd 1 rfl | exact HS.rd 2 rfl | exact HS.rd 3 rfl | exact HS.rd 4 rfl | exact HS.rd 5 rfl | exact HS.drew.old hv | exact HS.drew.rd 0 rfl | exact HS.drew.rd 1 rfl | exact HS.drew.rd 2 rfl | exact HS.drew.rd 3 rfl | exact HS.drew.rd 4 rfl | exact HS.drew.rd 5 rfl | refine Rd.alloc ?_ _))).mono ?_; rintro e w4 ⟨rfl, hb⟩; (first | have H' := HS.of_below hb | have H' := HS.drew.of_below hb | have H' := (HS.box0 [_] _).of_below hb | have H' := ((HS.box0 [_] _).box0 [_] _).of_below hb | have H' := (HS.alloc _).of_below hb | have H' := ((HS.alloc _).alloc _).of_below hb); clear HS; have HS := H'; clear H'; have F := HS.facts; simp only [Own.Facts, Own.Cells, World.size_alloc] at F
    go_wp2_with fail
    refine (toByteS xs _ _ (by repeat (first | exact HS.old hv | exact HS.rd 0 rfl | exact HS.rd 1 rfl | exact HS.rd 2 rfl | exact HS.rd 3 rfl | exact HS.rd 4 rfl | exact HS.rd 5 rfl | exact HS.drew.old hv | exact HS.drew.rd 0 rfl | exact HS.drew.rd 1 rfl | exact HS.drew.rd 2 rfl | exact HS.drew.rd 3 rfl | exact HS.drew.rd 4 rfl | exact HS.drew.rd 5 rfl | refine Rd.alloc ?_ _))).mono ?_; rintro e w5 ⟨v5, rfl, hs⟩; obtain ⟨A5, c5, rfl, _, _⟩ := (hs.rd 0 rfl).val; (first | have H' := HS.call1 hs | have H' := HS.drew.call1 hs | have H' := (HS.box0 [_] _).call1 hs | have H' := ((HS.box0 [_] _).box0 [_] _).call1 hs | have H' := (HS.alloc _).call1 hs | have H' := ((HS.alloc _).alloc _).call1 hs); clear HS; have HS := H'; clear H'; have F := HS.facts; simp only [Own.Facts, Own.Cells, World.size_alloc] at F
    go_wp2_with fail
    refine (eqByteS xs xs _ _ _ (HS.rd 1 rfl) (HS.rd 0 rfl)).mono ?_; rintro e w6 ⟨rfl, hb⟩; (first | have H' := HS.of_below hb | have H' := HS.drew.of_below hb | have H' := (HS.box0 [_] _).of_below hb | have H' := ((HS.box0 [_] _).box0 [_] _).of_below hb | have H' := (HS.alloc _).of_below hb | have H' := ((HS.alloc _).alloc _).of_below hb); clear HS; have HS := H'; clear H'; have F := HS.facts; simp only [Own.Facts, Own.Cells, World.size_alloc] at F
    go_wp2
    go_ret
    exact ⟨rfl, HS.below⟩
  · go_enter Try.func7, Try.ntmps7
    go_wp2
    go_ret
    exact ⟨rfl, HS.below⟩
theorem dcBytes : Dc Try.prog (List UInt8) 23 := Dc.list (Dc.byte Try.underlying5) Try.underlying23 (by kernel_rfl) (of_decide_eq_true (by kernel_rfl))
namespace fnExactCrc32
open Go.ChangeShapes Go.WideShapes Go.ChangeAt Go.RowKit Go.Ow
set_option linter.unusedVariables false
theorem own : ownKnob Try.prog.godebug = none := by kernel_rfl
theorem laidOut : laidOutB Try.prog = true := laidOutF
set_option maxRecDepth 100000 in
theorem lifted (os : Os) (started : os.Started) (H : Type) (enc : TypeId × Value → H) :
    ReturnsInHanded {} Try.checked os 7 .any (Rows.fnExactCrc32Spec.pre6 enc Try.prog Try.f7 Rows.fnExactCrc32Row.domain false) (Rows.fnExactCrc32Spec.post enc Try.prog Try.f7 false true false false) := by
  refine returnsInHanded_of_change_sized (C := Try.checked) own started (by kernel_rfl) Try.func7
    (ChangeSpec.witness6 (enc := enc) (C := Try.checked) false ⟨#[], #[.slice none 0 0], []⟩ 8 (by kernel_rfl) (by kernel_rfl) (by kernel_rfl) (by kernel_rfl)) ?_
  intro W base args ds gs before hval0 hW hcnd hsz0 _
  have hsz : (DataW.weightsEach Try.prog (Try.f7.params.toList ++ Rows.fnExactCrc32Spec.plain.varTypes Try.prog) (ds ++ gs)).all (· ≤ reachBytes) = true := hsz0
  have hval : ∀ (j : Nat) t v, Try.f7.params[j]? = some t → args[j]? = some v → Value.okWide Try.prog W .any base t v := hval0
  have hW' := hW
  obtain ⟨p, q, hA0, hV, rfl, hfz, hnd⟩ := hW
  have hA : DataW.TrodAll enc Try.prog W 0 (fun _ => true) true Try.f7.params.toList args.toList ds p := hA0
  rw [Try.params7] at hA hval hsz
  obtain ⟨v0, vs0, d0, ds0, p0, q0, hargs, rfl, rfl, h0, r0⟩ := trodAll_cons hA
  obtain ⟨rfl, rfl, rfl⟩ := trodAll_nil r0
  obtain rfl : args = #[v0] := by cases args; simp_all
  obtain ⟨rfl, rfl⟩ := trodVars_none hV
  have hwt : ∀ n ∈ DataW.weightsEach Try.prog [23] [d0], n ≤ 140737488351232 := by
    have hsz2 : (DataW.weightsEach Try.prog [23] [d0]).all (· ≤ reachBytes) = true := hsz
    exact fun n hn => of_decide_eq_true (List.all_eq_true.1 hsz2 n hn)
  have k0 := h0
  have lt0 : ∀ x ∈ p0, x.block < W.heap.size := by obtain ⟨m, hm⟩ := k0; exact DataW.trod_lt m _ _ _ hm
  have wk0 := hval 0 23 v0 rfl rfl
  obtain ⟨fu0, hf0⟩ := h0
  have ww0 : ∀ n ∈ DataW.weights Try.prog 23 d0, n ≤ 140737488351232 := fun n hn => hwt n (weights_each (i := 0) rfl rfl n hn)
  obtain ⟨xs, rd_xs, ok_xs⟩ := open_l dcBytes Try.underlying23 hf0 ww0 wk0
  clear hA0 hval0 hsz0 hsz
  refine (lawCrc32 xs _ W rd_xs).mono fun e W' ⟨he, bel⟩ => ?_
  subst he
  exact ⟨_, rfl, _, _, _, [], _, [], hW', trodAll_mk1 (shut_bool Try.underlying4 _), (trodAll_cons_mk (Below.trod laidOut (by kernel_rfl) (of_decide_eq_true (by kernel_rfl)) k0 bel lt0) trodAll_mk0), rfl, bel.frame _, fun h => by cases h⟩
theorem joined : joinedFacts Try.prog 7 Try.f7 Rows.fnExactCrc32Spec Rows.fnExactCrc32Row = true := by
  unfold joinedFacts
  simp only [Bool.and_eq_true, mayEnter, liftsFinal, make, laidOutF, mapsRowedF, stopsF, knobsF, plainKeysF, heardF]
  repeat' (refine And.intro ?_ ?_)
  all_goals first | exact trivial | with_reducible rfl | kernel_rfl
theorem over : Rows.fnExactCrc32Row.holds Try.pinned (OpenSpec.ofChange Rows.fnExactCrc32Spec) :=
  OpenClaim.holds_of_wide 7 Try.f7 rfl rfl rfl rfl rfl rfl rfl ⟨rfl, rfl, rfl, rfl, rfl⟩ rfl rfl rfl rfl rfl (by kernel_rfl) Try.func7 joined (of_decide_eq_true (by kernel_rfl))
    (by unfold Func.isWrapper; first | (rw [if_pos (by decide +kernel)]; kernel_rfl) | (rw [if_neg (by decide +kernel)]; exact ⟨rfl, rfl⟩))
    (fun os started H enc _ => lifted os started H enc)
end fnExactCrc32
theorem fnExactCrc32_holds : Rows.FnExactCrc32Said := fnExactCrc32.over
#print axioms fnExactCrc32_holds
end Go.Proofs.Ytghpideinaaofaa
