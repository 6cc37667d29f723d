/- FnExactContextOk: for every context the law returns true, and the context reads behind the call as it read before. No condition. -/
import Derived.Test.YtghpideinaaofaaRows
import Derived.Test.YtghpideinaaofaaC3
import Derived.Test.YtghpideinaaofaaDc
import Derived.Test.YtghpideinaaofaaFf
namespace Go.Proofs.Ytghpideinaaofaa
open Go.Ow
instance : Wf Rn := Wf.iso (fun r : Rn => (r.r, r.f, r.t))
theorem dcInt : Dc Try.prog Int 3 := Dc.int Try.underlying3
set_option maxRecDepth 100000 in
theorem dcRun : Dc Try.prog Rn 188 := Dc.struct (DcF.iso (f := fun r : Rn => (r.r, r.f, r.t)) (g := fun p => ⟨p.1, p.2.1, p.2.2⟩) (fun _ => rfl) (DcF.cons dcInt rfl (by kernel_rfl) rfl (DcF.cons dcInt rfl (by kernel_rfl) rfl (DcF.one dcInt rfl (by kernel_rfl))))) Try.underlying188 (by kernel_rfl)
set_option maxRecDepth 100000 in
theorem dcContext : Dc Try.prog (List Rn) 38 := Dc.struct (DcF.one (Dc.list dcRun Try.underlying36 (by kernel_rfl) (of_decide_eq_true (by kernel_rfl))) rfl (by kernel_rfl)) Try.underlying38 (by kernel_rfl)
namespace fnExactContextOk
open Go.ChangeShapes Go.WideShapes Go.ChangeAt Go.RowKit Go.Ow
set_option linter.unusedVariables false
theorem own : ownKnob Try.prog.godebug = none := by kernel_rfl
theorem laidOut : laidOutB Try.prog = true := laidOutF
set_option maxRecDepth 100000 in
theorem lifted (os : Os) (started : os.Started) (H : Type) (enc : TypeId × Value → H) :
    ReturnsInHanded {} Try.checked os 8 .any (Rows.fnExactContextOkSpec.pre6 enc Try.prog Try.f8 Rows.fnExactContextOkRow.domain false) (Rows.fnExactContextOkSpec.post enc Try.prog Try.f8 false true false false) := by
  refine returnsInHanded_of_change_sized (C := Try.checked) own started (by kernel_rfl) Try.func8
    (ChangeSpec.witness6 (enc := enc) (C := Try.checked) false ⟨#[], #[.agg #[.slice none 0 0]], []⟩ 8 (by kernel_rfl) (by kernel_rfl) (by kernel_rfl) (by kernel_rfl)) ?_
  intro W base args ds gs before hval0 hW hcnd hsz0 _
  have hsz : (DataW.weightsEach Try.prog (Try.f8.params.toList ++ Rows.fnExactContextOkSpec.plain.varTypes Try.prog) (ds ++ gs)).all (· ≤ reachBytes) = true := hsz0
  have hval : ∀ (j : Nat) t v, Try.f8.params[j]? = some t → args[j]? = some v → Value.okWide Try.prog W .any base t v := hval0
  have hW' := hW
  obtain ⟨p, q, hA0, hV, rfl, hfz, hnd⟩ := hW
  have hA : DataW.TrodAll enc Try.prog W 0 (fun _ => true) true Try.f8.params.toList args.toList ds p := hA0
  rw [Try.params8] at hA hval hsz
  obtain ⟨v0, vs0, d0, ds0, p0, q0, hargs, rfl, rfl, h0, r0⟩ := trodAll_cons hA
  obtain ⟨rfl, rfl, rfl⟩ := trodAll_nil r0
  obtain rfl : args = #[v0] := by cases args; simp_all
  obtain ⟨rfl, rfl⟩ := trodVars_none hV
  have hwt : ∀ n ∈ DataW.weightsEach Try.prog [38] [d0], n ≤ 140737488351232 := by
    have hsz2 : (DataW.weightsEach Try.prog [38] [d0]).all (· ≤ reachBytes) = true := hsz
    exact fun n hn => of_decide_eq_true (List.all_eq_true.1 hsz2 n hn)
  have k0 := h0
  have lt0 : ∀ x ∈ p0, x.block < W.heap.size := by obtain ⟨m, hm⟩ := k0; exact DataW.trod_lt m _ _ _ hm
  have wk0 := hval 0 38 v0 rfl rfl
  obtain ⟨fu0, hf0⟩ := h0
  have ww0 : ∀ n ∈ DataW.weights Try.prog 38 d0, n ≤ 140737488351232 := fun n hn => hwt n (weights_each (i := 0) rfl rfl n hn)
  obtain ⟨xs, ⟨u, hu, hr⟩, _⟩ := dcContext.dc hf0 ww0
  obtain ⟨cs, rfl, _⟩ := okWide_struct Try.underlying38 wk0
  obtain rfl : cs = #[u] := by cases cs; simp_all [Value.cells]
  clear hA0 hval0 hsz0 hsz
  refine (law xs u W hr).mono fun e W' ⟨he, bel⟩ => ?_
  subst he
  exact ⟨_, rfl, _, _, _, [], _, [], hW', trodAll_mk1 (shut_bool Try.underlying4 _), (trodAll_cons_mk (Below.trod laidOut (by kernel_rfl) (of_decide_eq_true (by kernel_rfl)) k0 bel lt0) trodAll_mk0), rfl, bel.frame _, fun h => by cases h⟩
theorem joined : joinedFacts Try.prog 8 Try.f8 Rows.fnExactContextOkSpec Rows.fnExactContextOkRow = true := by
  unfold joinedFacts
  simp only [Bool.and_eq_true, mayEnter, liftsFinal, make, laidOutF, mapsRowedF, stopsF, knobsF, plainKeysF, heardF]
  repeat' (refine And.intro ?_ ?_)
  all_goals first | exact trivial | with_reducible rfl | kernel_rfl
theorem over : Rows.fnExactContextOkRow.holds Try.pinned (OpenSpec.ofChange Rows.fnExactContextOkSpec) :=
  OpenClaim.holds_of_wide 8 Try.f8 rfl rfl rfl rfl rfl rfl rfl ⟨rfl, rfl, rfl, rfl, rfl⟩ rfl rfl rfl rfl rfl (by kernel_rfl) Try.func8 joined (of_decide_eq_true (by kernel_rfl))
    (by unfold Func.isWrapper; first | (rw [if_pos (by decide +kernel)]; kernel_rfl) | (rw [if_neg (by decide +kernel)]; exact ⟨rfl, rfl⟩))
    (fun os started H enc _ => lifted os started H enc)
end fnExactContextOk
theorem fnExactContextOk_holds : Rows.FnExactContextOkSaid := fnExactContextOk.over
#print axioms fnExactContextOk_holds
end Go.Proofs.Ytghpideinaaofaa
