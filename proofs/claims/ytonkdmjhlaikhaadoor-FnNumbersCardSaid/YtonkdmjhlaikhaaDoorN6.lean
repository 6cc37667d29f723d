/- FnNumbers: for all bytes the law returns true, and both arguments' bytes read behind the call as they read before; the listed variables start as the program's text lays them. No condition beyond. -/
import Derived.Test.YtonkdmjhlaikhaaDoorRows
import Derived.Test.YtonkdmjhlaikhaaDoorCards
import Derived.Test.YtonkdmjhlaikhaaDoorTie
import Derived.Test.YtonkdmjhlaikhaaDoorN5
import Derived.Test.YtonkdmjhlaikhaaDoorLv
import Derived.Test.YtonkdmjhlaikhaaDoorDc
import Derived.SevenTiedAt
namespace Go.Proofs.YtonkdmjhlaikhaaDoor
set_option linter.unusedSimpArgs false
set_option linter.unusedVariables false
open Go.Ow
theorem dcBytes : Dc Tryd.prog (List UInt8) 22 := Dc.list (Dc.byte Tryd.underlying5) Tryd.underlying22 (by kernel_rfl) (of_decide_eq_true (by kernel_rfl))
namespace fnNumbers
open Go.ChangeShapes Go.WideShapes Go.ChangeAt Go.RowKit Go.Ow
theorem own : ownKnob Tryd.prog.godebug = none := by kernel_rfl
theorem laidOut : laidOutB Tryd.prog = true := by kernel_rfl
set_option maxRecDepth 100000 in
theorem lifted (os : Os) (started : os.Started) (H : Type) (enc : TypeId × Value → H) :
    ReturnsInHanded {} Tryd.checked os 6 .any (fun w args => (Rows.fnNumbersSpec.pre enc Tryd.prog Tryd.f6 [] false w args ∧ laidMetH Tryd.prog Rows.fnNumbersRow.laid w) ∧ sizedMet enc Tryd.prog Tryd.f6 (OpenSpec.ofChange Rows.fnNumbersSpec) false w args) (Rows.fnNumbersSpec.post enc Tryd.prog Tryd.f6 false true false false) := by
  refine returnsInHanded_of_change_and (C := Tryd.checked) (X := fun w _ => laidMetH Tryd.prog Rows.fnNumbersRow.laid w) (fun _ _ _ hh h => h.of_heap hh) own started (by kernel_rfl) Tryd.func6
    (ChangeSpec.witness_at (enc := enc) (C := Tryd.checked) (os := os) (X := fun w _ => laidMetH Tryd.prog Rows.fnNumbersRow.laid w) false (laidWorld os) #[.slice none 0 0, .slice none 0 0] 8 rfl (by kernel_rfl) (by kernel_rfl) (by kernel_rfl) (by kernel_rfl) (by kernel_rfl) (laidWorld_met os _)) ?_
  intro W base args ds gs before hval0 hW hcnd hsz0 hL _
  have hsz : (DataW.weightsEach Tryd.prog (Tryd.f6.params.toList ++ Rows.fnNumbersSpec.plain.varTypes Tryd.prog) (ds ++ gs)).all (· ≤ reachBytes) = true := hsz0
  have hval : ∀ (j : Nat) t v, Tryd.f6.params[j]? = some t → args[j]? = some v → Value.okWide Tryd.prog W .any base t v := hval0
  have hW' := hW
  obtain ⟨p, q, hA0, hV0, rfl, hfz, hnd⟩ := hW
  have hA : DataW.TrodAll enc Tryd.prog W 0 (fun _ => true) true Tryd.f6.params.toList args.toList ds p := hA0
  have hV : DataW.TrodVars enc Tryd.prog W (fun _ => true) ["loop.example/s02772/impl.errShort"] gs q := hV0
  obtain ⟨a, hv0, hg⟩ := gl_of_laid hL
  obtain ⟨rfl, rfl⟩ := hV.unique (vars_read1 enc gShort gShortType Tryd.underlying63 hv0 trivial _)
  rw [Tryd.params6] at hA hval hsz
  obtain ⟨v0, vs0, d0, ds0, p0, q0, hargs, rfl, rfl, h0, r0⟩ := trodAll_cons hA
  obtain ⟨v1, vs1, d1, ds1, p1, q1, rfl, rfl, rfl, h1, r1⟩ := trodAll_cons r0
  obtain ⟨rfl, rfl, rfl⟩ := trodAll_nil r1
  obtain rfl : args = #[v0, v1] := by cases args; simp_all
  have hwt : ∀ n ∈ DataW.weightsEach Tryd.prog [22, 22, 63] [d0, d1, tok enc (.iface 154 (.pointer (some a)))], n ≤ 140737488351232 := by
    have hsz2 : (DataW.weightsEach Tryd.prog [22, 22, 63] [d0, d1, tok enc (.iface 154 (.pointer (some a)))]).all (· ≤ reachBytes) = true := hsz
    exact fun n hn => of_decide_eq_true (List.all_eq_true.1 hsz2 n hn)
  have k0 := h0
  have lt0 : ∀ x ∈ p0, x.block < W.heap.size := by obtain ⟨m, hm⟩ := k0; exact DataW.trod_lt m _ _ _ hm
  have wk0 := hval 0 22 v0 rfl rfl
  obtain ⟨fu0, hf0⟩ := h0
  have ww0 : ∀ n ∈ DataW.weights Tryd.prog 22 d0, n ≤ 140737488351232 := fun n hn => hwt n (weights_each (i := 0) rfl rfl n hn)
  obtain ⟨xs, rd_xs, ok_xs⟩ := open_l dcBytes Tryd.underlying22 hf0 ww0 wk0
  have k1 := h1
  have lt1 : ∀ x ∈ p1, x.block < W.heap.size := by obtain ⟨m, hm⟩ := k1; exact DataW.trod_lt m _ _ _ hm
  have wk1 := hval 1 22 v1 rfl rfl
  obtain ⟨fu1, hf1⟩ := h1
  have ww1 : ∀ n ∈ DataW.weights Tryd.prog 22 d1, n ≤ 140737488351232 := fun n hn => hwt n (weights_each (i := 1) rfl rfl n hn)
  obtain ⟨ys, rd_ys, ok_ys⟩ := open_l dcBytes Tryd.underlying22 hf1 ww1 wk1
  clear hA0 hval0 hsz0 hsz hV0
  refine (lawNumbers a xs ys _ _ W rd_xs rd_ys hg).mono fun e W' ⟨he, bel⟩ => ?_
  subst he
  exact ⟨_, rfl, _, _, _, [], _, _, hW', trodAll_mk1 (shut_bool Tryd.underlying4 _), (trodAll_cons_mk (Below.trod laidOut (by kernel_rfl) (of_decide_eq_true (by kernel_rfl)) k0 bel lt0) (trodAll_cons_mk (Below.trod laidOut (by kernel_rfl) (of_decide_eq_true (by kernel_rfl)) k1 bel lt1) trodAll_mk0)), vars_read1 enc gShort gShortType Tryd.underlying63 (var?_bel hv0 bel) trivial _, bel.frame _, fun h => by cases h⟩
theorem over : Rows.fnNumbersRow.holds Tryd.pinned (OpenSpec.ofChange Rows.fnNumbersSpec) :=
  OpenClaim.holds_of_wide 6 Tryd.f6 rfl rfl rfl rfl rfl rfl rfl ⟨rfl, rfl, rfl, rfl, rfl⟩ rfl rfl rfl rfl rfl (by kernel_rfl) Tryd.func6 (by kernel_rfl) (of_decide_eq_true (by kernel_rfl))
    (by unfold Func.isWrapper; first | (rw [if_pos (by decide +kernel)]; kernel_rfl) | (rw [if_neg (by decide +kernel)]; exact ⟨rfl, rfl⟩))
    (fun os started H enc _ => lifted os started H enc)
end fnNumbers
theorem fnNumbersCard_holds : Rows.FnNumbersCardSaid :=
  Claim7.holds_tied_plain_at .later [] [.handle, .sentinel] true (true, "8f9eb482797e376c2979cf95a794933f9e9db2e1c30d786e30c1e7541ac61565") true
    fnNumbers.over (fun _ h => by cases h) (by kernel_rfl) (fun _ h => by cases h) fnNumbers_row_tie rfl ⟨rfl, rfl⟩ (by kernel_rfl) rfl
    (fun f fn hf hfn => by
      obtain rfl : f = 6 := Option.some.inj ((show Tryd.prog.funcNamed "loop.example/s02772/laws.FnNumbers" = some 6 by kernel_rfl).symm.trans hf) |>.symm
      obtain rfl : fn = Tryd.f6 := (Option.some.inj (Tryd.func6.symm.trans hfn)).symm
      exact ⟨by kernel_rfl, fun j t ht => by
        rw [Tryd.params6] at ht
        have hm : t ∈ [22, 22] := by have := Array.mem_of_getElem? ht; simpa using this
        have hall : ([22, 22] : List TypeId).all (fun t => Tryd.prog.wantsStandIn t == false) = true := by kernel_rfl
        have hq : Tryd.prog.wantsStandIn t = false := by simpa using List.all_eq_true.1 hall t hm
        exact hq⟩)
    (by kernel_rfl)
#print axioms fnNumbersCard_holds
end Go.Proofs.YtonkdmjhlaikhaaDoor
