/- FnExactNewWorld: for every number the law returns true. No condition. -/
import Derived.Test.YtonkdmjhlaikhaaRows
import Derived.Test.YtonkdmjhlaikhaaW2
import Derived.Test.YtonkdmjhlaikhaaW3
import Derived.Test.YtonkdmjhlaikhaaW6
import Derived.Test.YtonkdmjhlaikhaaDc
import Derived.Test.YtonkdmjhlaikhaaFf
namespace Go.Proofs.Ytonkdmjhlaikhaa
set_option linter.unusedSimpArgs false
set_option linter.unusedVariables false
open Go.RowKit Go.Ow
attribute [local irreducible] wpQuiet
set_option maxRecDepth 100000
theorem rowU_len (a b : Nat) : (rowU a b).length ≤ b := by
  unfold rowU; rw [List.length_map]; exact Nat.le_trans (List.length_filter_le _ _) (by simp)
theorem keysU_len (n : Nat) : ∀ a, (keysU n a).length ≤ n * a
  | 0 => by simp [keysU]
  | a + 1 => by
    rw [keysU_succ, List.length_append, Nat.mul_succ]
    have := rowU_len a n
    have := keysU_len n a
    omega
theorem wld_len {n : Int} {rs : List Rz} {ps : List Pz} (h1 : rs.map (·.i) = idsU (wldN n)) (h2 : ps.map Pz.key = keysU (wldN n) (wldN n)) : rs.length ≤ 100 ∧ ps.length ≤ 100 := by
  have hN : wldN n ≤ 8 := by
    unfold wldN
    split
    · rename_i h; unfold wldOk at h; simp at h; omega
    · omega
  have e1 := congrArg List.length h1
  have e2 := congrArg List.length h2
  have e3 := keysU_len (wldN n) (wldN n)
  have e4 : wldN n * wldN n ≤ 8 * 8 := Nat.mul_le_mul hN hN
  simp only [List.length_map, idsU, List.length_range] at e1 e2
  omega
theorem markWorld {W : World} {R : List Ds} (rs : List Rz) (ps : List Pz) (v1 v2 : Value) (w : World) (HS : Own W (.own v1 rs :: .own v2 ps :: R) w) (h1 : rs.length ≤ 100) (h2 : ps.length ≤ 100) : Calls Try.prog 36 #[.agg #[v1, v2], .int .i64 1] w fun e w' => e = .returned (.int .i64 ((1 + rs.length + 4 * ps.length : Nat) : Int)) ∧ ∃ (zs : List Rz) (ys : List Pz), Hid (zs.length = rs.length) ∧ Hid (ys.length = ps.length) ∧ Hid (∀ i (h : i < zs.length), zs[i].i = ((1 + i : Nat) : Int)) ∧ Hid (∀ i (h : i < ys.length), pmark (1 + rs.length) i ys[i]) ∧ Own W (.own v1 zs :: .own v2 ys :: R) w' := by
  obtain ⟨A1, c1, rfl, _, _⟩ := (HS.rd 0 rfl).val
  obtain ⟨A2, c2, rfl, _, _⟩ := (HS.rd 1 rfl).val
  have HB := ((HS.box (b := w.heap.size) [.slice A1 rs.length c1, .slice A2 ps.length c2] 65).pick 1 rfl)
  have F := HB.facts
  simp only [Own.Facts, Own.Cells, List.eraseIdx_cons_succ, List.eraseIdx_cons_zero, Nat.zero_add] at F
  go_enter Try.func36, Try.ntmps36
  go_wp2_with fail
  refine (markReplicaS rs _ 1 _ HB (by omega) h1).mono ?_
  rintro e w1 ⟨rfl, zs, hz1, hz2, H1⟩
  clear HB F
  have H2 := H1.pick 2 rfl
  have F := H2.facts
  simp only [Own.Facts, Own.Cells, List.eraseIdx_cons_succ, List.eraseIdx_cons_zero, Nat.zero_add] at F
  go_wp2_with fail
  refine (markPipeS ps _ (1 + rs.length) _ H2 (by omega) h2).mono ?_
  rintro e w2 ⟨rfl, ys, hy1, hy2, H3⟩
  go_wp2
  go_ret
  exact ⟨rfl, zs, ys, hz1, hy1, hz2, hy2, ((H3.pick 2 rfl).drop).pick 1 rfl⟩
theorem heldWorld (zs : List Rz) (ys : List Pz) (v1 v2 : Value) (w : World) (h1 : Rd w v1 zs) (h2 : Rd w v2 ys) (h3 : zs.length ≤ 100) (h4 : ys.length ≤ 100) (h5 : ∀ i (h : i < zs.length), zs[i].i = ((1 + i : Nat) : Int)) (h6 : ∀ i (h : i < ys.length), pmark (1 + zs.length) i ys[i]) : Calls Try.prog 37 #[.agg #[v1, v2], .int .i64 1] w fun e w' => e = .returned (.int .i64 ((1 + zs.length + 4 * ys.length : Nat) : Int)) ∧ Below w.heap.size w w' := by
  obtain ⟨A1, c1, rfl, _, _⟩ := h1.val
  obtain ⟨A2, c2, rfl, _, _⟩ := h2.val
  have HS := (Own.start w).box [.slice A1 zs.length c1, .slice A2 ys.length c2] 65
  have H5 := Lib.hid h5
  have H6 := Lib.hid h6
  clear h5 h6
  go_enter Try.func37, Try.ntmps37
  go_wp2_with fail
  refine (heldReplicaS zs _ 1 _ (HS.old h1) (by omega) h3 H5.out).mono ?_; rintro e w1 ⟨rfl, hb⟩; (first | have H' := HS.of_below hb | have H' := HS.drew.of_below hb | have H' := (HS.box0 [_] _).of_below hb | have H' := ((HS.box0 [_] _).box0 [_] _).of_below hb | have H' := (HS.alloc _).of_below hb | have H' := ((HS.alloc _).alloc _).of_below hb); clear HS; have HS := H'; clear H'; have F := HS.facts; simp only [Own.Facts, Own.Cells, World.size_alloc, List.cons_append, List.nil_append, List.eraseIdx_cons_succ, List.eraseIdx_cons_zero, List.eraseIdx_zero, List.tail_cons, Nat.zero_add] at F
  go_wp2_with fail
  refine (heldPipeS ys _ (1 + zs.length) _ (HS.old h2) (by omega) h4 H6.out).mono ?_; rintro e w2 ⟨rfl, hb⟩; (first | have H' := HS.of_below hb | have H' := HS.drew.of_below hb | have H' := (HS.box0 [_] _).of_below hb | have H' := ((HS.box0 [_] _).box0 [_] _).of_below hb | have H' := (HS.alloc _).of_below hb | have H' := ((HS.alloc _).alloc _).of_below hb); clear HS; have HS := H'; clear H'; have F := HS.facts; simp only [Own.Facts, Own.Cells, World.size_alloc, List.cons_append, List.nil_append, List.eraseIdx_cons_succ, List.eraseIdx_cons_zero, List.eraseIdx_zero, List.tail_cons, Nat.zero_add] at F
  go_wp2
  go_ret
  exact ⟨rfl, HS.below⟩
set_option maxHeartbeats 2000000 in
theorem lawNewWorld (n : Int) (w : World) : Calls Try.prog 7 #[.int .i64 n] w fun e w' => e = .returned (.bool true) ∧ Below w.heap.size w w' := by
  have HS := Own.start w
  obtain ⟨b, hbb⟩ : ∃ b, wldOk n = b := ⟨_, rfl⟩
  have hne : (b != b) = false := by simp
  go_enter Try.func7, Try.ntmps7
  go_wp2_with fail
  refine (specNewWorld n _).mono ?_
  rintro e w1 ⟨v1, v2, rs, ps, rfl, hr1, hp1, hs⟩
  rw [hbb]
  obtain ⟨A1, c1, rfl, _, _⟩ := (hs.rd 0 rfl).val
  obtain ⟨A2, c2, rfl, _, _⟩ := (hs.rd 1 rfl).val
  replace HS := (HS.call hs).box (b := w1.heap.size) [.slice A1 rs.length c1, .slice A2 ps.length c2] 65
  have HR1 := Lib.hid hr1
  have HP1 := Lib.hid hp1
  clear hs hr1 hp1
  have F := HS.facts; simp only [Own.Facts, Own.Cells, World.size_alloc, List.cons_append, List.nil_append, List.eraseIdx_cons_succ, List.eraseIdx_cons_zero, List.eraseIdx_zero, List.tail_cons, Nat.zero_add] at F
  go_wp2_with fail
  refine (implNewWorld n _).mono ?_
  rintro e w2 ⟨v3, v4, rs2, ps2, rfl, hr2, hp2, hs⟩
  rw [hbb]
  obtain ⟨hl1, hl2⟩ := wld_len hr2 hp2
  obtain ⟨A3, c3, rfl, _, _⟩ := (hs.rd 0 rfl).val
  obtain ⟨A4, c4, rfl, _, _⟩ := (hs.rd 1 rfl).val
  replace HS := (HS.call hs).box (b := w2.heap.size) [.slice A3 rs2.length c3, .slice A4 ps2.length c4] 65
  have HR2 := Lib.hid hr2
  have HP2 := Lib.hid hp2
  clear hs hr2 hp2 F
  have F := HS.facts; simp only [Own.Facts, Own.Cells, World.size_alloc, List.cons_append, List.nil_append, List.eraseIdx_cons_succ, List.eraseIdx_cons_zero, List.eraseIdx_zero, List.tail_cons, Nat.zero_add] at F
  go_wp2_with fail
  refine (eqWorld0 rs2 rs ps2 ps _ _ _ _ _ (HS.rd 1 rfl) (HS.rd 2 rfl) (HS.rd 4 rfl) (HS.rd 5 rfl) (HR2.out.trans HR1.out.symm) (HP2.out.trans HP1.out.symm)).mono ?_; rintro e w3 ⟨rfl, hb⟩; (first | have H' := HS.of_below hb | have H' := HS.drew.of_below hb | have H' := (HS.box0 [_] _).of_below hb | have H' := ((HS.box0 [_] _).box0 [_] _).of_below hb | have H' := (HS.alloc _).of_below hb | have H' := ((HS.alloc _).alloc _).of_below hb); clear HS; have HS := H'; clear H'; have F := HS.facts; simp only [Own.Facts, Own.Cells, World.size_alloc, List.cons_append, List.nil_append, List.eraseIdx_cons_succ, List.eraseIdx_cons_zero, List.eraseIdx_zero, List.tail_cons, Nat.zero_add] at F
  go_wp2_with fail
  refine (markWorld rs2 ps2 _ _ _ (((HS.pick 1 rfl).pick 2 rfl).pick 1 rfl) hl1 hl2).mono ?_
  rintro e w4 ⟨rfl, zs, ys, hz, hy, hz2, hy2, HS4⟩
  clear HS F
  have HS := HS4
  clear HS4
  have F := HS.facts; simp only [Own.Facts, Own.Cells, World.size_alloc, List.cons_append, List.nil_append, List.eraseIdx_cons_succ, List.eraseIdx_cons_zero, List.eraseIdx_zero, List.tail_cons, Nat.zero_add] at F
  have HH := Lib.hid (heldWorld zs ys _ _ _ (HS.rd 0 rfl) (HS.rd 1 rfl) (by rw [hz.out]; exact hl1) (by rw [hy.out]; exact hl2) hz2.out (by rw [hz.out]; exact hy2.out))
  rw [hz.out, hy.out] at HH
  go_wp2_with fail
  refine HH.out.mono ?_
  rintro e w5 ⟨rfl, hb5⟩
  clear HH
  replace HS := HS.of_below hb5
  clear F
  have F := HS.facts; simp only [Own.Facts, Own.Cells, World.size_alloc, List.cons_append, List.nil_append, List.eraseIdx_cons_succ, List.eraseIdx_cons_zero, List.eraseIdx_zero, List.tail_cons, Nat.zero_add] at F
  go_wp2_with fail
  refine (implNewWorld n _).mono ?_
  rintro e w6 ⟨v5, v6, rs3, ps3, rfl, hr3, hp3, hs⟩
  rw [hbb]
  obtain ⟨A5, c5, rfl, _, _⟩ := (hs.rd 0 rfl).val
  obtain ⟨A6, c6, rfl, _, _⟩ := (hs.rd 1 rfl).val
  replace HS := (HS.call hs).box (b := w6.heap.size) [.slice A5 rs3.length c5, .slice A6 ps3.length c6] 65
  have HR3 := Lib.hid hr3
  have HP3 := Lib.hid hp3
  clear hs hr3 hp3 F
  have F := HS.facts; simp only [Own.Facts, Own.Cells, World.size_alloc, List.cons_append, List.nil_append, List.eraseIdx_cons_succ, List.eraseIdx_cons_zero, List.eraseIdx_zero, List.tail_cons, Nat.zero_add] at F
  go_wp2_with fail
  refine (eqWorld0 rs3 rs ps3 ps _ _ _ _ _ (HS.rd 1 rfl) (HS.rd 2 rfl) (HS.rd 7 rfl) (HS.rd 8 rfl) (HR3.out.trans HR1.out.symm) (HP3.out.trans HP1.out.symm)).mono ?_; rintro e w7 ⟨rfl, hb⟩; (first | have H' := HS.of_below hb | have H' := HS.drew.of_below hb | have H' := (HS.box0 [_] _).of_below hb | have H' := ((HS.box0 [_] _).box0 [_] _).of_below hb | have H' := (HS.alloc _).of_below hb | have H' := ((HS.alloc _).alloc _).of_below hb); clear HS; have HS := H'; clear H'; have F := HS.facts; simp only [Own.Facts, Own.Cells, World.size_alloc, List.cons_append, List.nil_append, List.eraseIdx_cons_succ, List.eraseIdx_cons_zero, List.eraseIdx_zero, List.tail_cons, Nat.zero_add] at F
  go_wp2
  go_ret
  exact ⟨rfl, HS.below⟩
namespace fnExactNewWorld
open Go.ChangeShapes Go.WideShapes Go.ChangeAt Go.RowKit Go.Ow
set_option linter.unusedVariables false
theorem own : ownKnob Try.prog.godebug = none := by kernel_rfl
theorem laidOut : laidOutB Try.prog = true := laidOutF
set_option maxRecDepth 100000 in
theorem lifted (os : Os) (started : os.Started) (H : Type) (enc : TypeId × Value → H) :
    ReturnsInHanded {} Try.checked os 7 .any (Rows.fnExactNewWorldSpec.pre6 enc Try.prog Try.f7 Rows.fnExactNewWorldRow.domain false) (Rows.fnExactNewWorldSpec.post enc Try.prog Try.f7 false true false false) := by
  refine returnsInHanded_of_change_sized (C := Try.checked) own started (by kernel_rfl) Try.func7
    (ChangeSpec.witness6 (enc := enc) (C := Try.checked) false ⟨#[], #[.int .i64 0], []⟩ 8 (by kernel_rfl) (by kernel_rfl) (by kernel_rfl) (by kernel_rfl)) ?_
  intro W base args ds gs before hval0 hW hcnd hsz0 _
  have hsz : (DataW.weightsEach Try.prog (Try.f7.params.toList ++ Rows.fnExactNewWorldSpec.plain.varTypes Try.prog) (ds ++ gs)).all (· ≤ reachBytes) = true := hsz0
  have hval : ∀ (j : Nat) t v, Try.f7.params[j]? = some t → args[j]? = some v → Value.okWide Try.prog W .any base t v := hval0
  have hW' := hW
  obtain ⟨p, q, hA0, hV, rfl, hfz, hnd⟩ := hW
  have hA : DataW.TrodAll enc Try.prog W 0 (fun _ => true) true Try.f7.params.toList args.toList ds p := hA0
  rw [Try.params7] at hA hval hsz
  obtain ⟨v0, vs0, d0, ds0, p0, q0, hargs, rfl, rfl, h0, r0⟩ := trodAll_cons hA
  obtain ⟨rfl, rfl, rfl⟩ := trodAll_nil r0
  obtain rfl : args = #[v0] := by cases args; simp_all
  obtain ⟨rfl, rfl⟩ := trodVars_none hV
  have hwt : ∀ n ∈ DataW.weightsEach Try.prog [3] [d0], n ≤ 140737488351232 := by
    have hsz2 : (DataW.weightsEach Try.prog [3] [d0]).all (· ≤ reachBytes) = true := hsz
    exact fun n hn => of_decide_eq_true (List.all_eq_true.1 hsz2 n hn)
  have k0 := h0
  have lt0 : ∀ x ∈ p0, x.block < W.heap.size := by obtain ⟨m, hm⟩ := k0; exact DataW.trod_lt m _ _ _ hm
  have wk0 := hval 0 3 v0 rfl rfl
  obtain ⟨fu0, hf0⟩ := h0
  have ww0 : ∀ n ∈ DataW.weights Try.prog 3 d0, n ≤ 140737488351232 := fun n hn => hwt n (weights_each (i := 0) rfl rfl n hn)
  obtain ⟨n, rfl, ok_n⟩ := open_i Try.underlying3 hf0 ww0 wk0
  clear hA0 hval0 hsz0 hsz
  refine (lawNewWorld n W).mono fun e W' ⟨he, bel⟩ => ?_
  subst he
  exact ⟨_, rfl, _, _, _, [], _, [], hW', trodAll_mk1 (shut_bool Try.underlying4 _), (trodAll_cons_mk (Below.trod laidOut (by kernel_rfl) (of_decide_eq_true (by kernel_rfl)) k0 bel lt0) trodAll_mk0), rfl, bel.frame _, fun h => by cases h⟩
theorem joined : joinedFacts Try.prog 7 Try.f7 Rows.fnExactNewWorldSpec Rows.fnExactNewWorldRow = true := by
  unfold joinedFacts
  simp only [Bool.and_eq_true, mayEnter, liftsFinal, make, laidOutF, mapsRowedF, stopsF, knobsF, plainKeysF, heardF]
  repeat' (refine And.intro ?_ ?_)
  all_goals first | exact trivial | with_reducible rfl | kernel_rfl
theorem over : Rows.fnExactNewWorldRow.holds Try.pinned (OpenSpec.ofChange Rows.fnExactNewWorldSpec) :=
  OpenClaim.holds_of_wide 7 Try.f7 rfl rfl rfl rfl rfl rfl rfl ⟨rfl, rfl, rfl, rfl, rfl⟩ rfl rfl rfl rfl rfl (by kernel_rfl) Try.func7 joined (of_decide_eq_true (by kernel_rfl))
    (by unfold Func.isWrapper; first | (rw [if_pos (by decide +kernel)]; kernel_rfl) | (rw [if_neg (by decide +kernel)]; exact ⟨rfl, rfl⟩))
    (fun os started H enc _ => lifted os started H enc)
end fnExactNewWorld
theorem fnExactNewWorld_holds : Rows.FnExactNewWorldSaid := fnExactNewWorld.over
#print axioms fnExactNewWorld_holds
end Go.Proofs.Ytonkdmjhlaikhaa
