/- FnExactGetContext: for all bytes and every place the law returns true, and the bytes read behind the call as they read before; the listed variable starts as the program's text lays it. No condition beyond. -/
import Derived.Test.YtonkdmjhlaikhaaDoorRows
import Derived.Test.YtonkdmjhlaikhaaDoorCards
import Derived.Test.YtonkdmjhlaikhaaDoorTie
import Derived.Test.YtonkdmjhlaikhaaDoorG10
import Derived.Test.YtonkdmjhlaikhaaDoorC3
import Derived.Test.YtonkdmjhlaikhaaDoorC5
import Derived.Test.YtonkdmjhlaikhaaDoorB1
import Derived.Test.YtonkdmjhlaikhaaDoorLv
import Derived.Test.YtonkdmjhlaikhaaDoorDc
import Derived.SevenTiedAt
namespace Go.Proofs.YtonkdmjhlaikhaaDoor
set_option linter.unusedSimpArgs false
set_option linter.unusedVariables false
open Go.RowKit Go.Ow
attribute [local irreducible] wpQuiet
set_option maxRecDepth 100000
theorem cx4 {f : FuncId} {args : Array Value} {w : World} {bs : List UInt8} {pos gp : Int} {L : List Rn} {gc : Nat} (hgv : getCtx bs pos = (L, gp, gc)) (h : Calls Tryd.prog f args w fun e w' => ∃ v', e = .returned (cxV v' (getCtx bs pos)) ∧ Own w [.own v' (getCtx bs pos).1] w') :
    Calls Tryd.prog f args w fun e w' => ∃ v', e = .returned (.tuple #[.agg #[v'], .int .i64 gp, .int .i64 gc]) ∧ Own w [.own v' L] w' := by
  rw [hgv] at h; exact h
set_option maxHeartbeats 4000000 in
theorem lawGetContext (a : Addr) (xs : List UInt8) (pos : Int) (v : Value) (w : World) (hv : Rd w v xs) (hg : Gs a w) : Calls Tryd.prog 5 #[v, .int .i64 pos] w fun e w' => e = .returned (.bool true) ∧ Below w.heap.size w w' := by
  obtain ⟨A, c, rfl, hc, hl⟩ := hv.val
  have HS := Own.start w
  by_cases hn : xs.length ≤ 1048576
  · have hd : decide (xs = xs) = true := by simp
    obtain ⟨⟨L, gp, gc⟩, hgv⟩ : ∃ g, getCtx xs pos = g := ⟨_, rfl⟩
    have hd2 : decide (L = L) = true := by simp
    go_enter Tryd.func5, Tryd.ntmps5
    go_wp2_with fail
    refine (toByteS xs _ _ (by repeat (first | exact HS.old hv | exact HS.rd 0 rfl | exact HS.rd 1 rfl | exact HS.rd 2 rfl | exact HS.rd 3 rfl | exact HS.rd 4 rfl | exact HS.rd 5 rfl | exact HS.drew.old hv | exact HS.drew.rd 0 rfl | exact HS.drew.rd 1 rfl | exact HS.drew.rd 2 rfl | exact HS.drew.rd 3 rfl | exact HS.drew.rd 4 rfl | exact HS.drew.rd 5 rfl | refine Rd.alloc ?_ _))).mono ?_; rintro e w1 ⟨v1, rfl, hs⟩; obtain ⟨A1, c1, rfl, _, _⟩ := (hs.rd 0 rfl).val; (first | have H' := HS.call1 hs | have H' := HS.drew.call1 hs | have H' := (HS.box0 [_] _).call1 hs | have H' := ((HS.box0 [_] _).box0 [_] _).call1 hs | have H' := (HS.alloc _).call1 hs | have H' := ((HS.alloc _).alloc _).call1 hs); clear HS; have HS := H'; clear H'; have F := HS.facts; simp only [Own.Facts, Own.Cells, World.size_alloc, List.cons_append, List.nil_append, List.eraseIdx_cons_succ, List.eraseIdx_cons_zero, List.eraseIdx_zero, List.tail_cons, Nat.zero_add] at F
    go_wp2_with fail
    refine (cx4 hgv (specGetContext xs pos _ _ (HS.rd 0 rfl))).mono ?_; rintro e w2 ⟨v2, rfl, hs⟩; obtain ⟨A2, c2, rfl, _, hLl⟩ := (hs.rd 0 rfl).val; (first | have H' := HS.call1 hs | have H' := HS.drew.call1 hs | have H' := (HS.box0 [_] _).call1 hs | have H' := ((HS.box0 [_] _).box0 [_] _).call1 hs | have H' := (HS.alloc _).call1 hs | have H' := ((HS.alloc _).alloc _).call1 hs); clear HS; have HS := H'; clear H'; have F := HS.facts; simp only [Own.Facts, Own.Cells, World.size_alloc, List.cons_append, List.nil_append, List.eraseIdx_cons_succ, List.eraseIdx_cons_zero, List.eraseIdx_zero, List.tail_cons, Nat.zero_add] at F
    replace HS := HS.box (b := w2.heap.size) [.slice A2 L.length c2] 34
    clear F
    have F := HS.facts; simp only [Own.Facts, Own.Cells, World.size_alloc, List.cons_append, List.nil_append, List.eraseIdx_cons_succ, List.eraseIdx_cons_zero, List.eraseIdx_zero, List.tail_cons, Nat.zero_add] at F
    go_wp2_with fail
    refine (toByteS xs _ _ (by repeat (first | exact HS.old hv | exact HS.rd 0 rfl | exact HS.rd 1 rfl | exact HS.rd 2 rfl | exact HS.rd 3 rfl | exact HS.rd 4 rfl | exact HS.rd 5 rfl | exact HS.drew.old hv | exact HS.drew.rd 0 rfl | exact HS.drew.rd 1 rfl | exact HS.drew.rd 2 rfl | exact HS.drew.rd 3 rfl | exact HS.drew.rd 4 rfl | exact HS.drew.rd 5 rfl | refine Rd.alloc ?_ _))).mono ?_; rintro e w3 ⟨v3, rfl, hs⟩; obtain ⟨A3, c3, rfl, _, _⟩ := (hs.rd 0 rfl).val; (first | have H' := HS.call1 hs | have H' := HS.drew.call1 hs | have H' := (HS.box0 [_] _).call1 hs | have H' := ((HS.box0 [_] _).box0 [_] _).call1 hs | have H' := (HS.alloc _).call1 hs | have H' := ((HS.alloc _).alloc _).call1 hs); clear HS; have HS := H'; clear H'; have F := HS.facts; simp only [Own.Facts, Own.Cells, World.size_alloc, List.cons_append, List.nil_append, List.eraseIdx_cons_succ, List.eraseIdx_cons_zero, List.eraseIdx_zero, List.tail_cons, Nat.zero_add] at F
    go_wp2_with fail
    refine (cx4 hgv (implGetContext a xs pos _ _ (HS.rd 0 rfl) (hg.own HS))).mono ?_; rintro e w4 ⟨v4, rfl, hs⟩; obtain ⟨A4, c4, rfl, _, _⟩ := (hs.rd 0 rfl).val; (first | have H' := HS.call1 hs | have H' := HS.drew.call1 hs | have H' := (HS.box0 [_] _).call1 hs | have H' := ((HS.box0 [_] _).box0 [_] _).call1 hs | have H' := (HS.alloc _).call1 hs | have H' := ((HS.alloc _).alloc _).call1 hs); clear HS; have HS := H'; clear H'; have F := HS.facts; simp only [Own.Facts, Own.Cells, World.size_alloc, List.cons_append, List.nil_append, List.eraseIdx_cons_succ, List.eraseIdx_cons_zero, List.eraseIdx_zero, List.tail_cons, Nat.zero_add] at F
    replace HS := HS.box (b := w4.heap.size) [.slice A4 L.length c4] 34
    clear F
    have F := HS.facts; simp only [Own.Facts, Own.Cells, World.size_alloc, List.cons_append, List.nil_append, List.eraseIdx_cons_succ, List.eraseIdx_cons_zero, List.eraseIdx_zero, List.tail_cons, Nat.zero_add] at F
    go_wp2_with fail
    refine (eqContext L L _ _ _ (HS.rd 1 rfl) (HS.rd 4 rfl)).mono ?_; rintro e w5 ⟨rfl, hb⟩; (first | have H' := HS.of_below hb | have H' := HS.drew.of_below hb | have H' := (HS.box0 [_] _).of_below hb | have H' := ((HS.box0 [_] _).box0 [_] _).of_below hb | have H' := (HS.alloc _).of_below hb | have H' := ((HS.alloc _).alloc _).of_below hb); clear HS; have HS := H'; clear H'; have F := HS.facts; simp only [Own.Facts, Own.Cells, World.size_alloc, List.cons_append, List.nil_append, List.eraseIdx_cons_succ, List.eraseIdx_cons_zero, List.eraseIdx_zero, List.tail_cons, Nat.zero_add] at F
    go_wp2_with fail
    refine (toByteS xs _ _ (by repeat (first | exact HS.old hv | exact HS.rd 0 rfl | exact HS.rd 1 rfl | exact HS.rd 2 rfl | exact HS.rd 3 rfl | exact HS.rd 4 rfl | exact HS.rd 5 rfl | exact HS.drew.old hv | exact HS.drew.rd 0 rfl | exact HS.drew.rd 1 rfl | exact HS.drew.rd 2 rfl | exact HS.drew.rd 3 rfl | exact HS.drew.rd 4 rfl | exact HS.drew.rd 5 rfl | refine Rd.alloc ?_ _))).mono ?_; rintro e w6 ⟨v6, rfl, hs⟩; obtain ⟨A6, c6, rfl, _, _⟩ := (hs.rd 0 rfl).val; (first | have H' := HS.call1 hs | have H' := HS.drew.call1 hs | have H' := (HS.box0 [_] _).call1 hs | have H' := ((HS.box0 [_] _).box0 [_] _).call1 hs | have H' := (HS.alloc _).call1 hs | have H' := ((HS.alloc _).alloc _).call1 hs); clear HS; have HS := H'; clear H'; have F := HS.facts; simp only [Own.Facts, Own.Cells, World.size_alloc, List.cons_append, List.nil_append, List.eraseIdx_cons_succ, List.eraseIdx_cons_zero, List.eraseIdx_zero, List.tail_cons, Nat.zero_add] at F
    go_wp2_with fail
    refine (eqByteS xs xs _ _ _ (HS.rd 3 rfl) (HS.rd 0 rfl)).mono ?_; rintro e w7 ⟨rfl, hb⟩; (first | have H' := HS.of_below hb | have H' := HS.drew.of_below hb | have H' := (HS.box0 [_] _).of_below hb | have H' := ((HS.box0 [_] _).box0 [_] _).of_below hb | have H' := (HS.alloc _).of_below hb | have H' := ((HS.alloc _).alloc _).of_below hb); clear HS; have HS := H'; clear H'; have F := HS.facts; simp only [Own.Facts, Own.Cells, World.size_alloc, List.cons_append, List.nil_append, List.eraseIdx_cons_succ, List.eraseIdx_cons_zero, List.eraseIdx_zero, List.tail_cons, Nat.zero_add] at F
    go_wp2_with fail
    replace HS := HS.pick 3 rfl
    refine (markByteS xs _ 1 _ HS (by omega)).mono ?_
    rintro e w8 ⟨rfl, HS8⟩
    clear HS F
    have HS := HS8
    clear HS8
    have F := HS.facts; simp only [Own.Facts, Own.Cells, World.size_alloc, List.cons_append, List.nil_append, List.eraseIdx_cons_succ, List.eraseIdx_cons_zero, List.eraseIdx_zero, List.tail_cons, Nat.zero_add] at F
    go_wp2_with fail
    refine (eqContext L L _ _ _ (HS.rd 3 rfl) (HS.rd 5 rfl)).mono ?_; rintro e w9 ⟨rfl, hb⟩; (first | have H' := HS.of_below hb | have H' := HS.drew.of_below hb | have H' := (HS.box0 [_] _).of_below hb | have H' := ((HS.box0 [_] _).box0 [_] _).of_below hb | have H' := (HS.alloc _).of_below hb | have H' := ((HS.alloc _).alloc _).of_below hb); clear HS; have HS := H'; clear H'; have F := HS.facts; simp only [Own.Facts, Own.Cells, World.size_alloc, List.cons_append, List.nil_append, List.eraseIdx_cons_succ, List.eraseIdx_cons_zero, List.eraseIdx_zero, List.tail_cons, Nat.zero_add] at F
    go_wp2_with fail
    replace HS := HS.pick 3 rfl
    refine (markContext L _ 1 _ HS (by omega)).mono ?_
    rintro e w10 ⟨rfl, HS10⟩
    clear HS F
    have HS := HS10
    clear HS10
    have F := HS.facts; simp only [Own.Facts, Own.Cells, World.size_alloc, List.cons_append, List.nil_append, List.eraseIdx_cons_succ, List.eraseIdx_cons_zero, List.eraseIdx_zero, List.tail_cons, Nat.zero_add] at F
    go_wp2_with fail
    refine (heldContext L _ 1 _ HS (by omega) hLl).mono ?_
    rintro e w11 ⟨rfl, hb11⟩
    replace HS := HS.of_below hb11
    clear F
    have F := HS.facts; simp only [Own.Facts, Own.Cells, World.size_alloc, List.cons_append, List.nil_append, List.eraseIdx_cons_succ, List.eraseIdx_cons_zero, List.eraseIdx_zero, List.tail_cons, Nat.zero_add] at F
    go_wp2_with fail
    refine (toByteS xs _ _ (by repeat (first | exact HS.old hv | exact HS.rd 0 rfl | exact HS.rd 1 rfl | exact HS.rd 2 rfl | exact HS.rd 3 rfl | exact HS.rd 4 rfl | exact HS.rd 5 rfl | exact HS.drew.old hv | exact HS.drew.rd 0 rfl | exact HS.drew.rd 1 rfl | exact HS.drew.rd 2 rfl | exact HS.drew.rd 3 rfl | exact HS.drew.rd 4 rfl | exact HS.drew.rd 5 rfl | refine Rd.alloc ?_ _))).mono ?_; rintro e w13 ⟨v13, rfl, hs⟩; obtain ⟨A13, c13, rfl, _, _⟩ := (hs.rd 0 rfl).val; (first | have H' := HS.call1 hs | have H' := HS.drew.call1 hs | have H' := (HS.box0 [_] _).call1 hs | have H' := ((HS.box0 [_] _).box0 [_] _).call1 hs | have H' := (HS.alloc _).call1 hs | have H' := ((HS.alloc _).alloc _).call1 hs); clear HS; have HS := H'; clear H'; have F := HS.facts; simp only [Own.Facts, Own.Cells, World.size_alloc, List.cons_append, List.nil_append, List.eraseIdx_cons_succ, List.eraseIdx_cons_zero, List.eraseIdx_zero, List.tail_cons, Nat.zero_add] at F
    go_wp2_with fail
    refine (cx4 hgv (implGetContext a xs pos _ _ (HS.rd 0 rfl) (hg.own HS))).mono ?_; rintro e w14 ⟨v14, rfl, hs⟩; obtain ⟨A14, c14, rfl, _, _⟩ := (hs.rd 0 rfl).val; (first | have H' := HS.call1 hs | have H' := HS.drew.call1 hs | have H' := (HS.box0 [_] _).call1 hs | have H' := ((HS.box0 [_] _).box0 [_] _).call1 hs | have H' := (HS.alloc _).call1 hs | have H' := ((HS.alloc _).alloc _).call1 hs); clear HS; have HS := H'; clear H'; have F := HS.facts; simp only [Own.Facts, Own.Cells, World.size_alloc, List.cons_append, List.nil_append, List.eraseIdx_cons_succ, List.eraseIdx_cons_zero, List.eraseIdx_zero, List.tail_cons, Nat.zero_add] at F
    replace HS := HS.box (b := w14.heap.size) [.slice A14 L.length c14] 34
    clear F
    have F := HS.facts; simp only [Own.Facts, Own.Cells, World.size_alloc, List.cons_append, List.nil_append, List.eraseIdx_cons_succ, List.eraseIdx_cons_zero, List.eraseIdx_zero, List.tail_cons, Nat.zero_add] at F
    go_wp2_with fail
    refine (eqContext L L _ _ _ (HS.rd 1 rfl) (HS.rd 8 rfl)).mono ?_; rintro e w15 ⟨rfl, hb⟩; (first | have H' := HS.of_below hb | have H' := HS.drew.of_below hb | have H' := (HS.box0 [_] _).of_below hb | have H' := ((HS.box0 [_] _).box0 [_] _).of_below hb | have H' := (HS.alloc _).of_below hb | have H' := ((HS.alloc _).alloc _).of_below hb); clear HS; have HS := H'; clear H'; have F := HS.facts; simp only [Own.Facts, Own.Cells, World.size_alloc, List.cons_append, List.nil_append, List.eraseIdx_cons_succ, List.eraseIdx_cons_zero, List.eraseIdx_zero, List.tail_cons, Nat.zero_add] at F
    go_wp2
    go_ret
    exact ⟨rfl, HS.below⟩
  · go_enter Tryd.func5, Tryd.ntmps5
    go_wp2
    go_ret
    exact ⟨rfl, HS.below⟩
theorem dcBytes : Dc Tryd.prog (List UInt8) 22 := Dc.list (Dc.byte Tryd.underlying5) Tryd.underlying22 (by kernel_rfl) (of_decide_eq_true (by kernel_rfl))
namespace fnExactGetContext
open Go.ChangeShapes Go.WideShapes Go.ChangeAt Go.RowKit Go.Ow
theorem own : ownKnob Tryd.prog.godebug = none := by kernel_rfl
theorem laidOut : laidOutB Tryd.prog = true := by kernel_rfl
set_option maxRecDepth 100000 in
theorem lifted (os : Os) (started : os.Started) (H : Type) (enc : TypeId × Value → H) :
    ReturnsInHanded {} Tryd.checked os 5 .any (fun w args => (Rows.fnExactGetContextSpec.pre enc Tryd.prog Tryd.f5 [] false w args ∧ laidMetH Tryd.prog Rows.fnExactGetContextRow.laid w) ∧ sizedMet enc Tryd.prog Tryd.f5 (OpenSpec.ofChange Rows.fnExactGetContextSpec) false w args) (Rows.fnExactGetContextSpec.post enc Tryd.prog Tryd.f5 false true false false) := by
  refine returnsInHanded_of_change_and (C := Tryd.checked) (X := fun w _ => laidMetH Tryd.prog Rows.fnExactGetContextRow.laid w) (fun _ _ _ hh h => h.of_heap hh) own started (by kernel_rfl) Tryd.func5
    (ChangeSpec.witness_at (enc := enc) (C := Tryd.checked) (os := os) (X := fun w _ => laidMetH Tryd.prog Rows.fnExactGetContextRow.laid w) false (laidWorld os) #[.slice none 0 0, .int .i64 0] 8 rfl (by kernel_rfl) (by kernel_rfl) (by kernel_rfl) (by kernel_rfl) (by kernel_rfl) (laidWorld_met1 os _)) ?_
  intro W base args ds gs before hval0 hW hcnd hsz0 hL _
  have hsz : (DataW.weightsEach Tryd.prog (Tryd.f5.params.toList ++ Rows.fnExactGetContextSpec.plain.varTypes Tryd.prog) (ds ++ gs)).all (· ≤ reachBytes) = true := hsz0
  have hval : ∀ (j : Nat) t v, Tryd.f5.params[j]? = some t → args[j]? = some v → Value.okWide Tryd.prog W .any base t v := hval0
  have hW' := hW
  obtain ⟨p, q, hA0, hV0, rfl, hfz, hnd⟩ := hW
  have hA : DataW.TrodAll enc Tryd.prog W 0 (fun _ => true) true Tryd.f5.params.toList args.toList ds p := hA0
  have hV : DataW.TrodVars enc Tryd.prog W (fun _ => true) ["loop.example/s02772/impl.errShort"] gs q := hV0
  obtain ⟨a, hv0, hg⟩ := short_of_laid (r := []) hL
  obtain ⟨rfl, rfl⟩ := hV.unique (vars_read1 enc gShort gShortType Tryd.underlying63 hv0 trivial _)
  rw [Tryd.params5] at hA hval hsz
  obtain ⟨v0, vs0, d0, ds0, p0, q0, hargs, rfl, rfl, h0, r0⟩ := trodAll_cons hA
  obtain ⟨v1, vs1, d1, ds1, p1, q1, rfl, rfl, rfl, h1, r1⟩ := trodAll_cons r0
  obtain ⟨rfl, rfl, rfl⟩ := trodAll_nil r1
  obtain rfl : args = #[v0, v1] := by cases args; simp_all
  have hwt : ∀ n ∈ DataW.weightsEach Tryd.prog [22, 3, 63] [d0, d1, tok enc (.iface 154 (.pointer (some a)))], n ≤ 140737488351232 := by
    have hsz2 : (DataW.weightsEach Tryd.prog [22, 3, 63] [d0, d1, tok enc (.iface 154 (.pointer (some a)))]).all (· ≤ reachBytes) = true := hsz
    exact fun n hn => of_decide_eq_true (List.all_eq_true.1 hsz2 n hn)
  have k0 := h0
  have lt0 : ∀ x ∈ p0, x.block < W.heap.size := by obtain ⟨m, hm⟩ := k0; exact DataW.trod_lt m _ _ _ hm
  have wk0 := hval 0 22 v0 rfl rfl
  obtain ⟨fu0, hf0⟩ := h0
  have ww0 : ∀ n ∈ DataW.weights Tryd.prog 22 d0, n ≤ 140737488351232 := fun n hn => hwt n (weights_each (i := 0) rfl rfl n hn)
  obtain ⟨xs, rd_xs, ok_xs⟩ := open_l dcBytes Tryd.underlying22 hf0 ww0 wk0
  have k1 := h1
  have lt1 : ∀ x ∈ p1, x.block < W.heap.size := by obtain ⟨m, hm⟩ := k1; exact DataW.trod_lt m _ _ _ hm
  have wk1 := hval 1 3 v1 rfl rfl
  obtain ⟨fu1, hf1⟩ := h1
  have ww1 : ∀ n ∈ DataW.weights Tryd.prog 3 d1, n ≤ 140737488351232 := fun n hn => hwt n (weights_each (i := 1) rfl rfl n hn)
  obtain ⟨pos, rfl, ok_pos⟩ := open_i Tryd.underlying3 hf1 ww1 wk1
  clear hA0 hval0 hsz0 hsz hV0
  refine (lawGetContext a xs pos _ W rd_xs hg).mono fun e W' ⟨he, bel⟩ => ?_
  subst he
  exact ⟨_, rfl, _, _, _, [], _, _, hW', trodAll_mk1 (shut_bool Tryd.underlying4 _), (trodAll_cons_mk (Below.trod laidOut (by kernel_rfl) (of_decide_eq_true (by kernel_rfl)) k0 bel lt0) (trodAll_cons_mk (Below.trod laidOut (by kernel_rfl) (of_decide_eq_true (by kernel_rfl)) k1 bel lt1) trodAll_mk0)), vars_read1 enc gShort gShortType Tryd.underlying63 (var?_bel hv0 bel) trivial _, bel.frame _, fun h => by cases h⟩
theorem over : Rows.fnExactGetContextRow.holds Tryd.pinned (OpenSpec.ofChange Rows.fnExactGetContextSpec) :=
  OpenClaim.holds_of_wide 5 Tryd.f5 rfl rfl rfl rfl rfl rfl rfl ⟨rfl, rfl, rfl, rfl, rfl⟩ rfl rfl rfl rfl rfl (by kernel_rfl) Tryd.func5 (by kernel_rfl) (of_decide_eq_true (by kernel_rfl))
    (by unfold Func.isWrapper; first | (rw [if_pos (by decide +kernel)]; kernel_rfl) | (rw [if_neg (by decide +kernel)]; exact ⟨rfl, rfl⟩))
    (fun os started H enc _ => lifted os started H enc)
end fnExactGetContext
theorem fnExactGetContextCard_holds : Rows.FnExactGetContextCardSaid :=
  Claim7.holds_tied_plain_at .later [] [.sentinel] true (true, "8f9eb482797e376c2979cf95a794933f9e9db2e1c30d786e30c1e7541ac61565") true
    fnExactGetContext.over (fun _ h => by cases h) (by kernel_rfl) (fun _ h => by cases h) fnExactGetContext_row_tie rfl ⟨rfl, rfl⟩ (by kernel_rfl) rfl
    (fun f fn hf hfn => by
      obtain rfl : f = 5 := Option.some.inj ((show Tryd.prog.funcNamed "loop.example/s02772/laws.FnExactGetContext" = some 5 by kernel_rfl).symm.trans hf) |>.symm
      obtain rfl : fn = Tryd.f5 := (Option.some.inj (Tryd.func5.symm.trans hfn)).symm
      exact ⟨by kernel_rfl, fun j t ht => by
        rw [Tryd.params5] at ht
        have hm : t ∈ [22, 3] := by have := Array.mem_of_getElem? ht; simpa using this
        have hall : ([22, 3] : List TypeId).all (fun t => Tryd.prog.wantsStandIn t == false) = true := by kernel_rfl
        have hq : Tryd.prog.wantsStandIn t = false := by simpa using List.all_eq_true.1 hall t hm
        exact hq⟩)
    (by kernel_rfl)
#print axioms fnExactGetContextCard_holds
end Go.Proofs.YtonkdmjhlaikhaaDoor
