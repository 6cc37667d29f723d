/- FnExactStateOk: for every state the law returns true, and the state reads behind the call as it read before. No condition. -/
import Derived.Test.YtgfgkbmebdaieaaRows
import Derived.Test.YtgfgkbmebdaieaaJ4
import Derived.Test.YtgfgkbmebdaieaaJ5
import Derived.Test.YtgfgkbmebdaieaaFf
import Derived.Test.YtgfgkbmebdaieaaDc
namespace Go.Proofs.Ytgfgkbmebdaieaa
set_option linter.unusedSimpArgs false
set_option linter.unusedVariables false
open Go.RowKit Go.Ow
attribute [local irreducible] wpQuiet
set_option maxRecDepth 100000
set_option maxHeartbeats 1000000 in
theorem lawStateOk (s : St) (vl vc : Value) (w : World) (h1 : Rd w vl s.l) (h2 : Rd w vc s.c) (hw : ∀ y ∈ s.l, LfW y) : Calls Try.prog 3 #[.agg #[vl, vc]] w fun e w' => e = .returned (.bool true) ∧ Below w.heap.size w w' := by
  obtain ⟨A, c, rfl, _, hl⟩ := h1.val
  obtain ⟨A2, d2, rfl, _, hl2⟩ := h2.val
  have HS := (Own.start w).box [.slice A s.l.length c, .slice A2 s.c.length d2] 27
  have HW := Lib.hid hw
  clear hw
  go_enter Try.func3, Try.ntmps3
  go_wp2_with fail
  refine (szState s _ _ 1048576 _ (HS.old h1) (HS.old h2) HW.out (by omega) (by omega)).mono ?_; rintro e w1 ⟨⟨r, rfl, hr1, hr2, hr3⟩, hb⟩; (first | have H' := HS.of_below hb | have H' := HS.drew.of_below hb | have H' := (HS.box0 [_] _).of_below hb | have H' := ((HS.box0 [_] _).box0 [_] _).of_below hb | have H' := (HS.alloc _).of_below hb | have H' := ((HS.alloc _).alloc _).of_below hb); clear HS; have HS := H'; clear H'; have F := HS.facts; simp only [Own.Facts, Own.Cells, World.size_alloc, List.cons_append, List.nil_append, List.eraseIdx_cons_succ, List.eraseIdx_cons_zero, List.eraseIdx_zero, List.tail_cons, Nat.zero_add] at F
  by_cases hr : r < 0
  · clear hr3
    go_wp2
    go_ret
    exact ⟨rfl, HS.below⟩
  · obtain ⟨hn, hp, hc⟩ := hr3 (by omega)
    have HP := Lib.hid (show ∀ y ∈ s.l, y.p.length ≤ 1048576 from fun y hy => by have := hp y hy; omega)
    clear hr3 hp
    have hn2 : s.l.length ≤ 1048576 := by omega
    have hc2 : s.c.length ≤ 1048576 := by omega
    go_wp2_with fail
    refine (toState s _ _ _ (HS.old h1) (HS.old h2) hn2 HP.out hc2).mono ?_; rintro e w2 ⟨ul, uc, rfl, hs⟩; obtain ⟨A3, c3, rfl, _, _⟩ := (hs.rd 0 rfl).val; obtain ⟨A4, c4, rfl, _, _⟩ := (hs.rd 1 rfl).val; (first | have H' := HS.call2 hs | have H' := HS.drew.call2 hs | have H' := (HS.box0 [_] _).call2 hs | have H' := ((HS.box0 [_] _).box0 [_] _).call2 hs | have H' := (HS.alloc _).call2 hs | have H' := ((HS.alloc _).alloc _).call2 hs); clear HS; have HS := H'; clear H'; have F := HS.facts; simp only [Own.Facts, Own.Cells, World.size_alloc, List.cons_append, List.nil_append, List.eraseIdx_cons_succ, List.eraseIdx_cons_zero, List.eraseIdx_zero, List.tail_cons, Nat.zero_add] at F
    go_wp2_with fail
    refine (specStateOk s _ _ _ (HS.rd 0 rfl) (HS.rd 1 rfl) HW.out).mono ?_; rintro e w3 ⟨rfl, hb⟩; (first | have H' := HS.of_below hb | have H' := HS.drew.of_below hb | have H' := (HS.box0 [_] _).of_below hb | have H' := ((HS.box0 [_] _).box0 [_] _).of_below hb | have H' := (HS.alloc _).of_below hb | have H' := ((HS.alloc _).alloc _).of_below hb); clear HS; have HS := H'; clear H'; have F := HS.facts; simp only [Own.Facts, Own.Cells, World.size_alloc, List.cons_append, List.nil_append, List.eraseIdx_cons_succ, List.eraseIdx_cons_zero, List.eraseIdx_zero, List.tail_cons, Nat.zero_add] at F
    go_wp2_with fail
    refine (toState s _ _ _ (HS.old h1) (HS.old h2) hn2 HP.out hc2).mono ?_; rintro e w4 ⟨ul, uc, rfl, hs⟩; obtain ⟨A5, c5, rfl, _, _⟩ := (hs.rd 0 rfl).val; obtain ⟨A6, c6, rfl, _, _⟩ := (hs.rd 1 rfl).val; (first | have H' := HS.call2 hs | have H' := HS.drew.call2 hs | have H' := (HS.box0 [_] _).call2 hs | have H' := ((HS.box0 [_] _).box0 [_] _).call2 hs | have H' := (HS.alloc _).call2 hs | have H' := ((HS.alloc _).alloc _).call2 hs); clear HS; have HS := H'; clear H'; have F := HS.facts; simp only [Own.Facts, Own.Cells, World.size_alloc, List.cons_append, List.nil_append, List.eraseIdx_cons_succ, List.eraseIdx_cons_zero, List.eraseIdx_zero, List.tail_cons, Nat.zero_add] at F
    replace HS := (HS.box (b := w4.heap.size) [.slice A5 s.l.length c5, .slice A6 s.c.length c6] 35)
    have F := HS.facts; simp only [Own.Facts, Own.Cells, World.size_alloc, List.cons_append, List.nil_append, List.eraseIdx_cons_succ, List.eraseIdx_cons_zero, List.eraseIdx_zero, List.tail_cons, Nat.zero_add] at F
    go_wp2_with fail
    refine (implStateOk s _ _ _ (HS.rd 1 rfl) (HS.rd 2 rfl) HW.out hc2).mono ?_; rintro e w5 ⟨rfl, hb⟩; (first | have H' := HS.of_below hb | have H' := HS.drew.of_below hb | have H' := (HS.box0 [_] _).of_below hb | have H' := ((HS.box0 [_] _).box0 [_] _).of_below hb | have H' := (HS.alloc _).of_below hb | have H' := ((HS.alloc _).alloc _).of_below hb); clear HS; have HS := H'; clear H'; have F := HS.facts; simp only [Own.Facts, Own.Cells, World.size_alloc, List.cons_append, List.nil_append, List.eraseIdx_cons_succ, List.eraseIdx_cons_zero, List.eraseIdx_zero, List.tail_cons, Nat.zero_add] at F
    go_wp2
    go_region_held3 (fun w' => w'.cell? ⟨w4.heap.size, 0, none⟩ = some (.slice A5 s.l.length c5) ∧ w'.cell? ⟨w4.heap.size, 1, none⟩ = some (.slice A6 s.c.length c6) ∧ w'.cell? ⟨w.heap.size, 0, none⟩ = some (.slice A s.l.length c) ∧ w'.cell? ⟨w.heap.size, 1, none⟩ = some (.slice A2 s.c.length d2)) (first | go_keep) (first | (go_at_call 13; refine (toState s _ _ _ (by repeat (first | exact HS.old h1 | exact HS.rd 0 rfl | exact HS.rd 1 rfl | exact HS.rd 2 rfl | exact HS.rd 3 rfl | exact HS.rd 4 rfl | exact HS.rd 5 rfl | exact HS.drew.old h1 | exact HS.drew.rd 0 rfl | exact HS.drew.rd 1 rfl | exact HS.drew.rd 2 rfl | exact HS.drew.rd 3 rfl | exact HS.drew.rd 4 rfl | exact HS.drew.rd 5 rfl | refine Rd.alloc ?_ _)) (by repeat (first | exact HS.old h2 | exact HS.rd 0 rfl | exact HS.rd 1 rfl | exact HS.rd 2 rfl | exact HS.rd 3 rfl | exact HS.rd 4 rfl | exact HS.rd 5 rfl | exact HS.drew.old h2 | exact HS.drew.rd 0 rfl | exact HS.drew.rd 1 rfl | exact HS.drew.rd 2 rfl | exact HS.drew.rd 3 rfl | exact HS.drew.rd 4 rfl | exact HS.drew.rd 5 rfl | refine Rd.alloc ?_ _)) hn2 HP.out hc2).mono ?_; rintro e w1 ⟨ul, uc, rfl, hs⟩; obtain ⟨A7, c7, rfl, _, _⟩ := (hs.rd 0 rfl).val; obtain ⟨A8, c8, rfl, _, _⟩ := (hs.rd 1 rfl).val; (first | have H' := HS.call2 hs | have H' := HS.drew.call2 hs | have H' := (HS.box0 [_] _).call2 hs | have H' := ((HS.box0 [_] _).box0 [_] _).call2 hs | have H' := (HS.box0 [_] _).drew.call2 hs | have H' := (HS.alloc _).call2 hs | have H' := ((HS.alloc _).alloc _).call2 hs | have H' := (HS.alloc _).drew.call2 hs); clear HS; have HS := H'; clear H'; have F := HS.facts; simp only [Own.Facts, Own.Cells, World.size_alloc, List.cons_append, List.nil_append, List.eraseIdx_cons_succ, List.eraseIdx_cons_zero, List.eraseIdx_zero, List.tail_cons, Nat.zero_add] at F) | (go_at_call 15; refine (eqState s s _ _ _ _ _ (by repeat (first | exact HS.old h1 | exact HS.rd 0 rfl | exact HS.rd 1 rfl | exact HS.rd 2 rfl | exact HS.rd 3 rfl | exact HS.rd 4 rfl | exact HS.rd 5 rfl | exact HS.drew.old h1 | exact HS.drew.rd 0 rfl | exact HS.drew.rd 1 rfl | exact HS.drew.rd 2 rfl | exact HS.drew.rd 3 rfl | exact HS.drew.rd 4 rfl | exact HS.drew.rd 5 rfl | refine Rd.alloc ?_ _)) (by repeat (first | exact HS.old h2 | exact HS.rd 0 rfl | exact HS.rd 1 rfl | exact HS.rd 2 rfl | exact HS.rd 3 rfl | exact HS.rd 4 rfl | exact HS.rd 5 rfl | exact HS.drew.old h2 | exact HS.drew.rd 0 rfl | exact HS.drew.rd 1 rfl | exact HS.drew.rd 2 rfl | exact HS.drew.rd 3 rfl | exact HS.drew.rd 4 rfl | exact HS.drew.rd 5 rfl | refine Rd.alloc ?_ _)) (by repeat (first | exact HS.old h1 | exact HS.rd 0 rfl | exact HS.rd 1 rfl | exact HS.rd 2 rfl | exact HS.rd 3 rfl | exact HS.rd 4 rfl | exact HS.rd 5 rfl | exact HS.drew.old h1 | exact HS.drew.rd 0 rfl | exact HS.drew.rd 1 rfl | exact HS.drew.rd 2 rfl | exact HS.drew.rd 3 rfl | exact HS.drew.rd 4 rfl | exact HS.drew.rd 5 rfl | refine Rd.alloc ?_ _)) (by repeat (first | exact HS.old h2 | exact HS.rd 0 rfl | exact HS.rd 1 rfl | exact HS.rd 2 rfl | exact HS.rd 3 rfl | exact HS.rd 4 rfl | exact HS.rd 5 rfl | exact HS.drew.old h2 | exact HS.drew.rd 0 rfl | exact HS.drew.rd 1 rfl | exact HS.drew.rd 2 rfl | exact HS.drew.rd 3 rfl | exact HS.drew.rd 4 rfl | exact HS.drew.rd 5 rfl | refine Rd.alloc ?_ _))).mono ?_; rintro e w1 ⟨rfl, hb⟩; (first | have H' := HS.of_below hb | have H' := HS.drew.of_below hb | have H' := (HS.box0 [_] _).of_below hb | have H' := ((HS.box0 [_] _).box0 [_] _).of_below hb | have H' := (HS.box0 [_] _).drew.of_below hb | have H' := (HS.alloc _).of_below hb | have H' := ((HS.alloc _).alloc _).of_below hb | have H' := (HS.alloc _).drew.of_below hb); clear HS; have HS := H'; clear H'; have F := HS.facts; simp only [Own.Facts, Own.Cells, World.size_alloc, List.cons_append, List.nil_append, List.eraseIdx_cons_succ, List.eraseIdx_cons_zero, List.eraseIdx_zero, List.tail_cons, Nat.zero_add] at F))
    go_wp2
    go_ret
    exact ⟨rfl, HS.below⟩
theorem DcF.map {P : Program} {α β : Type} [Cd α] [Cd β] [Wf α] [Wf β] {g : α → β} (hz : Cd.z β = Cd.z α) (hrd : ∀ w a cs, Cd.rd w a cs → Cd.rd w (g a) cs) (hok : ∀ a, Wf.ok a → Wf.ok (g a)) {fs : List Field} {off : Nat} (h : DcF P α fs off) : DcF P β fs off :=
  ⟨fun hl htr hw hlen => by obtain ⟨y, hy, ho⟩ := h.dcf hl htr hw (by rw [hlen, hz]); exact ⟨g y, hrd _ _ _ hy, hok _ ho⟩⟩
instance : Wf Rn := Wf.iso (fun r : Rn => (r.r, r.f, r.t))
instance : Wf Lf := Wf.iso (fun x : Lf => (x.p, x.fl, x.dr, x.ds, x.v))
instance : Wf St := Wf.iso (fun x : St => (x.l, x.c))
theorem dcInt : Dc Try.prog Int 3 := Dc.int Try.underlying3
theorem dcStr : Dc Try.prog ByteArray 9 := Dc.str Try.underlying9
theorem dcBool : Dc Try.prog Bool 4 := Dc.bool Try.underlying4
set_option maxRecDepth 100000 in
theorem dcRun : Dc Try.prog Rn 125 := Dc.struct (DcF.iso (f := fun r : Rn => (r.r, r.f, r.t)) (g := fun p => ⟨p.1, p.2.1, p.2.2⟩) (fun _ => rfl) (DcF.cons dcInt rfl (by kernel_rfl) rfl (DcF.cons dcInt rfl (by kernel_rfl) rfl (DcF.one dcInt rfl (by kernel_rfl))))) Try.underlying125 (by kernel_rfl)
set_option maxRecDepth 100000 in
theorem dcContext : Dc Try.prog (List Rn) 25 := Dc.struct (DcF.one (Dc.list dcRun Try.underlying23 (by kernel_rfl) (of_decide_eq_true (by kernel_rfl))) rfl (by kernel_rfl)) Try.underlying25 (by kernel_rfl)
theorem dcDot : Dc Try.prog (Int × Int) 53 := Dc.struct (DcF.cons dcInt rfl (by kernel_rfl) rfl (DcF.one dcInt rfl (by kernel_rfl))) Try.underlying53 (by kernel_rfl)
theorem dcPath : Dc Try.prog (List ByteArray) 39 := Dc.list dcStr Try.underlying39 (by kernel_rfl) (of_decide_eq_true (by kernel_rfl))
theorem leaf_rd (w : World) (a : List ByteArray × Bool × (Int × Int) × ByteArray) (cs : List Value) (h : Cd.rd w a cs) : Cd.rd w (⟨a.1, a.2.1, a.2.2.1.1, a.2.2.1.2, a.2.2.2⟩ : Lf) cs := by
  obtain ⟨A, _, rfl, hA, C, _, rfl, hC, _, F, rfl, ⟨E1, E2, rfl, h1, h2⟩, hF⟩ := h
  exact ⟨A, _, rfl, hA, C, _, rfl, hC, E1, E2 ++ F, List.append_assoc _ _ _, h1, E2, F, rfl, h2, hF⟩
theorem leaf_ok (a : List ByteArray × Bool × (Int × Int) × ByteArray) (h : Wf.ok a) : Wf.ok (⟨a.1, a.2.1, a.2.2.1.1, a.2.2.1.2, a.2.2.2⟩ : Lf) := by
  obtain ⟨h1, h2, ⟨h3, h4⟩, h5⟩ := h
  exact ⟨h1, h2, h3, h4, h5⟩
set_option maxRecDepth 100000 in
theorem dcLeaf : Dc Try.prog Lf 112 := Dc.struct (DcF.map (g := fun a : List ByteArray × Bool × (Int × Int) × ByteArray => (⟨a.1, a.2.1, a.2.2.1.1, a.2.2.1.2, a.2.2.2⟩ : Lf)) rfl leaf_rd leaf_ok
  (DcF.cons dcPath rfl (by kernel_rfl) rfl (DcF.cons dcBool rfl (by kernel_rfl) rfl (DcF.cons dcDot rfl (by kernel_rfl) rfl (DcF.one dcStr rfl (by kernel_rfl)))))) Try.underlying112 (by kernel_rfl)
set_option maxRecDepth 100000 in
theorem dcState : Dc Try.prog St 27 := Dc.struct (DcF.iso (f := fun x : St => (x.l, x.c)) (g := fun p => ⟨p.1, p.2⟩) (fun _ => rfl) (DcF.cons (Dc.list dcLeaf Try.underlying22 (by kernel_rfl) (of_decide_eq_true (by kernel_rfl))) rfl (by kernel_rfl) rfl (DcF.one dcContext rfl (by kernel_rfl)))) Try.underlying27 (by kernel_rfl)
theorem lfW_ok {s : St} (h : Wf.ok s) : ∀ y ∈ s.l, LfW y := by
  intro y hy
  obtain ⟨h1, h2, h3, h4, h5⟩ := (show Wf.ok y from h.1.2 y hy)
  exact ⟨fun x hx => h1.2 x hx, h5, h4.2⟩
namespace fnExactStateOk
open Go.ChangeShapes Go.WideShapes Go.ChangeAt Go.RowKit Go.Ow
set_option linter.unusedVariables false
theorem own : ownKnob Try.prog.godebug = none := by kernel_rfl
theorem laidOut : laidOutB Try.prog = true := laidOutF
set_option maxRecDepth 100000 in
theorem lifted (os : Os) (started : os.Started) (H : Type) (enc : TypeId × Value → H) :
    ReturnsInHanded {} Try.checked os 3 .any (Rows.fnExactStateOkSpec.pre6 enc Try.prog Try.f3 Rows.fnExactStateOkRow.domain false) (Rows.fnExactStateOkSpec.post enc Try.prog Try.f3 false true false false) := by
  refine returnsInHanded_of_change_sized (C := Try.checked) own started (by kernel_rfl) Try.func3
    (ChangeSpec.witness6 (enc := enc) (C := Try.checked) false ⟨#[], #[.agg #[.slice none 0 0, .slice none 0 0]], []⟩ 8 (by kernel_rfl) (by kernel_rfl) (by kernel_rfl) (by kernel_rfl)) ?_
  intro W base args ds gs before hval0 hW hcnd hsz0 _
  have hsz : (DataW.weightsEach Try.prog (Try.f3.params.toList ++ Rows.fnExactStateOkSpec.plain.varTypes Try.prog) (ds ++ gs)).all (· ≤ reachBytes) = true := hsz0
  have hval : ∀ (j : Nat) t v, Try.f3.params[j]? = some t → args[j]? = some v → Value.okWide Try.prog W .any base t v := hval0
  have hW' := hW
  obtain ⟨p, q, hA0, hV, rfl, hfz, hnd⟩ := hW
  have hA : DataW.TrodAll enc Try.prog W 0 (fun _ => true) true Try.f3.params.toList args.toList ds p := hA0
  rw [Try.params3] at hA hval hsz
  obtain ⟨v0, vs0, d0, ds0, p0, q0, hargs, rfl, rfl, h0, r0⟩ := trodAll_cons hA
  obtain ⟨rfl, rfl, rfl⟩ := trodAll_nil r0
  obtain rfl : args = #[v0] := by cases args; simp_all
  obtain ⟨rfl, rfl⟩ := trodVars_none hV
  have hwt : ∀ n ∈ DataW.weightsEach Try.prog [27] [d0], n ≤ 140737488351232 := by
    have hsz2 : (DataW.weightsEach Try.prog [27] [d0]).all (· ≤ reachBytes) = true := hsz
    exact fun n hn => of_decide_eq_true (List.all_eq_true.1 hsz2 n hn)
  have k0 := h0
  have lt0 : ∀ x ∈ p0, x.block < W.heap.size := by obtain ⟨m, hm⟩ := k0; exact DataW.trod_lt m _ _ _ hm
  have wk0 := hval 0 27 v0 rfl rfl
  obtain ⟨fu0, hf0⟩ := h0
  have ww0 : ∀ n ∈ DataW.weights Try.prog 27 d0, n ≤ 140737488351232 := fun n hn => hwt n (weights_each (i := 0) rfl rfl n hn)
  obtain ⟨s, cs_s, rfl, rd_s, ok_s⟩ := open_t dcState Try.underlying27 hf0 ww0 wk0
  obtain ⟨vl, vc, rfl, hrl, hrc⟩ := St.open_ rd_s
  clear hA0 hval0 hsz0 hsz
  refine (lawStateOk s vl vc W hrl hrc (lfW_ok ok_s)).mono fun e W' ⟨he, bel⟩ => ?_
  subst he
  exact ⟨_, rfl, _, _, _, [], _, [], hW', trodAll_mk1 (shut_bool Try.underlying4 _), (trodAll_cons_mk (Below.trod laidOut (by kernel_rfl) (of_decide_eq_true (by kernel_rfl)) k0 bel lt0) trodAll_mk0), rfl, bel.frame _, fun h => by cases h⟩
theorem joined : joinedFacts Try.prog 3 Try.f3 Rows.fnExactStateOkSpec Rows.fnExactStateOkRow = true := by
  unfold joinedFacts
  simp only [Bool.and_eq_true, mayEnter, liftsFinal, make, laidOutF, mapsRowedF, stopsF, knobsF, plainKeysF, heardF]
  repeat' (refine And.intro ?_ ?_)
  all_goals first | exact trivial | with_reducible rfl | kernel_rfl
theorem over : Rows.fnExactStateOkRow.holds Try.pinned (OpenSpec.ofChange Rows.fnExactStateOkSpec) :=
  OpenClaim.holds_of_wide 3 Try.f3 rfl rfl rfl rfl rfl rfl rfl ⟨rfl, rfl, rfl, rfl, rfl⟩ rfl rfl rfl rfl rfl (by kernel_rfl) Try.func3 joined (of_decide_eq_true (by kernel_rfl))
    (by unfold Func.isWrapper; first | (rw [if_pos (by decide +kernel)]; kernel_rfl) | (rw [if_neg (by decide +kernel)]; exact ⟨rfl, rfl⟩))
    (fun os started H enc _ => lifted os started H enc)
end fnExactStateOk
theorem fnExactStateOk_holds : Rows.FnExactStateOkSaid := fnExactStateOk.over
#print axioms fnExactStateOk_holds
end Go.Proofs.Ytgfgkbmebdaieaa
