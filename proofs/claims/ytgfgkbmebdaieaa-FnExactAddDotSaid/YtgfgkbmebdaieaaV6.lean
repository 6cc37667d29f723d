/- Union and Covers: the program's side. -/
import Derived.Test.YtgfgkbmebdaieaaV5
import Derived.Test.YtgfgkbmebdaieaaC3
/-FR-/
namespace Go.Proofs.Ytgfgkbmebdaieaa
set_option linter.unusedSimpArgs false
set_option linter.unusedVariables false
open Go.RowKit Go.Ow Go.MapKept
attribute [local irreducible] wpQuiet
set_option maxRecDepth 100000
theorem cloudNs {xs : List Rn} (h : ctxOk xs = true) : ∀ k, Ns (mget (cloud [] xs) k) ∧ (mget (cloud [] xs) k).length ≤ 1048576 := fun k => by
  rw [mget_cloud0]
  refine ⟨spaced_ns (spaced_ctx xs k h), ?_⟩
  have h1 : (spansOf xs k).length ≤ xs.length := by unfold spansOf; rw [List.length_map]; exact List.length_filter_le _ _
  have h2 := ((ctxOk_nf xs).1 h).2
  omega
/-- Both clouds made, the second put into the first, its runs. -/
theorem runs_of {xs ys : List Rn} (hx : ctxOk xs = true) (hy : ctxOk ys = true) {g' : List (Int × List Sp)}
    (h : ∀ k, Ns (mget g' k) ∧ (∀ q, SpIn (mget g' k) q ↔ SpIn (mget (cloud [] xs) k) q ∨ SpIn (mget (cloud [] ys) k) q) ∧ (mget g' k).length ≤ (mget (cloud [] xs) k).length + (mget (cloud [] ys) k).length) : runsN g' 8 0 = uni xs ys ∧ (uni xs ys).length ≤ 4194304 := by
  have nx := (ctxOk_nf xs).1 hx
  have ny := (ctxOk_nf ys).1 hy
  refine ⟨runs_uni nx.1 ny.1 (fun k => (h k).1) (fun k q => ?_), ?_⟩
  · rw [(h k).2.1 q, mget_cloud0, mget_cloud0]
  · have := uni_len ys xs; omega
set_option maxHeartbeats 2000000 in
theorem implUnion (xs ys : List Rn) (v u : Value) (w : World) (hv : Rd w v xs) (hu : Rd w u ys) (hn : xs.length ≤ 1048576) (hm : ys.length ≤ 1048576) :
    Calls Try.prog 27 #[.agg #[v], .agg #[u]] w fun e w' => ∃ vr, e = .returned (.tuple #[.agg #[vr], .bool (uniOk xs ys)]) ∧ Own w [.own vr (uniR xs ys)] w' := by
  obtain ⟨A, c, rfl, _, _⟩ := hv.val
  obtain ⟨B, d, rfl, _, _⟩ := hu.val
  have HS := (((Own.start w).box [.slice A xs.length c] 33).box (b := w.heap.size + 1) [.slice B ys.length d] 33).box (b := w.heap.size + 1 + 1) [.slice none 0 0] 33
  cases hx : ctxOk xs
  · have HQ := Lib.hid (show uniOk xs ys = false by simp [uniOk, hx])
    go_enter Try.func27, Try.ntmps27
    go_wp2_with fail
    refine (implCtxOk xs _ _ (HS.old hv)).mono ?_; rintro e w1 ⟨rfl, hb⟩; (first | have H' := HS.of_below hb | have H' := HS.drew.of_below hb | have H' := (HS.box0 [_] _).of_below hb | have H' := ((HS.box0 [_] _).box0 [_] _).of_below hb | have H' := (HS.alloc _).of_below hb | have H' := ((HS.alloc _).alloc _).of_below hb); clear HS; have HS := H'; clear H'; have F := HS.facts; simp only [Own.Facts, Ds.map, Ds.mapf, Own.Cells, World.size_alloc, List.cons_append, List.nil_append, List.eraseIdx_cons_succ, List.eraseIdx_cons_zero, List.eraseIdx_zero, List.tail_cons, Nat.zero_add] at F
    rw [hx]
    clear hx
    go_wp2
    have H2 := (HS.set 0 (.slice none 0 0))
    have H3 := H2.only.drop.nil (α := Rn)
    exact bodyPost_ret (v := .tuple #[.agg #[.slice none 0 0], .bool false]) (by simp [results, Try.results27, go_sem, *]) rfl ⟨_, by rw [HQ.out], by rw [uniR, HQ.out]; exact H3⟩
  · cases hy : ctxOk ys
    · have HQ := Lib.hid (show uniOk xs ys = false by simp [uniOk, hy])
      go_enter Try.func27, Try.ntmps27
      go_wp2_with fail
      refine (implCtxOk xs _ _ (HS.old hv)).mono ?_; rintro e w1 ⟨rfl, hb⟩; (first | have H' := HS.of_below hb | have H' := HS.drew.of_below hb | have H' := (HS.box0 [_] _).of_below hb | have H' := ((HS.box0 [_] _).box0 [_] _).of_below hb | have H' := (HS.alloc _).of_below hb | have H' := ((HS.alloc _).alloc _).of_below hb); clear HS; have HS := H'; clear H'; have F := HS.facts; simp only [Own.Facts, Ds.map, Ds.mapf, Own.Cells, World.size_alloc, List.cons_append, List.nil_append, List.eraseIdx_cons_succ, List.eraseIdx_cons_zero, List.eraseIdx_zero, List.tail_cons, Nat.zero_add] at F
      rw [hx]
      clear hx
      go_wp2_with fail
      refine (implCtxOk ys _ _ (HS.old hu)).mono ?_; rintro e w2 ⟨rfl, hb⟩; (first | have H' := HS.of_below hb | have H' := HS.drew.of_below hb | have H' := (HS.box0 [_] _).of_below hb | have H' := ((HS.box0 [_] _).box0 [_] _).of_below hb | have H' := (HS.alloc _).of_below hb | have H' := ((HS.alloc _).alloc _).of_below hb); clear HS; have HS := H'; clear H'; have F := HS.facts; simp only [Own.Facts, Ds.map, Ds.mapf, Own.Cells, World.size_alloc, List.cons_append, List.nil_append, List.eraseIdx_cons_succ, List.eraseIdx_cons_zero, List.eraseIdx_zero, List.tail_cons, Nat.zero_add] at F
      rw [hy]
      clear hy
      go_wp2
      have H2 := (HS.set 0 (.slice none 0 0))
      have H3 := H2.only.drop.nil (α := Rn)
      exact bodyPost_ret (v := .tuple #[.agg #[.slice none 0 0], .bool false]) (by simp [results, Try.results27, go_sem, *]) rfl ⟨_, by rw [HQ.out], by rw [uniR, HQ.out]; exact H3⟩
    · have HX := Lib.hid (And.intro hx hy)
      go_enter Try.func27, Try.ntmps27
      go_wp2_with fail
      refine (implCtxOk xs _ _ (HS.old hv)).mono ?_; rintro e w1 ⟨rfl, hb⟩; (first | have H' := HS.of_below hb | have H' := HS.drew.of_below hb | have H' := (HS.box0 [_] _).of_below hb | have H' := ((HS.box0 [_] _).box0 [_] _).of_below hb | have H' := (HS.alloc _).of_below hb | have H' := ((HS.alloc _).alloc _).of_below hb); clear HS; have HS := H'; clear H'; have F := HS.facts; simp only [Own.Facts, Ds.map, Ds.mapf, Own.Cells, World.size_alloc, List.cons_append, List.nil_append, List.eraseIdx_cons_succ, List.eraseIdx_cons_zero, List.eraseIdx_zero, List.tail_cons, Nat.zero_add] at F
      rw [hx]
      clear hx
      go_wp2_with fail
      refine (implCtxOk ys _ _ (HS.old hu)).mono ?_; rintro e w2 ⟨rfl, hb⟩; (first | have H' := HS.of_below hb | have H' := HS.drew.of_below hb | have H' := (HS.box0 [_] _).of_below hb | have H' := ((HS.box0 [_] _).box0 [_] _).of_below hb | have H' := (HS.alloc _).of_below hb | have H' := ((HS.alloc _).alloc _).of_below hb); clear HS; have HS := H'; clear H'; have F := HS.facts; simp only [Own.Facts, Ds.map, Ds.mapf, Own.Cells, World.size_alloc, List.cons_append, List.nil_append, List.eraseIdx_cons_succ, List.eraseIdx_cons_zero, List.eraseIdx_zero, List.tail_cons, Nat.zero_add] at F
      rw [hy]
      clear hy
      go_wp2_with fail
      refine (cloudOf xs _ _ (HS.old hv) hn).mono ?_; rintro e w3 ⟨b1, rfl, hs⟩; (first | have H' := HS.call1 hs | have H' := HS.drew.call1 hs | have H' := (HS.box0 [_] _).call1 hs | have H' := ((HS.box0 [_] _).box0 [_] _).call1 hs | have H' := (HS.alloc _).call1 hs | have H' := ((HS.alloc _).alloc _).call1 hs); clear HS; have HS := H'; clear H'; have F := HS.facts; simp only [Own.Facts, Ds.map, Ds.mapf, Own.Cells, World.size_alloc, List.cons_append, List.nil_append, List.eraseIdx_cons_succ, List.eraseIdx_cons_zero, List.eraseIdx_zero, List.tail_cons, Nat.zero_add] at F
      go_wp2_with fail
      refine (cloudOf ys _ _ (HS.old hu) hm).mono ?_; rintro e w4 ⟨b2, rfl, hs⟩; (first | have H' := HS.call1 hs | have H' := HS.drew.call1 hs | have H' := (HS.box0 [_] _).call1 hs | have H' := ((HS.box0 [_] _).box0 [_] _).call1 hs | have H' := (HS.alloc _).call1 hs | have H' := ((HS.alloc _).alloc _).call1 hs); clear HS; have HS := H'; clear H'; have F := HS.facts; simp only [Own.Facts, Ds.map, Ds.mapf, Own.Cells, World.size_alloc, List.cons_append, List.nil_append, List.eraseIdx_cons_succ, List.eraseIdx_cons_zero, List.eraseIdx_zero, List.tail_cons, Nat.zero_add] at F
      obtain ⟨es, clock, HK⟩ := HS.keep
      go_wp2_with fail
      refine (addCloud (cloud [] xs) (cloud [] ys) es clock b1 b2 _ HK (cloudNs HX.out.1) (cloudNs HX.out.2) (fun k h => by rw [mget_cloud0]; rw [mhas_cl] at h; simpa using h) (fun k h => by rw [mget_cloud0]; rw [mhas_cl] at h; simpa using h)).mono ?_
      rintro e w5 ⟨rfl, g', H5, hg⟩
      obtain ⟨hrun, hlen⟩ := runs_of HX.out.1 HX.out.2 hg
      clear HS F HK hg
      obtain ⟨es2, clock2, HK2⟩ := (H5.pick 1 rfl).keep
      go_wp2_with fail
      refine (contextCloud g' es2 clock2 b1 _ HK2 (by rw [hrun]; exact hlen)).mono ?_
      rintro e w6 ⟨vr, rfl, H6⟩
      rw [hrun] at H6
      have HU := Lib.hid (show uniOk xs ys = decide ((uni xs ys).length ≤ 1000) by simp [uniOk, HX.out.1, HX.out.2])
      obtain ⟨zs, hzs⟩ : ∃ zs, uni xs ys = zs := ⟨_, rfl⟩
      rw [hzs] at H6 HU hlen
      have HZ := Lib.hid hzs
      clear hrun H5 HK2 hzs
      obtain ⟨A7, c7, rfl, _, _⟩ := (H6.rd 0 rfl).val
      have HS := (H6.box (b := w6.heap.size) [.slice A7 zs.length c7] 33)
      have F := HS.facts; simp only [Own.Facts, Ds.map, Ds.mapf, Own.Cells, World.size_alloc, List.cons_append, List.nil_append, List.eraseIdx_cons_succ, List.eraseIdx_cons_zero, List.eraseIdx_zero, List.tail_cons, Nat.zero_add] at F
      by_cases hz : zs.length ≤ 1000
      · have HQ := Lib.hid (show uniOk xs ys = true by rw [HU.out]; simpa using hz)
        go_wp2
        have H2 := (HS.pick 4 rfl).set 0 (.slice A7 zs.length c7)
        have F2 := H2.facts
        simp only [Own.Facts, Ds.map, Ds.mapf, Own.Cells, List.set_cons_zero] at F2
        have H3 := H2.drop.drop.only
        exact bodyPost_ret (v := .tuple #[.agg #[.slice A7 zs.length c7], .bool true]) (by simp [results, Try.results27, go_sem, *]) rfl ⟨_, by rw [HQ.out], by rw [uniR, HQ.out, if_pos rfl, HZ.out]; exact H3⟩
      · have HQ := Lib.hid (show uniOk xs ys = false by rw [HU.out]; simpa using hz)
        go_wp2
        have H2 := (HS.pick 4 rfl).set 0 (.slice none 0 0)
        have F2 := H2.facts
        simp only [Own.Facts, Ds.map, Ds.mapf, Own.Cells, List.set_cons_zero] at F2
        have H3 := H2.only.drop.nil (α := Rn)
        exact bodyPost_ret (v := .tuple #[.agg #[.slice none 0 0], .bool false]) (by simp [results, Try.results27, go_sem, *]) rfl ⟨_, by rw [HQ.out], by rw [uniR, HQ.out]; exact H3⟩
theorem slicesEqualR (xs ys : List Rn) (v u : Value) (w : World) (hv : Rd w v xs) (hu : Rd w u ys) : Calls Try.prog 67 #[v, u] w fun e w' => e = .returned (.bool (decide (xs = ys))) ∧ Below w.heap.size w w' := by
  obtain ⟨A, c, rfl, hc, hl⟩ := hv.val
  obtain ⟨B, d, rfl, hd, hm⟩ := hu.val
  have HS := Own.start w
  by_cases hn : xs.length = ys.length
  · have hb2 : ((xs.length : Int) != (ys.length : Int)) = false := by simp; omega
    have hb3 : ((xs.length : Int) == (ys.length : Int)) = true := by simp; omega
    have HN := Lib.hid hn
    clear hn
    go_enter Try.func67, Try.ntmps67
    go_wp2
    go_loopw [13] (fun i wr => ∃ k : Nat, k ≤ xs.length ∧ i = .int .i64 k ∧ Own w [] wr ∧ xs.take k = ys.take k) (fun i _ => xs.length - (intOf i).toNat)
    case atStart => exact ⟨0, by omega, rfl, HS, rfl⟩
    case round =>
      obtain ⟨k, hk, rfl, HS', hok⟩ := hrel
      have HOK := Lib.hid hok
      clear hok
      by_cases hlt : k < xs.length
      · have hlt2 : k < ys.length := by have := HN.out; omega
        obtain ⟨b, o, rfl⟩ := hv.fix (by omega)
        obtain ⟨b2, o2, rfl⟩ := hu.fix (by omega)
        have hF : ∀ p : Ext wr, _ := fun p => Rn.rd ((HS'.of_below p.h).old hv) k hlt
        have hG : ∀ p : Ext wr, _ := fun p => Rn.rd ((HS'.of_below p.h).old hu) k hlt2
        have HT : xs[k] = ys[k] → xs.take (k + 1) = ys.take (k + 1) := fun h => by rw [List.take_succ_eq_append_getElem hlt, List.take_succ_eq_append_getElem hlt2, HOK.out, h]
        have HNQ : xs[k] ≠ ys[k] → xs ≠ ys := fun h1 h => h1 (by simp [h])
        obtain ⟨x, hx⟩ : ∃ x, xs[k] = x := ⟨_, rfl⟩
        obtain ⟨y, hy⟩ : ∃ y, ys[k] = y := ⟨_, rfl⟩
        simp only [hx, hy] at hF hG HT HNQ
        clear hx hy
        obtain ⟨xr, xf, xt⟩ := x
        obtain ⟨yr, yf, yt⟩ := y
        simp only at hF hG
        have HT' := Lib.hid HT
        have HNQ' := Lib.hid HNQ
        clear HT HNQ
        by_cases e1 : xr = yr
        · subst e1
          by_cases e2 : xf = yf
          · subst e2
            by_cases e3 : xt = yt
            · subst e3
              have H1 := Lib.hid (HT'.out rfl)
              go_wp2
              (refine wp_region_ext (by kernel_rfl) (by kernel_rfl) ?_; (repeat (quiet_step (first | fail))); refine wpQuiet_nil ?_; rintro _ ⟨⟨w1, hw1⟩, rfl⟩)
              have H2 := HS'.of_below hw1
              clear hF hG
              go_wp2
              go_roundw
              case rel => exact ⟨k + 1, by omega, by go_num, H2, H1.out⟩
              case measure => simp [intOf]; omega
            · have H1 := Lib.hid (HNQ'.out (by simp; exact e3))
              have e3b : (xt == yt) = false := by simpa using e3
              clear e3
              go_wp2
              (refine wp_region_ext (by kernel_rfl) (by kernel_rfl) ?_; (repeat (quiet_step (first | fail))); refine wpQuiet_nil ?_; rintro _ ⟨⟨w1, hw1⟩, rfl⟩)
              have H2 := HS'.of_below hw1
              clear hF hG
              go_wp2
              go_ret
              exact ⟨by simp [H1.out], H2.below⟩
          · have H1 := Lib.hid (HNQ'.out (by simp; intro h; exact absurd h e2))
            have e2b : (xf == yf) = false := by simpa using e2
            clear e2
            go_wp2
            (refine wp_region_ext (by kernel_rfl) (by kernel_rfl) ?_; (repeat (quiet_step (first | fail))); refine wpQuiet_nil ?_; rintro _ ⟨⟨w1, hw1⟩, rfl⟩)
            have H2 := HS'.of_below hw1
            clear hF hG
            go_wp2
            go_ret
            exact ⟨by simp [H1.out], H2.below⟩
        · have H1 := Lib.hid (HNQ'.out (by simp; intro h; exact absurd h e1))
          have e1b : (xr == yr) = false := by simpa using e1
          clear e1
          go_wp2
          (refine wp_region_ext (by kernel_rfl) (by kernel_rfl) ?_; (repeat (quiet_step (first | fail))); refine wpQuiet_nil ?_; rintro _ ⟨⟨w1, hw1⟩, rfl⟩)
          have H2 := HS'.of_below hw1
          clear hF hG
          go_wp2
          go_ret
          exact ⟨by simp [H1.out], H2.below⟩
      · go_wp2
        go_ret
        obtain rfl : k = xs.length := by omega
        have h := HOK.out
        rw [List.take_length, HN.out, List.take_length] at h
        exact ⟨by simp [h], HS'.below⟩
  · have hb2 : ((xs.length : Int) != (ys.length : Int)) = true := by simp; omega
    have hb3 : ((xs.length : Int) == (ys.length : Int)) = false := by simp; omega
    have hne : xs ≠ ys := fun h => hn (by rw [h])
    have H1 := Lib.hid hne
    clear hne
    go_enter Try.func67, Try.ntmps67
    go_wp2
    go_ret
    exact ⟨by simp [H1.out], HS.below⟩
end Go.Proofs.Ytgfgkbmebdaieaa
