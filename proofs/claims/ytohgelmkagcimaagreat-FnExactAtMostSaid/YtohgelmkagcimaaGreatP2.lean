/- PutContext: both sides. -/
import Derived.Test.YtohgelmkagcimaaGreatYa
import Derived.Test.YtohgelmkagcimaaGreatBa
import Derived.Test.YtohgelmkagcimaaGreatM1
import Derived.Test.YtohgelmkagcimaaGreatL1
import Derived.Test.YtohgelmkagcimaaGreatCa
/-FM-/
namespace Go.Proofs.YtohgelmkagcimaaGreat
set_option linter.unusedSimpArgs false
set_option linter.unusedVariables false
open Go.RowKit Go.Ow
attribute [local irreducible] wpQuiet
set_option maxRecDepth 100000
set_option maxHeartbeats 4000000 in
theorem implPutContext (xs : List Rn) (v : Value) (w : World) (hv : Rd w v xs) (hn : xs.length ≤ 1048576) :
    Calls Tryz.prog 96 #[.agg #[v]] w fun e w' => ∃ v', e = .returned (.tuple #[v', .bool (ctxOk xs)]) ∧ Own w [.own v' (putCtx xs)] w' := by
  obtain ⟨A, c, rfl, hc, hl⟩ := hv.val
  have HS := (Own.start w).box [.slice A xs.length c] 34
  cases h1 : ctxOk xs
  · have HN := Lib.hid (show putCtx xs = [] by simp [putCtx, h1])
    go_enter Tryz.func96, Tryz.ntmps96
    go_wp2_with fail
    refine (implCtxOk xs _ _ (by repeat (first | exact HS.old hv | exact HS.rd 0 rfl | exact HS.rd 1 rfl | exact HS.rd 2 rfl | exact HS.rd 3 rfl | exact HS.rd 4 rfl | exact HS.rd 5 rfl | exact HS.drew.old hv | exact HS.drew.rd 0 rfl | exact HS.drew.rd 1 rfl | exact HS.drew.rd 2 rfl | exact HS.drew.rd 3 rfl | exact HS.drew.rd 4 rfl | exact HS.drew.rd 5 rfl | refine Rd.alloc ?_ _))).mono ?_; rintro e w1 ⟨rfl, hb⟩; (first | have H' := HS.of_below hb | have H' := HS.drew.of_below hb | have H' := (HS.box0 [_] _).of_below hb | have H' := ((HS.box0 [_] _).box0 [_] _).of_below hb | have H' := (HS.alloc _).of_below hb | have H' := ((HS.alloc _).alloc _).of_below hb); clear HS; have HS := H'; clear H'; have F := HS.facts; simp only [Own.Facts, Ds.map, Own.Cells, World.size_alloc, List.cons_append, List.nil_append, List.eraseIdx_cons_succ, List.eraseIdx_cons_zero, List.eraseIdx_zero, List.tail_cons, Nat.zero_add] at F
    go_wp2
    exact bodyPost_ret (v := .tuple #[.slice none 0 0, .bool false]) (by simp [results, Tryz.results96, go_sem, *]) rfl ⟨_, rfl, by rw [HN.out]; exact HS.drop.nil⟩
  · have HN := Lib.hid (show putCtx xs = ctxBytes xs by simp [putCtx, h1])
    have HK := Lib.hid h1
    go_enter Tryz.func96, Tryz.ntmps96
    go_wp2_with fail
    refine (implCtxOk xs _ _ (by repeat (first | exact HS.old hv | exact HS.rd 0 rfl | exact HS.rd 1 rfl | exact HS.rd 2 rfl | exact HS.rd 3 rfl | exact HS.rd 4 rfl | exact HS.rd 5 rfl | exact HS.drew.old hv | exact HS.drew.rd 0 rfl | exact HS.drew.rd 1 rfl | exact HS.drew.rd 2 rfl | exact HS.drew.rd 3 rfl | exact HS.drew.rd 4 rfl | exact HS.drew.rd 5 rfl | refine Rd.alloc ?_ _))).mono ?_; rintro e w1 ⟨rfl, hb⟩; (first | have H' := HS.of_below hb | have H' := HS.drew.of_below hb | have H' := (HS.box0 [_] _).of_below hb | have H' := ((HS.box0 [_] _).box0 [_] _).of_below hb | have H' := (HS.alloc _).of_below hb | have H' := ((HS.alloc _).alloc _).of_below hb); clear HS; have HS := H'; clear H'; have F := HS.facts; simp only [Own.Facts, Ds.map, Own.Cells, World.size_alloc, List.cons_append, List.nil_append, List.eraseIdx_cons_succ, List.eraseIdx_cons_zero, List.eraseIdx_zero, List.tail_cons, Nat.zero_add] at F
    go_wp2_with fail
    refine (cloudOf xs _ _ (by repeat (first | exact HS.old hv | exact HS.rd 0 rfl | exact HS.rd 1 rfl | exact HS.rd 2 rfl | exact HS.rd 3 rfl | exact HS.rd 4 rfl | exact HS.rd 5 rfl | exact HS.drew.old hv | exact HS.drew.rd 0 rfl | exact HS.drew.rd 1 rfl | exact HS.drew.rd 2 rfl | exact HS.drew.rd 3 rfl | exact HS.drew.rd 4 rfl | exact HS.drew.rd 5 rfl | refine Rd.alloc ?_ _)) hn).mono ?_; rintro e w2 ⟨b2, rfl, hs⟩; (first | have H' := HS.call1 hs | have H' := HS.drew.call1 hs | have H' := (HS.box0 [_] _).call1 hs | have H' := ((HS.box0 [_] _).box0 [_] _).call1 hs | have H' := (HS.alloc _).call1 hs | have H' := ((HS.alloc _).alloc _).call1 hs); clear HS; have HS := H'; clear H'; have F := HS.facts; simp only [Own.Facts, Ds.map, Own.Cells, World.size_alloc, List.cons_append, List.nil_append, List.eraseIdx_cons_succ, List.eraseIdx_cons_zero, List.eraseIdx_zero, List.tail_cons, Nat.zero_add] at F
    have HL := Lib.hid (cloud_len xs HK.out)
    go_wp2_with (refine wp_maplen rfl _ (by rfl) Tryz.underlying95 HS rfl ?_)
    rw [HL.out]
    have hc8 := countFrom_le xs 8 0
    refine (putInt [] (countFrom xs 8 0) _ _ HS.nil (by omega) (by simp)).mono ?_
    rintro e w3 ⟨v3, rfl, HS3⟩
    obtain ⟨A3, c3, rfl, _, _⟩ := (HS3.rd 0 rfl).val
    simp only [List.nil_append] at HS3
    obtain ⟨es, clock, HS4⟩ := (HS3.pick 1 rfl).keep
    clear HS HS3 hs
    go_wp2
    go_loopw [5, 20] (fun o r wr => ∃ (k : Nat) (acc : List UInt8), k ≤ 8 ∧ r = .int .i64 k ∧ Own w [.mapf es clock b2 (cloud [] xs), .own o acc, .box w.heap.size 34 [.slice A xs.length c]] wr ∧ ctxBytes xs = acc ++ repsFrom xs (8 - k) k ∧ acc.length ≤ 10 + k * 20020) (fun _ r _ => 8 - (intOf r).toNat)
    case atStart => exact ⟨0, uv (countFrom xs 8 0), by omega, rfl, HS4, rfl, by have := uv_len10 (countFrom xs 8 0) (by omega); omega⟩
    case round =>
      obtain ⟨k, acc, hk, rfl, HS', he, hal⟩ := hrel
      have HE := Lib.hid he
      clear he HS4
      obtain ⟨A5, c5, rfl, _, _⟩ := (HS'.rd 1 rfl).val
      by_cases hlt : k < 8
      · have HR := Lib.hid (show repsFrom xs (8 - k) k = repBytes k (spansOf xs k) ++ repsFrom xs (8 - (k + 1)) (k + 1) by rw [show 8 - k = (8 - (k + 1)) + 1 by omega]; rfl)
        have HRL := repBytes_len HK.out k (by omega)
        have hxl := ctx_len HK.out
        have hbd := ctx_span_bound (rep := (k : Int)) HK.out
        have hspc := spaced_ctx xs k HK.out
        have hsl := spans_le xs k
        obtain ⟨v, hrun, hrd⟩ := HS'.look Tryz.underlying95 Tryz.underlying3 zeroSpans (k : Int)
        have hl := hrun true wr (hrd HS').1
        clear hrun
        rw [mhas_cloud] at hl
        by_cases hsp : spansOf xs (k : Int) = []
        · rw [hsp] at hl HR
          simp only [decide_true, Bool.not_true, if_true] at hl
          have HSP := Lib.hid hsp
          clear hsp hbd hspc hsl hrd HRL
          go_wp2
          go_roundw
          case rel => exact ⟨k + 1, acc, by omega, by go_num, HS', by rw [HE.out, HR.out]; rfl, by omega⟩
          case measure => simp [intOf]; omega
        · simp only [hsp, decide_false, Bool.not_false, if_true] at hl
          have hrd2 : ∀ {w' : World} {R' : List Ds}, Own w (.mapf es clock b2 (cloud [] xs) :: R') w' → Rd w' v (spansOf xs (k : Int)) := fun h => by have := (hrd h).2; rwa [mget_cloud0] at this
          clear hrd
          obtain ⟨l, hll⟩ : ∃ l, spansOf xs (k : Int) = l := ⟨_, rfl⟩
          rw [hll] at HR HRL hbd hspc hsl hsp
          simp only [hll] at hrd2
          clear hll
          have hv4 := hrd2 HS'
          obtain ⟨A4, c4, rfl, _, _⟩ := hv4.val
          have hB : repBytes k l = uv k ++ (uv l.length ++ spanBytes (-1) l) := by unfold repBytes; rw [if_neg hsp]
          rw [hB] at HR HRL
          have HRL := Lib.hid HRL
          clear hB hsp
          have HBD := Lib.hid hbd
          have HSPC := Lib.hid hspc
          clear hbd hspc hv4
          have hu1 := uv_len10 k (by omega)
          have hu2 := uv_len10 l.length (by omega)
          go_wp2_with fail
          refine (putInt acc k _ _ (HS'.pick 1 rfl) (by omega) (by omega)).mono ?_
          rintro e w5 ⟨v5, rfl, H5⟩
          obtain ⟨acc1, ha1⟩ : ∃ a, acc ++ uv k = a := ⟨_, rfl⟩
          have hal1 : acc1.length ≤ 20 + k * 20020 := by rw [← ha1]; simp only [List.length_append]; omega
          rw [ha1] at H5
          have HA1 := Lib.hid ha1
          clear ha1
          obtain ⟨A6, c6, rfl, _, _⟩ := (H5.rd 0 rfl).val
          go_wp2_with fail
          refine (putInt acc1 l.length _ _ H5 (by omega) (by omega)).mono ?_
          rintro e w6 ⟨v6, rfl, H6⟩
          clear H5
          obtain ⟨acc2, ha2⟩ : ∃ a, acc1 ++ uv l.length = a := ⟨_, rfl⟩
          have hal2 : acc2.length ≤ 30 + k * 20020 := by rw [← ha2]; simp only [List.length_append]; omega
          have HT := Lib.hid (show ctxBytes xs = (acc2 ++ spanBytes (-1) l) ++ repsFrom xs (8 - (k + 1)) (k + 1) by rw [HE.out, HR.out, ← ha2, ← HA1.out]; simp only [List.append_assoc])
          rw [ha2] at H6
          clear ha2 HS' hl
          obtain ⟨A7, c7, rfl, _, _⟩ := (H6.rd 0 rfl).val
          have hst := HBD
          have h0 : ∀ (h : 0 < l.length), (-1 : Int) + 2 ≤ l[0].f := fun h => by have := HBD.out l[0] (List.getElem_mem h); omega
          go_wp2
          go_loopw [5, 9, 39] (fun o la i w2 => ∃ (j : Nat) (acc' : List UInt8) (z : Int), j ≤ l.length ∧ i = .int .i64 j ∧ la = .int .i64 z ∧ Own w [.own o acc', .mapf es clock b2 (cloud [] xs), .box w.heap.size 34 [.slice A xs.length c]] w2 ∧ acc' ++ spanBytes z (l.drop j) = acc2 ++ spanBytes (-1) l ∧ acc'.length ≤ 30 + k * 20020 + 20 * j ∧ -1 ≤ z ∧ z ≤ 1000000000 ∧ ∀ (h : j < l.length), z + 2 ≤ l[j].f) (fun _ _ i _ => l.length - (intOf i).toNat)
          case atStart => exact ⟨0, acc2, -1, by omega, rfl, rfl, H6, rfl, by omega, by omega, by omega, h0⟩
          case round =>
            obtain ⟨j, acc', z, hj, rfl, rfl, HS', he, hal', hz1, hz2, hz3⟩ := hrel
            have HE2 := Lib.hid he
            have HZ3 := Lib.hid hz3
            clear he hz3 H6 h0
            obtain ⟨A8, c8, rfl, _, _⟩ := (HS'.rd 0 rfl).val
            by_cases hjl : j < l.length
            · obtain ⟨b4, o4, rfl⟩ := (hrd2 (HS'.pick 1 rfl)).fix (by omega)
              have r0 := Sp.rd (hrd2 (HS'.pick 1 rfl)) j hjl
              have hz4 := HZ3.out hjl
              have hb4 := HBD.out l[j] (List.getElem_mem hjl)
              have HD := Lib.hid (show spanBytes z (l.drop j) = uv (l[j].f - z - 2).toNat ++ (uv (l[j].t - l[j].f).toNat ++ spanBytes l[j].t (l.drop (j + 1))) by rw [List.drop_eq_getElem_cons hjl]; rfl)
              have HN4 := Lib.hid (show ∀ h : j + 1 < l.length, l[j].t + 2 ≤ l[j + 1].f from fun h => by have := HSPC.out.lt j (j + 1) hjl h (by omega); omega)
              obtain ⟨x, hx⟩ : ∃ x, l[j] = x := ⟨_, rfl⟩
              rw [hx] at r0 hz4 hb4 HD HN4
              clear hx
              have HS := HS'.box (b := wr.heap.size) [.int .i64 x.f, .int .i64 x.t] 145
              have F := HS.facts; simp only [Own.Facts, Ds.map, Own.Cells, World.size_alloc, List.cons_append, List.nil_append, List.eraseIdx_cons_succ, List.eraseIdx_cons_zero, List.eraseIdx_zero, List.tail_cons, Nat.zero_add] at F
              replace HS := HS.pick 1 rfl
              obtain ⟨n1, hn1⟩ : ∃ n : Nat, (x.f - z - 2).toNat = n := ⟨_, rfl⟩
              obtain ⟨n2, hn2⟩ : ∃ n : Nat, (x.t - x.f).toNat = n := ⟨_, rfl⟩
              rw [hn1, hn2] at HD
              have hn1b : n1 ≤ 1000000000 := by omega
              have hn2b : n2 ≤ 1000000000 := by omega
              have e1 : IntKind.i64.wrap (x.f - z) = x.f - z := i64w rfl (by omega) (by omega)
              have e2 : IntKind.i64.wrap (x.f - z - 2) = (n1 : Int) := i64w (by omega) (by omega) (by omega)
              have e3 : IntKind.i64.wrap (x.t - x.f) = (n2 : Int) := i64w (by omega) (by omega) (by omega)
              clear hn1 hn2
              go_wp2
              go_region_held3 (fun w' => w'.cell? ⟨wr.heap.size, 0, none⟩ = some (.int .i64 x.f) ∧ w'.cell? ⟨wr.heap.size, 1, none⟩ = some (.int .i64 x.t)) (first | go_keep) (first | (go_at_call 138; refine (putInt2 _ _ _ _ (by first | exact HS | exact HS.drew) (by omega) (by omega)).mono ?_; rintro e w1 ⟨A9, c9, q9, rfl, hq9, hql9, H9⟩; clear HS; have HS := H9; clear H9; have F := HS.facts; simp only [Own.Facts, Ds.map, Own.Cells, World.size_alloc, List.cons_append, List.nil_append, List.eraseIdx_cons_succ, List.eraseIdx_cons_zero, List.eraseIdx_zero, List.tail_cons, Nat.zero_add] at F))
              obtain ⟨q8, hq8, hq7⟩ : ∃ q, Hid (q = acc' ++ uv n1) ∧ Hid (q9 = q ++ uv n2) := ⟨_, by assumption, hq9⟩
              clear hq9 e1 e2 e3
              go_wp2
              go_roundw
              case rel => exact ⟨j + 1, q9, x.t, by omega, by go_num, rfl, (HS.pick 1 rfl).drop, by rw [hq7.out, hq8.out, ← HE2.out, HD.out]; simp only [List.append_assoc], by omega, by omega, by omega, HN4.out⟩
              case measure => simp [intOf]; omega
            · obtain rfl : j = l.length := by omega
              go_wp2
              have he := HE2.out
              rw [List.drop_length] at he
              simp only [spanBytes, List.append_nil] at he
              go_roundw
              case rel => exact ⟨k + 1, acc', by omega, by go_num, HS'.pick 1 rfl, by rw [HT.out, ← he], by omega⟩
              case measure => simp [intOf]; omega
      · go_wp2
        obtain rfl : k = 8 := by omega
        have hbc : ctxBytes xs = acc := by rw [HE.out]; simp [repsFrom]
        have HBC := Lib.hid hbc
        clear hbc
        exact bodyPost_ret (v := .tuple #[.slice A5 acc.length c5, .bool true]) (by simp [results, Tryz.results96, go_sem, *]) rfl ⟨_, rfl, by rw [HN.out, HBC.out]; exact (HS'.pick 1 rfl).only⟩
end Go.Proofs.YtohgelmkagcimaaGreat
