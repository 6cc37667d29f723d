/- PutContext: the reference. -/
import Derived.Test.YtbcgbkeldcaalaaP1
import Derived.Test.YtbcgbkeldcaalaaP0
import Derived.Test.YtbcgbkeldcaalaaL1
import Derived.Test.YtbcgbkeldcaalaaC2
namespace Go.Proofs.Ytbcgbkeldcaalaa
set_option linter.unusedSimpArgs false
set_option linter.unusedVariables false
open Go.RowKit Go.Ow
attribute [local irreducible] wpQuiet
set_option maxRecDepth 100000
theorem l2Put2 (n : Nat) (w : World) (hn : n ≤ 140737488351232) : Calls Try.prog 98 #[.int .i64 n] w fun e w' => ∃ A c, e = .returned (.slice A (uv n).length c) ∧ Own w [.own (.slice A (uv n).length c) (uv n)] w' :=
  (l2Put n w hn).mono fun e w' ⟨v', he, h⟩ => by
    obtain ⟨A, c, rfl, _, _⟩ := (h.rd 0 rfl).val
    exact ⟨A, c, he, h⟩
def ofRep (xs : List Rn) (rep : Int) : List Rn := xs.filter (fun r => r.r == rep)
theorem ofRep_spans (xs : List Rn) (rep : Int) : spansOf xs rep = (ofRep xs rep).map fun r => ⟨r.f, r.t⟩ := rfl
set_option maxHeartbeats 1000000 in
theorem l2Of (xs : List Rn) (rep : Int) (v : Value) (w : World) (hv : Rd w v xs) (hn : xs.length ≤ 1048576) :
    Calls Try.prog 97 #[.agg #[v], .int .i64 rep] w fun e w' => ∃ A c, e = .returned (.slice A (ofRep xs rep).length c) ∧ Own w [.own (.slice A (ofRep xs rep).length c) (ofRep xs rep)] w' := by
  obtain ⟨A, c, rfl, hc, hl⟩ := hv.val
  have HS := ((Own.start w).box [.slice A xs.length c] 35).lit ([] : List Rn) #[] 139 rfl rfl (by simp)
  simp only [World.size_alloc] at HS
  go_enter Try.func97, Try.ntmps97
  go_wp2
  go_loopw [5, 6] (fun o i wr => ∃ (k : Nat) (acc : List Rn), k ≤ xs.length ∧ i = .int .i64 k ∧ Own w [.own o acc, .box w.heap.size 35 [.slice A xs.length c]] wr ∧ ofRep xs rep = acc ++ ofRep (xs.drop k) rep ∧ acc.length ≤ k) (fun _ i _ => xs.length - (intOf i).toNat)
  case atStart => exact ⟨0, [], by omega, rfl, HS, rfl, by simp⟩
  case round =>
    obtain ⟨k, acc, hk, rfl, HS', he, hal⟩ := hrel
    have HE := Lib.hid he
    clear he HS
    have F := HS'.facts
    simp only [Own.Facts, Own.Cells, Nat.zero_add] at F
    by_cases hlt : k < xs.length
    · obtain ⟨b, o, rfl⟩ := hv.fix (by omega)
      have r0 := Rn.rd (HS'.old hv) k hlt
      have HD := Lib.hid (show xs.drop k = xs[k] :: xs.drop (k + 1) from List.drop_eq_getElem_cons hlt)
      obtain ⟨x, hx⟩ : ∃ x, xs[k] = x := ⟨_, rfl⟩
      rw [hx] at r0 HD
      clear hx
      by_cases h1 : x.r = rep
      · have HL := (HS'.lit [x] #[.int .i64 x.r, .int .i64 x.f, .int .i64 x.t] 139 rfl rfl (by simp)).pick 1 rfl
        have HH := Lib.hid (show ofRep (xs.drop k) rep = x :: ofRep (xs.drop (k + 1)) rep by rw [HD.out]; simp [ofRep, List.filter_cons, h1])
        subst h1
        go_wp2_with (refine wp_app2 (α := Rn) rfl _ _ 33 rfl (by kernel_rfl) _ _ HL rfl _ _ rfl (HL.rd 1 rfl) (by show (_ + 1) * 24 ≤ _; omega) (by show _ + 1 ≤ _; omega) ?_; clear HL; intro v2 q w2 hq hql HL)
        have H2 := (HL.pick 1 rfl).drop
        have hql2 : q.length ≤ k + 1 := by simp at hql; omega
        clear hql
        go_roundw
        case rel => exact ⟨k + 1, q, by omega, by go_num, H2, by rw [HE.out, HH.out, hq.out]; simp, hql2⟩
        case measure => simp [intOf]; omega
      · have HH := Lib.hid (show ofRep (xs.drop k) rep = ofRep (xs.drop (k + 1)) rep by rw [HD.out]; simp [ofRep, List.filter_cons, h1])
        go_wp2
        go_roundw
        case rel => exact ⟨k + 1, acc, by omega, by go_num, HS', by rw [HE.out, HH.out], by omega⟩
        case measure => simp [intOf]; omega
    · obtain rfl : k = xs.length := by omega
      have he : ofRep xs rep = acc := by rw [HE.out, List.drop_length]; simp [ofRep]
      have HF := Lib.hid he
      clear he
      obtain ⟨A5, c5, rfl, _, _⟩ := (HS'.rd 0 rfl).val
      go_wp2
      go_ret
      exact ⟨A5, c5, by rw [HF.out]; rfl, by rw [HF.out]; exact HS'.only⟩
set_option maxHeartbeats 8000000 in
theorem specPutContext (xs : List Rn) (v : Value) (w : World) (hv : Rd w v xs) (hn : xs.length ≤ 1048576) :
    Calls Try.prog 73 #[.agg #[v]] w fun e w' => ∃ v', e = .returned (.tuple #[v', .bool (ctxOk xs)]) ∧ Own w [.own v' (putCtx xs)] w' := by
  obtain ⟨A, c, rfl, hc, hl⟩ := hv.val
  have HS := (Own.start w).box [.slice A xs.length c] 35
  cases h1 : ctxOk xs
  · have HN := Lib.hid (show putCtx xs = [] by simp [putCtx, h1])
    go_enter Try.func73, Try.ntmps73
    go_wp2_with fail
    refine (specCtxOk xs _ _ (by repeat (first | exact HS.old hv | exact HS.rd 0 rfl | exact HS.rd 1 rfl | exact HS.rd 2 rfl | exact HS.rd 3 rfl | exact HS.rd 4 rfl | exact HS.rd 5 rfl | exact HS.drew.old hv | exact HS.drew.rd 0 rfl | exact HS.drew.rd 1 rfl | exact HS.drew.rd 2 rfl | exact HS.drew.rd 3 rfl | exact HS.drew.rd 4 rfl | exact HS.drew.rd 5 rfl | refine Rd.alloc ?_ _))).mono ?_; rintro e w1 ⟨rfl, hb⟩; (first | have H' := HS.of_below hb | have H' := HS.drew.of_below hb | have H' := (HS.box0 [_] _).of_below hb | have H' := ((HS.box0 [_] _).box0 [_] _).of_below hb | have H' := (HS.alloc _).of_below hb | have H' := ((HS.alloc _).alloc _).of_below hb); clear HS; have HS := H'; clear H'; have F := HS.facts; simp only [Own.Facts, Own.Cells, World.size_alloc, List.cons_append, List.nil_append, List.eraseIdx_cons_succ, List.eraseIdx_cons_zero, List.eraseIdx_zero, List.tail_cons, Nat.zero_add] at F
    go_wp2
    exact bodyPost_ret (v := .tuple #[.slice (some ⟨w1.heap.size, 0, none⟩) 0 0, .bool false]) (by simp [results, Try.results73, go_sem, *]) rfl ⟨_, rfl, by rw [HN.out]; exact (HS.lit ([] : List UInt8) #[] 5 rfl rfl (by simp)).only⟩
  · have HN := Lib.hid (show putCtx xs = ctxBytes xs by simp [putCtx, h1])
    have HK := Lib.hid h1
    go_enter Try.func73, Try.ntmps73
    go_wp2_with fail
    refine (specCtxOk xs _ _ (by repeat (first | exact HS.old hv | exact HS.rd 0 rfl | exact HS.rd 1 rfl | exact HS.rd 2 rfl | exact HS.rd 3 rfl | exact HS.rd 4 rfl | exact HS.rd 5 rfl | exact HS.drew.old hv | exact HS.drew.rd 0 rfl | exact HS.drew.rd 1 rfl | exact HS.drew.rd 2 rfl | exact HS.drew.rd 3 rfl | exact HS.drew.rd 4 rfl | exact HS.drew.rd 5 rfl | refine Rd.alloc ?_ _))).mono ?_; rintro e w1 ⟨rfl, hb⟩; (first | have H' := HS.of_below hb | have H' := HS.drew.of_below hb | have H' := (HS.box0 [_] _).of_below hb | have H' := ((HS.box0 [_] _).box0 [_] _).of_below hb | have H' := (HS.alloc _).of_below hb | have H' := ((HS.alloc _).alloc _).of_below hb); clear HS; have HS := H'; clear H'; have F := HS.facts; simp only [Own.Facts, Own.Cells, World.size_alloc, List.cons_append, List.nil_append, List.eraseIdx_cons_succ, List.eraseIdx_cons_zero, List.eraseIdx_zero, List.tail_cons, Nat.zero_add] at F
    have HL := HS.lit ([] : List UInt8) #[] 5 rfl rfl (by simp)
    clear HS
    go_wp2
    go_loopw [4, 5, 6] (fun n o r wr => ∃ (k m : Nat) (acc : List UInt8), k ≤ 8 ∧ r = .int .i64 k ∧ n = .int .i64 m ∧ m ≤ k ∧ Own w [.own o acc, .box w.heap.size 35 [.slice A xs.length c]] wr ∧ repsFrom xs 8 0 = acc ++ repsFrom xs (8 - k) k ∧ countFrom xs 8 0 = m + countFrom xs (8 - k) k ∧ acc.length ≤ k * 20020) (fun _ _ r _ => 8 - (intOf r).toNat)
    case atStart => exact ⟨0, 0, [], by omega, rfl, rfl, by omega, HL, rfl, (Nat.zero_add _).symm, by simp⟩
    case round =>
      obtain ⟨k, m, acc, hk, rfl, rfl, hmk, HS, he, hcn, hal⟩ := hrel
      have HE := Lib.hid he
      have HC := Lib.hid hcn
      clear he hcn HL
      by_cases hlt : k < 8
      · have HR := Lib.hid (show repsFrom xs (8 - k) k = repBytes k (spansOf xs k) ++ repsFrom xs (8 - (k + 1)) (k + 1) by rw [show 8 - k = (8 - (k + 1)) + 1 by omega]; rfl)
        have HCR := Lib.hid (show countFrom xs (8 - k) k = (if spansOf xs k = [] then 0 else 1) + countFrom xs (8 - (k + 1)) (k + 1) by rw [show 8 - k = (8 - (k + 1)) + 1 by omega]; rfl)
        have HRL := repBytes_len HK.out k (by omega)
        have hxl := ctx_len HK.out
        have hbd := ctx_span_bound (rep := (k : Int)) HK.out
        have hspc := spaced_ctx xs k HK.out
        rw [ofRep_spans] at hbd hspc HRL HR HCR
        have hsl : (ofRep xs (k : Int)).length ≤ xs.length := List.length_filter_le _ _
        have F := HS.facts; simp only [Own.Facts, Own.Cells, World.size_alloc, List.cons_append, List.nil_append, List.eraseIdx_cons_succ, List.eraseIdx_cons_zero, List.eraseIdx_zero, List.tail_cons, Nat.zero_add] at F
        go_wp2_with fail
        refine (l2Of xs k _ _ (HS.old hv) hn).mono ?_
        rintro e w2 ⟨A2, c2, rfl, hs⟩
        replace HS := (HS.call hs).pick 1 rfl
        obtain ⟨rs, hrs⟩ : ∃ l, ofRep xs (k : Int) = l := ⟨_, rfl⟩
        rw [hrs] at HS hbd hspc HRL HR HCR hsl ⊢
        clear hs hrs
        by_cases hsp : rs = []
        · rw [hsp] at HR HCR
          have hz : ((rs.length : Int) == 0) = true := by rw [hsp]; rfl
          have hz2 : rs.length = 0 := by rw [hsp]; rfl
          have HSP := Lib.hid hsp
          clear hsp hbd hspc HRL
          go_wp2
          go_roundw
          case rel => exact ⟨k + 1, m, acc, by omega, by go_num, rfl, by omega, (HS.pick 1 rfl).drop, by rw [HE.out, HR.out]; rfl, by rw [HC.out, HCR.out]; simp, by omega⟩
          case measure => simp [intOf]; omega
        · have hz : ((rs.length : Int) == 0) = false := by simp; exact hsp
          have hz2 : 0 < rs.length := List.length_pos_iff.2 hsp
          have hcc : (if rs.map (fun r => (⟨r.f, r.t⟩ : Sp)) = [] then 0 else 1) = 1 := by rw [if_neg (by simpa using hsp)]
          rw [hcc] at HCR
          have hB : repBytes k (rs.map fun r => (⟨r.f, r.t⟩ : Sp)) = uv k ++ (uv rs.length ++ spanBytes (-1) (rs.map fun r => (⟨r.f, r.t⟩ : Sp))) := by unfold repBytes; rw [if_neg (by simpa using hsp), List.length_map]
          rw [hB] at HR
          have HRL := Lib.hid HRL
          clear hB hsp hcc
          have HBD := Lib.hid hbd
          have HSPC := Lib.hid hspc
          clear hbd hspc
          have hu1 := uv_len10 k (by omega)
          have hu2 := uv_len10 rs.length (by omega)
          go_wp2_with fail
          refine (l2Put2 _ _ (by omega)).mono ?_; rintro e w1 ⟨A9, c9, rfl, hs9⟩; (first | have H' := (HS.call hs9).pick 1 rfl | have H' := (HS.drew.call hs9).pick 1 rfl); clear HS; have HS := H'; clear H' hs9
          go_wp2_with (refine wp_app2 (α := UInt8) rfl _ _ 44 rfl (by kernel_rfl) _ _ HS rfl _ _ rfl (HS.rd 1 rfl) (by show (_ + _) * 1 ≤ _; omega) (by omega) ?_; intro v2 q1 w2 hq1 hql1 H'; clear HS; have HS := (H'.pick 1 rfl).drop; clear H')
          refine (l2Put2 _ _ (by omega)).mono ?_; rintro e w1 ⟨A9, c9, rfl, hs9⟩; (first | have H' := (HS.call hs9).pick 1 rfl | have H' := (HS.drew.call hs9).pick 1 rfl); clear HS; have HS := H'; clear H' hs9
          go_wp2_with (refine wp_app2 (α := UInt8) rfl _ _ 44 rfl (by kernel_rfl) _ _ HS rfl _ _ rfl (HS.rd 1 rfl) (by show (_ + _) * 1 ≤ _; omega) (by omega) ?_; intro v2 q2 w2 hq2 hql2 H'; clear HS; have HS := (H'.pick 1 rfl).drop; clear H')
          have HT := Lib.hid (show repsFrom xs 8 0 = (q2 ++ spanBytes (-1) (rs.map fun r => (⟨r.f, r.t⟩ : Sp))) ++ repsFrom xs (8 - (k + 1)) (k + 1) by rw [HE.out, HR.out, hq2.out, hq1.out]; simp only [List.append_assoc])
          have HCT := Lib.hid (show countFrom xs 8 0 = (m + 1) + countFrom xs (8 - (k + 1)) (k + 1) by have := HC.out; have := HCR.out; omega)
          have hql3 : q2.length ≤ k * 20020 + 20 := by omega
          clear hql1 hql2 hq1 hq2
          have h0 : ∀ (h : 0 < rs.length), (-1 : Int) + 2 ≤ rs[0].f := fun h => by have := HBD.out ⟨rs[0].f, rs[0].t⟩ (List.mem_map.2 ⟨rs[0], List.getElem_mem h, rfl⟩); simp only at this; omega
          go_wp2
          go_loopw [5, 8, 9] (fun o la i w2 => ∃ (j : Nat) (acc' : List UInt8) (z : Int), j ≤ rs.length ∧ i = .int .i64 j ∧ la = .int .i64 z ∧ Own w [.own o acc', .own (.slice A2 rs.length c2) rs, .box w.heap.size 35 [.slice A xs.length c]] w2 ∧ acc' ++ spanBytes z ((rs.drop j).map fun r => (⟨r.f, r.t⟩ : Sp)) = q2 ++ spanBytes (-1) (rs.map fun r => (⟨r.f, r.t⟩ : Sp)) ∧ acc'.length ≤ k * 20020 + 20 + 20 * j ∧ -1 ≤ z ∧ z ≤ 1000000000 ∧ ∀ (h : j < rs.length), z + 2 ≤ rs[j].f) (fun _ _ i _ => rs.length - (intOf i).toNat)
          case atStart => exact ⟨0, q2, -1, by omega, rfl, rfl, HS, rfl, by omega, by omega, by omega, h0⟩
          case round =>
            obtain ⟨j, acc', z, hj, rfl, rfl, HS', he, hal', hz1, hz2, hz3⟩ := hrel
            have HE2 := Lib.hid he
            have HZ3 := Lib.hid hz3
            clear he hz3 h0 HS
            have HS := HS'
            clear HS'
            by_cases hjl : j < rs.length
            · obtain ⟨b4, o4, rfl⟩ := (HS.rd 1 rfl).fix (by omega)
              have r0 := Rn.rd (HS.rd 1 rfl) j hjl
              have hz4 := HZ3.out hjl
              have hb4 := HBD.out ⟨rs[j].f, rs[j].t⟩ (List.mem_map.2 ⟨rs[j], List.getElem_mem hjl, rfl⟩)
              simp only at hb4
              have HD := Lib.hid (show spanBytes z ((rs.drop j).map fun r => (⟨r.f, r.t⟩ : Sp)) = uv (rs[j].f - z - 2).toNat ++ (uv (rs[j].t - rs[j].f).toNat ++ spanBytes rs[j].t ((rs.drop (j + 1)).map fun r => (⟨r.f, r.t⟩ : Sp))) by rw [List.drop_eq_getElem_cons hjl]; rfl)
              have HN4 := Lib.hid (show ∀ h : j + 1 < rs.length, rs[j].t + 2 ≤ rs[j + 1].f from fun h => by have := HSPC.out.lt j (j + 1) (by simpa using hjl) (by simpa using h) (by omega); simp only [List.getElem_map] at this; omega)
              have HRR : ∀ {W' w' : World} {R' : List Ds}, Own W' (.own (.slice (some ⟨b4, o4, none⟩) rs.length c2) rs :: R') w' → w'.cell? ⟨b4, o4 + j * 3, none⟩ = some (.int .i64 rs[j].r) ∧ w'.cell? ⟨b4, o4 + j * 3 + 1, none⟩ = some (.int .i64 rs[j].f) ∧ w'.cell? ⟨b4, o4 + j * 3 + 2, none⟩ = some (.int .i64 rs[j].t) := fun h => Rn.rd (h.rd 0 rfl) j hjl
              obtain ⟨x, hx⟩ : ∃ x, rs[j] = x := ⟨_, rfl⟩
              rw [hx] at r0 hz4 hb4 HD HN4
              simp only [hx] at HRR
              clear hx
              obtain ⟨n1, hn1⟩ : ∃ n : Nat, (x.f - z - 2).toNat = n := ⟨_, rfl⟩
              obtain ⟨n2, hn2⟩ : ∃ n : Nat, (x.t - x.f).toNat = n := ⟨_, rfl⟩
              rw [hn1, hn2] at HD
              have hn1b : n1 ≤ 1000000000 := by omega
              have hn2b : n2 ≤ 1000000000 := by omega
              have hu3 := uv_len10 n1 (by omega)
              have hu4 := uv_len10 n2 (by omega)
              have e2 : x.f - z - 2 = (n1 : Int) := by omega
              have e3 : IntKind.i64.wrap (x.t - x.f) = (n2 : Int) := i64w (by omega) (by omega) (by omega)
              clear hn1 hn2
              go_wp2_with fail
              refine (l2Put2 _ _ (by omega)).mono ?_; rintro e w1 ⟨A9, c9, rfl, hs9⟩; (first | have H' := (HS.call hs9).pick 1 rfl | have H' := (HS.drew.call hs9).pick 1 rfl); clear HS; have HS := H'; clear H' hs9
              go_wp2_with (refine wp_app2 (α := UInt8) rfl _ _ 44 rfl (by kernel_rfl) _ _ HS rfl _ _ rfl (HS.rd 1 rfl) (by show (_ + _) * 1 ≤ _; omega) (by omega) ?_; intro v2 q3 w2 hq3 hql3 H'; clear HS; have HS := (H'.pick 1 rfl).drop; clear H')
              have r3 := HRR (HS.pick 1 rfl)
              clear r0
              go_wp2
              go_region_held3 (fun w' => w'.cell? ⟨b4, o4 + j * 3 + 1, none⟩ = some (.int .i64 x.f) ∧ w'.cell? ⟨b4, o4 + j * 3 + 2, none⟩ = some (.int .i64 x.t)) (first | go_keep | exact ⟨(HRR (HS.pick 1 rfl)).2.1, (HRR (HS.pick 1 rfl)).2.2⟩ | exact ⟨(HRR (HS.pick 2 rfl)).2.1, (HRR (HS.pick 2 rfl)).2.2⟩) (first | (go_at_call 98; refine (l2Put2 _ _ (by omega)).mono ?_; rintro e w1 ⟨A9, c9, rfl, hs9⟩; (first | have H' := (HS.call hs9).pick 1 rfl | have H' := (HS.drew.call hs9).pick 1 rfl); clear HS; have HS := H'; clear H' hs9) | (refine hp_app2 (α := UInt8) _ _ 44 rfl (by rfl) (by kernel_rfl) _ _ HS rfl _ _ rfl (HS.rd 1 rfl) (by show (_ + _) * 1 ≤ _; omega) (by omega) ?_; intro v2 q4 w2 hq4 hql4 H'; clear HS; have HS := (H'.pick 1 rfl).drop; clear H'))
              have r4 := HRR (HS.pick 1 rfl)
              clear r3 e2 e3
              go_wp2
              go_roundw
              case rel => exact ⟨j + 1, q4, x.t, by omega, by go_num, rfl, HS, by rw [hq4.out, hq3.out, ← HE2.out, HD.out]; simp only [List.append_assoc], by omega, by omega, by omega, HN4.out⟩
              case measure => simp [intOf]; omega
            · obtain rfl : j = rs.length := by omega
              have he := HE2.out
              rw [List.drop_length] at he
              simp only [List.map_nil, spanBytes, List.append_nil] at he
              have HE3 := Lib.hid he
              clear he
              go_wp2
              go_roundw
              case rel => exact ⟨k + 1, m + 1, acc', by omega, by go_num, by go_num, by omega, (HS.pick 1 rfl).drop, by rw [HT.out, ← HE3.out], HCT.out, by omega⟩
              case measure => simp [intOf]; omega
      · obtain rfl : k = 8 := by omega
        go_wp2_with fail
        refine (l2Put m _ (by omega)).mono ?_
        rintro e w2 ⟨v9, rfl, hs9⟩
        replace HS := HS.call hs9
        have hu := uv_len10 m (by omega)
        go_wp2_with (refine wp_app2 (α := UInt8) rfl _ _ 44 rfl (by kernel_rfl) _ _ HS rfl _ _ rfl (HS.rd 1 rfl) (by show (_ + _) * 1 ≤ _; omega) (by omega) ?_; intro v2 q2 w2 hq2 hql2 H')
        have HB := Lib.hid (show q2 = ctxBytes xs by have e1 : countFrom xs 8 0 = m := HC.out; have e2 : repsFrom xs 8 0 = acc := HE.out.trans (List.append_nil _); rw [hq2.out]; unfold ctxBytes; rw [e1, e2])
        obtain ⟨A2, c2, rfl, _, _⟩ := (H'.rd 0 rfl).val
        exact bodyPost_ret (v := .tuple #[.slice A2 q2.length c2, .bool true]) (by simp [results, Try.results73, go_sem, *]) rfl ⟨_, rfl, by rw [HN.out, ← HB.out]; exact H'.only⟩
end Go.Proofs.Ytbcgbkeldcaalaa
