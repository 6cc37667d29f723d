/- PutContext in plain Lean. PutContext: the reference. The bytes of a state, in plain Lean. The reference's kinds and groups of leaves. PutState: the reference's tree of bytes. -/
import Derived.Test.YtohgelmkagcimaaGreatL2
import Derived.Test.YtohgelmkagcimaaGreatBa
import Derived.Test.YtohgelmkagcimaaGreatL1
import Derived.Test.YtohgelmkagcimaaGreatCa
import Derived.Test.YtohgelmkagcimaaGreatHa
namespace Go.Proofs.YtohgelmkagcimaaGreat
set_option linter.unusedSimpArgs false
set_option linter.unusedVariables false
open Go.RowKit Go.Ow
def spanBytes : Int → List Sp → List UInt8
  | _, [] => []
  | last, s :: l => uv (s.f - last - 2).toNat ++ (uv (s.t - s.f).toNat ++ spanBytes s.t l)
def repBytes (rep : Nat) (l : List Sp) : List UInt8 := if l = [] then [] else uv rep ++ (uv l.length ++ spanBytes (-1) l)
def repsFrom (xs : List Rn) : Nat → Nat → List UInt8
  | 0, _ => []
  | n + 1, k => repBytes k (spansOf xs k) ++ repsFrom xs n (k + 1)
def countFrom (xs : List Rn) : Nat → Nat → Nat
  | 0, _ => 0
  | n + 1, k => (if spansOf xs k = [] then 0 else 1) + countFrom xs n (k + 1)
def ctxBytes (xs : List Rn) : List UInt8 := uv (countFrom xs 8 0) ++ repsFrom xs 8 0
def putCtx (xs : List Rn) : List UInt8 := if ctxOk xs then ctxBytes xs else []
theorem spanBytes_len : ∀ (l : List Sp) (last : Int), (∀ s ∈ l, (s.f - last - 2).toNat < 18446744073709551616 ∧ s.f ≤ 1000000000 ∧ -1 ≤ s.t ∧ (s.t - s.f).toNat < 18446744073709551616) → (spanBytes last l).length ≤ 20 * l.length
  | [], _, _ => by simp [spanBytes]
  | s :: l, last, h => by
    have h1 := h s (by simp)
    have h2 := uv_len10 _ h1.1
    have h3 := uv_len10 _ h1.2.2.2
    have ih := spanBytes_len l s.t (fun u hu => by have := h u (by simp [hu]); exact ⟨by omega, this.2⟩)
    simp only [spanBytes, List.length_append, List.length_cons]
    omega
theorem spans_le (xs : List Rn) (rep : Int) : (spansOf xs rep).length ≤ xs.length := by
  unfold spansOf; rw [List.length_map]; exact List.length_filter_le _ _
theorem ctx_span_bound {xs : List Rn} {rep : Int} (h : ctxOk xs = true) : ∀ s ∈ spansOf xs rep, 1 ≤ s.f ∧ s.f ≤ s.t ∧ s.t ≤ 1000000000 := by
  intro s hs
  obtain ⟨r, hr, rfl⟩ := List.mem_map.1 hs
  have := okPre_bound xs none (by unfold ctxOk at h; simp at h; exact h.1) r (List.mem_filter.1 hr).1
  simp only; omega
theorem ctx_len {xs : List Rn} (h : ctxOk xs = true) : xs.length ≤ 1000 := by unfold ctxOk at h; simp at h; exact h.2
theorem repBytes_len {xs : List Rn} (h : ctxOk xs = true) (k : Nat) (hk : k < 1000) : (repBytes k (spansOf xs k)).length ≤ 20 * xs.length + 20 := by
  unfold repBytes
  split
  · simp
  · have h1 := uv_len10 k (by omega)
    have hl := spans_le xs k
    have h0 := ctx_len h
    have h2 := uv_len10 (spansOf xs k).length (by omega)
    have h3 := spanBytes_len (spansOf xs k) (-1) (fun s hs => by have := ctx_span_bound h s hs; exact ⟨by omega, by omega, by omega, by omega⟩)
    simp only [List.length_append]
    omega
theorem repsFrom_len {xs : List Rn} (h : ctxOk xs = true) : ∀ (n k : Nat), k + n ≤ 8 → (repsFrom xs n k).length ≤ n * 20020
  | 0, _, _ => by simp [repsFrom]
  | n + 1, k, hk => by
    have h1 := repBytes_len h k (by omega)
    have h0 := ctx_len h
    have ih := repsFrom_len h n (k + 1) (by omega)
    simp only [repsFrom, List.length_append, Nat.succ_mul]
    omega
theorem countFrom_le (xs : List Rn) : ∀ (n k : Nat), countFrom xs n k ≤ n
  | 0, _ => by simp [countFrom]
  | n + 1, k => by
    have := countFrom_le xs n (k + 1)
    simp only [countFrom]
    split <;> omega
theorem putCtx_len (xs : List Rn) : (putCtx xs).length ≤ 160170 := by
  unfold putCtx
  split
  · rename_i h
    have h1 := uv_len10 (countFrom xs 8 0) (by have := countFrom_le xs 8 0; omega)
    have h2 := repsFrom_len h 8 0 (by omega)
    simp only [ctxBytes, List.length_append]; omega
  · simp
/-! The cloud's keys. -/
theorem cloud_keys : ∀ (xs : List Rn) (g : List (Int × List Sp)), (g.map (·.1)).Nodup → ((cloud g xs).map (·.1)).Nodup ∧ ∀ a, a ∈ (cloud g xs).map (·.1) ↔ a ∈ g.map (·.1) ∨ a ∈ xs.map (·.r)
  | [], g, h => ⟨h, fun a => by simp [cloud]⟩
  | x :: xs, g, h => by
    have h1 := mput_keys x.r (mget g x.r ++ [⟨x.f, x.t⟩]) g h
    obtain ⟨ih1, ih2⟩ := cloud_keys xs _ h1.1
    refine ⟨ih1, fun a => ?_⟩
    rw [cloud, ih2]
    have h3 : a ∈ (mput g x.r (mget g x.r ++ [⟨x.f, x.t⟩])).map (·.1) ↔ a = x.r ∨ a ∈ g.map (·.1) := by
      refine ⟨h1.2 a, fun h' => ?_⟩
      clear ih1 ih2 h1 h
      generalize mget g x.r ++ [⟨x.f, x.t⟩] = ys
      induction g with
      | nil => simpa [mput] using h'
      | cons p g ihg =>
        simp only [mput]
        by_cases hp : p.1 = x.r
        · rw [if_pos hp]
          rcases h' with h' | h'
          · simp [h']
          · simp only [List.map_cons, List.mem_cons] at h' ⊢
            rcases h' with h' | h'
            · exact .inl (by rw [h', hp])
            · exact .inr h'
        · rw [if_neg hp]
          simp only [List.map_cons, List.mem_cons] at h' ⊢
          rcases h' with h' | h' | h'
          · exact .inr (ihg (.inl h'))
          · exact .inl h'
          · exact .inr (ihg (.inr h'))
    rw [h3, List.map_cons, List.mem_cons]
    constructor
    · rintro ((h | h) | h)
      · exact .inr (.inl h)
      · exact .inl h
      · exact .inr (.inr h)
    · rintro (h | h | h)
      · exact .inl (.inr h)
      · exact .inl (.inl h)
      · exact .inr h
theorem spans_nil (xs : List Rn) (k : Int) : spansOf xs k = [] ↔ k ∉ xs.map (·.r) := by
  unfold spansOf
  rw [List.map_eq_nil_iff, List.filter_eq_nil_iff]
  simp
theorem mhas_iff (g : List (Int × List Sp)) (k : Int) : mhas g k = true ↔ k ∈ g.map (·.1) := by
  unfold mhas; simp only [List.any_eq_true, beq_iff_eq, List.mem_map]
theorem mhas_cloud (xs : List Rn) (k : Int) : mhas (cloud [] xs) k = !decide (spansOf xs k = []) := by
  rw [Bool.eq_iff_iff, mhas_iff, (cloud_keys xs [] (by simp)).2]
  simp [spans_nil]
theorem count_nodup : ∀ (n k : Nat) (l : List Int), l.Nodup → (∀ a ∈ l, (k : Int) ≤ a ∧ a < (k + n : Nat)) → l.length = ((List.range n).filter (fun i => decide (((k + i : Nat) : Int) ∈ l))).length
  | n, k, l, hn, hb => by
    have hm : (l.map fun a : Int => (a - (k : Int)).toNat).Perm ((List.range n).filter (fun i => decide (((k + i : Nat) : Int) ∈ l))) := by
      refine (List.perm_ext_iff_of_nodup ?_ (List.nodup_range.sublist List.filter_sublist)).2 fun i => ?_
      · refine List.Pairwise.map _ ?_ (List.Pairwise.and_mem.1 hn)
        rintro a b ⟨ha, hb', hab⟩ he
        have h1 := hb a ha
        have h2 := hb b hb'
        exact hab (by omega)
      · simp only [List.mem_map, List.mem_filter, List.mem_range, decide_eq_true_eq]
        constructor
        · rintro ⟨a, ha, rfl⟩
          have := hb a ha
          refine ⟨by omega, ?_⟩
          rw [show ((k + (a - (k : Int)).toNat : Nat) : Int) = a by omega]; exact ha
        · rintro ⟨hi, ha⟩
          exact ⟨_, ha, by omega⟩
    rw [← hm.length_eq, List.length_map]
theorem countFrom_filter (xs : List Rn) : ∀ (n k : Nat), countFrom xs n k = ((List.range n).filter (fun i => !decide (spansOf xs ((k + i : Nat) : Int) = []))).length
  | 0, _ => by simp [countFrom]
  | n + 1, k => by
    rw [countFrom, countFrom_filter xs n (k + 1), List.range_succ_eq_map, List.filter_cons]
    have e : ((List.range n).map Nat.succ).filter (fun i => !decide (spansOf xs ((k + i : Nat) : Int) = [])) = ((List.range n).filter (fun i => !decide (spansOf xs ((k + 1 + i : Nat) : Int) = []))).map Nat.succ := by
      rw [List.filter_map]
      congr 1
      refine List.filter_congr fun i _ => ?_
      simp only [Function.comp]
      rw [show k + Nat.succ i = k + 1 + i by omega]
    rw [e]
    by_cases h : spansOf xs (k : Int) = []
    · simp [h]
    · simp [h]; omega
theorem cloud_len (xs : List Rn) (h : ctxOk xs = true) : (cloud [] xs).length = countFrom xs 8 0 := by
  have hk := cloud_keys xs [] (by simp)
  have hb : ∀ a ∈ (cloud [] xs).map (·.1), ((0 : Nat) : Int) ≤ a ∧ a < (0 + 8 : Nat) := by
    intro a ha
    have := (hk.2 a).1 ha
    simp only [List.map_nil, List.not_mem_nil, false_or, List.mem_map] at this
    obtain ⟨r, hr, rfl⟩ := this
    have := okPre_bound xs none (by unfold ctxOk at h; simp at h; exact h.1) r hr
    omega
  have := count_nodup 8 0 _ hk.1 hb
  rw [List.length_map] at this
  rw [this, countFrom_filter]
  congr 1
  refine List.filter_congr fun i _ => ?_
  rw [← mhas_cloud, Bool.eq_iff_iff, mhas_iff]
  simp
end Go.Proofs.YtohgelmkagcimaaGreat
namespace Go.Proofs.YtohgelmkagcimaaGreat
set_option linter.unusedSimpArgs false
set_option linter.unusedVariables false
open Go.RowKit Go.Ow
attribute [local irreducible] wpQuiet
set_option maxRecDepth 100000
theorem l2Put2 (n : Nat) (w : World) (hn : n ≤ 140737488351232) : Calls Tryz.prog 159 #[.int .i64 n] w fun e w' => ∃ A c, e = .returned (.slice A (uv n).length c) ∧ Own w [.own (.slice A (uv n).length c) (uv n)] w' :=
  (l2Put n w hn).mono fun e w' ⟨v', he, h⟩ => by
    obtain ⟨A, c, rfl, _, _⟩ := (h.rd 0 rfl).val
    exact ⟨A, c, he, h⟩
def ofRep (xs : List Rn) (rep : Int) : List Rn := xs.filter (fun r => r.r == rep)
theorem ofRep_spans (xs : List Rn) (rep : Int) : spansOf xs rep = (ofRep xs rep).map fun r => ⟨r.f, r.t⟩ := rfl
set_option maxHeartbeats 1000000 in
theorem l2Of (xs : List Rn) (rep : Int) (v : Value) (w : World) (hv : Rd w v xs) (hn : xs.length ≤ 1048576) :
    Calls Tryz.prog 158 #[.agg #[v], .int .i64 rep] w fun e w' => ∃ A c, e = .returned (.slice A (ofRep xs rep).length c) ∧ Own w [.own (.slice A (ofRep xs rep).length c) (ofRep xs rep)] w' := by
  obtain ⟨A, c, rfl, hc, hl⟩ := hv.val
  have HS := ((Own.start w).box [.slice A xs.length c] 34).lit ([] : List Rn) #[] 119 rfl rfl (by simp)
  simp only [World.size_alloc] at HS
  go_enter Tryz.func158, Tryz.ntmps158
  go_wp2
  go_loopw [5, 6] (fun o i wr => ∃ (k : Nat) (acc : List Rn), k ≤ xs.length ∧ i = .int .i64 k ∧ Own w [.own o acc, .box w.heap.size 34 [.slice A xs.length c]] wr ∧ ofRep xs rep = acc ++ ofRep (xs.drop k) rep ∧ acc.length ≤ k) (fun _ i _ => xs.length - (intOf i).toNat)
  case atStart => exact ⟨0, [], by omega, rfl, HS, rfl, by simp⟩
  case round =>
    obtain ⟨k, acc, hk, rfl, HS', he, hal⟩ := hrel
    have HE := Lib.hid he
    clear he HS
    have F := HS'.facts
    simp only [Own.Facts, Own.Cells, Nat.zero_add] at F
    by_cases hlt : k < xs.length
    · obtain ⟨b, o, rfl⟩ := hv.fix (by omega)
      have r0 := Rn.rd (HS'.old hv) k hlt
      have HD := Lib.hid (show xs.drop k = xs[k] :: xs.drop (k + 1) from List.drop_eq_getElem_cons hlt)
      obtain ⟨x, hx⟩ : ∃ x, xs[k] = x := ⟨_, rfl⟩
      rw [hx] at r0 HD
      clear hx
      by_cases h1 : x.r = rep
      · have HL := (HS'.lit [x] #[.int .i64 x.r, .int .i64 x.f, .int .i64 x.t] 119 rfl rfl (by simp)).pick 1 rfl
        have HH := Lib.hid (show ofRep (xs.drop k) rep = x :: ofRep (xs.drop (k + 1)) rep by rw [HD.out]; simp [ofRep, List.filter_cons, h1])
        subst h1
        go_wp2_with (refine wp_app2 (α := Rn) rfl _ _ 32 rfl (by kernel_rfl) _ _ HL rfl _ _ rfl (HL.rd 1 rfl) (by show (_ + 1) * 24 ≤ _; omega) (by show _ + 1 ≤ _; omega) ?_; clear HL; intro v2 q w2 hq hql HL)
        have H2 := (HL.pick 1 rfl).drop
        have hql2 : q.length ≤ k + 1 := by simp at hql; omega
        clear hql
        go_roundw
        case rel => exact ⟨k + 1, q, by omega, by go_num, H2, by rw [HE.out, HH.out, hq.out]; simp, hql2⟩
        case measure => simp [intOf]; omega
      · have HH := Lib.hid (show ofRep (xs.drop k) rep = ofRep (xs.drop (k + 1)) rep by rw [HD.out]; simp [ofRep, List.filter_cons, h1])
        go_wp2
        go_roundw
        case rel => exact ⟨k + 1, acc, by omega, by go_num, HS', by rw [HE.out, HH.out], by omega⟩
        case measure => simp [intOf]; omega
    · obtain rfl : k = xs.length := by omega
      have he : ofRep xs rep = acc := by rw [HE.out, List.drop_length]; simp [ofRep]
      have HF := Lib.hid he
      clear he
      obtain ⟨A5, c5, rfl, _, _⟩ := (HS'.rd 0 rfl).val
      go_wp2
      go_ret
      exact ⟨A5, c5, by rw [HF.out]; rfl, by rw [HF.out]; exact HS'.only⟩
set_option maxHeartbeats 8000000 in
theorem specPutContext (xs : List Rn) (v : Value) (w : World) (hv : Rd w v xs) (hn : xs.length ≤ 1048576) :
    Calls Tryz.prog 134 #[.agg #[v]] w fun e w' => ∃ v', e = .returned (.tuple #[v', .bool (ctxOk xs)]) ∧ Own w [.own v' (putCtx xs)] w' := by
  obtain ⟨A, c, rfl, hc, hl⟩ := hv.val
  have HS := (Own.start w).box [.slice A xs.length c] 34
  cases h1 : ctxOk xs
  · have HN := Lib.hid (show putCtx xs = [] by simp [putCtx, h1])
    go_enter Tryz.func134, Tryz.ntmps134
    go_wp2_with fail
    refine (specCtxOk xs _ _ (by repeat (first | exact HS.old hv | exact HS.rd 0 rfl | exact HS.rd 1 rfl | exact HS.rd 2 rfl | exact HS.rd 3 rfl | exact HS.rd 4 rfl | exact HS.rd 5 rfl | exact HS.drew.old hv | exact HS.drew.rd 0 rfl | exact HS.drew.rd 1 rfl | exact HS.drew.rd 2 rfl | exact HS.drew.rd 3 rfl | exact HS.drew.rd 4 rfl | exact HS.drew.rd 5 rfl | refine Rd.alloc ?_ _))).mono ?_; rintro e w1 ⟨rfl, hb⟩; (first | have H' := HS.of_below hb | have H' := HS.drew.of_below hb | have H' := (HS.box0 [_] _).of_below hb | have H' := ((HS.box0 [_] _).box0 [_] _).of_below hb | have H' := (HS.alloc _).of_below hb | have H' := ((HS.alloc _).alloc _).of_below hb); clear HS; have HS := H'; clear H'; have F := HS.facts; simp only [Own.Facts, Own.Cells, World.size_alloc, List.cons_append, List.nil_append, List.eraseIdx_cons_succ, List.eraseIdx_cons_zero, List.eraseIdx_zero, List.tail_cons, Nat.zero_add] at F
    go_wp2
    exact bodyPost_ret (v := .tuple #[.slice (some ⟨w1.heap.size, 0, none⟩) 0 0, .bool false]) (by simp [results, Tryz.results134, go_sem, *]) rfl ⟨_, rfl, by rw [HN.out]; exact (HS.lit ([] : List UInt8) #[] 5 rfl rfl (by simp)).only⟩
  · have HN := Lib.hid (show putCtx xs = ctxBytes xs by simp [putCtx, h1])
    have HK := Lib.hid h1
    go_enter Tryz.func134, Tryz.ntmps134
    go_wp2_with fail
    refine (specCtxOk xs _ _ (by repeat (first | exact HS.old hv | exact HS.rd 0 rfl | exact HS.rd 1 rfl | exact HS.rd 2 rfl | exact HS.rd 3 rfl | exact HS.rd 4 rfl | exact HS.rd 5 rfl | exact HS.drew.old hv | exact HS.drew.rd 0 rfl | exact HS.drew.rd 1 rfl | exact HS.drew.rd 2 rfl | exact HS.drew.rd 3 rfl | exact HS.drew.rd 4 rfl | exact HS.drew.rd 5 rfl | refine Rd.alloc ?_ _))).mono ?_; rintro e w1 ⟨rfl, hb⟩; (first | have H' := HS.of_below hb | have H' := HS.drew.of_below hb | have H' := (HS.box0 [_] _).of_below hb | have H' := ((HS.box0 [_] _).box0 [_] _).of_below hb | have H' := (HS.alloc _).of_below hb | have H' := ((HS.alloc _).alloc _).of_below hb); clear HS; have HS := H'; clear H'; have F := HS.facts; simp only [Own.Facts, Own.Cells, World.size_alloc, List.cons_append, List.nil_append, List.eraseIdx_cons_succ, List.eraseIdx_cons_zero, List.eraseIdx_zero, List.tail_cons, Nat.zero_add] at F
    have HL := HS.lit ([] : List UInt8) #[] 5 rfl rfl (by simp)
    clear HS
    go_wp2
    go_loopw [4, 5, 6] (fun n o r wr => ∃ (k m : Nat) (acc : List UInt8), k ≤ 8 ∧ r = .int .i64 k ∧ n = .int .i64 m ∧ m ≤ k ∧ Own w [.own o acc, .box w.heap.size 34 [.slice A xs.length c]] wr ∧ repsFrom xs 8 0 = acc ++ repsFrom xs (8 - k) k ∧ countFrom xs 8 0 = m + countFrom xs (8 - k) k ∧ acc.length ≤ k * 20020) (fun _ _ r _ => 8 - (intOf r).toNat)
    case atStart => exact ⟨0, 0, [], by omega, rfl, rfl, by omega, HL, rfl, (Nat.zero_add _).symm, by simp⟩
    case round =>
      obtain ⟨k, m, acc, hk, rfl, rfl, hmk, HS, he, hcn, hal⟩ := hrel
      have HE := Lib.hid he
      have HC := Lib.hid hcn
      clear he hcn HL
      by_cases hlt : k < 8
      · have HR := Lib.hid (show repsFrom xs (8 - k) k = repBytes k (spansOf xs k) ++ repsFrom xs (8 - (k + 1)) (k + 1) by rw [show 8 - k = (8 - (k + 1)) + 1 by omega]; rfl)
        have HCR := Lib.hid (show countFrom xs (8 - k) k = (if spansOf xs k = [] then 0 else 1) + countFrom xs (8 - (k + 1)) (k + 1) by rw [show 8 - k = (8 - (k + 1)) + 1 by omega]; rfl)
        have HRL := repBytes_len HK.out k (by omega)
        have hxl := ctx_len HK.out
        have hbd := ctx_span_bound (rep := (k : Int)) HK.out
        have hspc := spaced_ctx xs k HK.out
        rw [ofRep_spans] at hbd hspc HRL HR HCR
        have hsl : (ofRep xs (k : Int)).length ≤ xs.length := List.length_filter_le _ _
        have F := HS.facts; simp only [Own.Facts, Own.Cells, World.size_alloc, List.cons_append, List.nil_append, List.eraseIdx_cons_succ, List.eraseIdx_cons_zero, List.eraseIdx_zero, List.tail_cons, Nat.zero_add] at F
        go_wp2_with fail
        refine (l2Of xs k _ _ (HS.old hv) hn).mono ?_
        rintro e w2 ⟨A2, c2, rfl, hs⟩
        replace HS := (HS.call hs).pick 1 rfl
        obtain ⟨rs, hrs⟩ : ∃ l, ofRep xs (k : Int) = l := ⟨_, rfl⟩
        rw [hrs] at HS hbd hspc HRL HR HCR hsl ⊢
        clear hs hrs
        by_cases hsp : rs = []
        · rw [hsp] at HR HCR
          have hz : ((rs.length : Int) == 0) = true := by rw [hsp]; rfl
          have hz2 : rs.length = 0 := by rw [hsp]; rfl
          have HSP := Lib.hid hsp
          clear hsp hbd hspc HRL
          go_wp2
          go_roundw
          case rel => exact ⟨k + 1, m, acc, by omega, by go_num, rfl, by omega, (HS.pick 1 rfl).drop, by rw [HE.out, HR.out]; rfl, by rw [HC.out, HCR.out]; simp, by omega⟩
          case measure => simp [intOf]; omega
        · have hz : ((rs.length : Int) == 0) = false := by simp; exact hsp
          have hz2 : 0 < rs.length := List.length_pos_iff.2 hsp
          have hcc : (if rs.map (fun r => (⟨r.f, r.t⟩ : Sp)) = [] then 0 else 1) = 1 := by rw [if_neg (by simpa using hsp)]
          rw [hcc] at HCR
          have hB : repBytes k (rs.map fun r => (⟨r.f, r.t⟩ : Sp)) = uv k ++ (uv rs.length ++ spanBytes (-1) (rs.map fun r => (⟨r.f, r.t⟩ : Sp))) := by unfold repBytes; rw [if_neg (by simpa using hsp), List.length_map]
          rw [hB] at HR
          have HRL := Lib.hid HRL
          clear hB hsp hcc
          have HBD := Lib.hid hbd
          have HSPC := Lib.hid hspc
          clear hbd hspc
          have hu1 := uv_len10 k (by omega)
          have hu2 := uv_len10 rs.length (by omega)
          go_wp2_with fail
          refine (l2Put2 _ _ (by omega)).mono ?_; rintro e w1 ⟨A9, c9, rfl, hs9⟩; (first | have H' := (HS.call hs9).pick 1 rfl | have H' := (HS.drew.call hs9).pick 1 rfl); clear HS; have HS := H'; clear H' hs9
          go_wp2_with (refine wp_app2 (α := UInt8) rfl _ _ 39 rfl (by kernel_rfl) _ _ HS rfl _ _ rfl (HS.rd 1 rfl) (by show (_ + _) * 1 ≤ _; omega) (by omega) ?_; intro v2 q1 w2 hq1 hql1 H'; clear HS; have HS := (H'.pick 1 rfl).drop; clear H')
          refine (l2Put2 _ _ (by omega)).mono ?_; rintro e w1 ⟨A9, c9, rfl, hs9⟩; (first | have H' := (HS.call hs9).pick 1 rfl | have H' := (HS.drew.call hs9).pick 1 rfl); clear HS; have HS := H'; clear H' hs9
          go_wp2_with (refine wp_app2 (α := UInt8) rfl _ _ 39 rfl (by kernel_rfl) _ _ HS rfl _ _ rfl (HS.rd 1 rfl) (by show (_ + _) * 1 ≤ _; omega) (by omega) ?_; intro v2 q2 w2 hq2 hql2 H'; clear HS; have HS := (H'.pick 1 rfl).drop; clear H')
          have HT := Lib.hid (show repsFrom xs 8 0 = (q2 ++ spanBytes (-1) (rs.map fun r => (⟨r.f, r.t⟩ : Sp))) ++ repsFrom xs (8 - (k + 1)) (k + 1) by rw [HE.out, HR.out, hq2.out, hq1.out]; simp only [List.append_assoc])
          have HCT := Lib.hid (show countFrom xs 8 0 = (m + 1) + countFrom xs (8 - (k + 1)) (k + 1) by have := HC.out; have := HCR.out; omega)
          have hql3 : q2.length ≤ k * 20020 + 20 := by omega
          clear hql1 hql2 hq1 hq2
          have h0 : ∀ (h : 0 < rs.length), (-1 : Int) + 2 ≤ rs[0].f := fun h => by have := HBD.out ⟨rs[0].f, rs[0].t⟩ (List.mem_map.2 ⟨rs[0], List.getElem_mem h, rfl⟩); simp only at this; omega
          go_wp2
          go_loopw [5, 8, 9] (fun o la i w2 => ∃ (j : Nat) (acc' : List UInt8) (z : Int), j ≤ rs.length ∧ i = .int .i64 j ∧ la = .int .i64 z ∧ Own w [.own o acc', .own (.slice A2 rs.length c2) rs, .box w.heap.size 34 [.slice A xs.length c]] w2 ∧ acc' ++ spanBytes z ((rs.drop j).map fun r => (⟨r.f, r.t⟩ : Sp)) = q2 ++ spanBytes (-1) (rs.map fun r => (⟨r.f, r.t⟩ : Sp)) ∧ acc'.length ≤ k * 20020 + 20 + 20 * j ∧ -1 ≤ z ∧ z ≤ 1000000000 ∧ ∀ (h : j < rs.length), z + 2 ≤ rs[j].f) (fun _ _ i _ => rs.length - (intOf i).toNat)
          case atStart => exact ⟨0, q2, -1, by omega, rfl, rfl, HS, rfl, by omega, by omega, by omega, h0⟩
          case round =>
            obtain ⟨j, acc', z, hj, rfl, rfl, HS', he, hal', hz1, hz2, hz3⟩ := hrel
            have HE2 := Lib.hid he
            have HZ3 := Lib.hid hz3
            clear he hz3 h0 HS
            have HS := HS'
            clear HS'
            by_cases hjl : j < rs.length
            · obtain ⟨b4, o4, rfl⟩ := (HS.rd 1 rfl).fix (by omega)
              have r0 := Rn.rd (HS.rd 1 rfl) j hjl
              have hz4 := HZ3.out hjl
              have hb4 := HBD.out ⟨rs[j].f, rs[j].t⟩ (List.mem_map.2 ⟨rs[j], List.getElem_mem hjl, rfl⟩)
              simp only at hb4
              have HD := Lib.hid (show spanBytes z ((rs.drop j).map fun r => (⟨r.f, r.t⟩ : Sp)) = uv (rs[j].f - z - 2).toNat ++ (uv (rs[j].t - rs[j].f).toNat ++ spanBytes rs[j].t ((rs.drop (j + 1)).map fun r => (⟨r.f, r.t⟩ : Sp))) by rw [List.drop_eq_getElem_cons hjl]; rfl)
              have HN4 := Lib.hid (show ∀ h : j + 1 < rs.length, rs[j].t + 2 ≤ rs[j + 1].f from fun h => by have := HSPC.out.lt j (j + 1) (by simpa using hjl) (by simpa using h) (by omega); simp only [List.getElem_map] at this; omega)
              have HRR : ∀ {W' w' : World} {R' : List Ds}, Own W' (.own (.slice (some ⟨b4, o4, none⟩) rs.length c2) rs :: R') w' → w'.cell? ⟨b4, o4 + j * 3, none⟩ = some (.int .i64 rs[j].r) ∧ w'.cell? ⟨b4, o4 + j * 3 + 1, none⟩ = some (.int .i64 rs[j].f) ∧ w'.cell? ⟨b4, o4 + j * 3 + 2, none⟩ = some (.int .i64 rs[j].t) := fun h => Rn.rd (h.rd 0 rfl) j hjl
              obtain ⟨x, hx⟩ : ∃ x, rs[j] = x := ⟨_, rfl⟩
              rw [hx] at r0 hz4 hb4 HD HN4
              simp only [hx] at HRR
              clear hx
              obtain ⟨n1, hn1⟩ : ∃ n : Nat, (x.f - z - 2).toNat = n := ⟨_, rfl⟩
              obtain ⟨n2, hn2⟩ : ∃ n : Nat, (x.t - x.f).toNat = n := ⟨_, rfl⟩
              rw [hn1, hn2] at HD
              have hn1b : n1 ≤ 1000000000 := by omega
              have hn2b : n2 ≤ 1000000000 := by omega
              have hu3 := uv_len10 n1 (by omega)
              have hu4 := uv_len10 n2 (by omega)
              have e2 : x.f - z - 2 = (n1 : Int) := by omega
              have e3 : IntKind.i64.wrap (x.t - x.f) = (n2 : Int) := i64w (by omega) (by omega) (by omega)
              clear hn1 hn2
              go_wp2_with fail
              refine (l2Put2 _ _ (by omega)).mono ?_; rintro e w1 ⟨A9, c9, rfl, hs9⟩; (first | have H' := (HS.call hs9).pick 1 rfl | have H' := (HS.drew.call hs9).pick 1 rfl); clear HS; have HS := H'; clear H' hs9
              go_wp2_with (refine wp_app2 (α := UInt8) rfl _ _ 39 rfl (by kernel_rfl) _ _ HS rfl _ _ rfl (HS.rd 1 rfl) (by show (_ + _) * 1 ≤ _; omega) (by omega) ?_; intro v2 q3 w2 hq3 hql3 H'; clear HS; have HS := (H'.pick 1 rfl).drop; clear H')
              have r3 := HRR (HS.pick 1 rfl)
              clear r0
              go_wp2
              go_region_held3 (fun w' => w'.cell? ⟨b4, o4 + j * 3 + 1, none⟩ = some (.int .i64 x.f) ∧ w'.cell? ⟨b4, o4 + j * 3 + 2, none⟩ = some (.int .i64 x.t)) (first | go_keep | exact ⟨(HRR (HS.pick 1 rfl)).2.1, (HRR (HS.pick 1 rfl)).2.2⟩ | exact ⟨(HRR (HS.pick 2 rfl)).2.1, (HRR (HS.pick 2 rfl)).2.2⟩) (first | (go_at_call 159; refine (l2Put2 _ _ (by omega)).mono ?_; rintro e w1 ⟨A9, c9, rfl, hs9⟩; (first | have H' := (HS.call hs9).pick 1 rfl | have H' := (HS.drew.call hs9).pick 1 rfl); clear HS; have HS := H'; clear H' hs9) | (refine hp_app2 (α := UInt8) _ _ 39 rfl (by rfl) (by kernel_rfl) _ _ HS rfl _ _ rfl (HS.rd 1 rfl) (by show (_ + _) * 1 ≤ _; omega) (by omega) ?_; intro v2 q4 w2 hq4 hql4 H'; clear HS; have HS := (H'.pick 1 rfl).drop; clear H'))
              have r4 := HRR (HS.pick 1 rfl)
              clear r3 e2 e3
              go_wp2
              go_roundw
              case rel => exact ⟨j + 1, q4, x.t, by omega, by go_num, rfl, HS, by rw [hq4.out, hq3.out, ← HE2.out, HD.out]; simp only [List.append_assoc], by omega, by omega, by omega, HN4.out⟩
              case measure => simp [intOf]; omega
            · obtain rfl : j = rs.length := by omega
              have he := HE2.out
              rw [List.drop_length] at he
              simp only [List.map_nil, spanBytes, List.append_nil] at he
              have HE3 := Lib.hid he
              clear he
              go_wp2
              go_roundw
              case rel => exact ⟨k + 1, m + 1, acc', by omega, by go_num, by go_num, by omega, (HS.pick 1 rfl).drop, by rw [HT.out, ← HE3.out], HCT.out, by omega⟩
              case measure => simp [intOf]; omega
      · obtain rfl : k = 8 := by omega
        go_wp2_with fail
        refine (l2Put m _ (by omega)).mono ?_
        rintro e w2 ⟨v9, rfl, hs9⟩
        replace HS := HS.call hs9
        have hu := uv_len10 m (by omega)
        go_wp2_with (refine wp_app2 (α := UInt8) rfl _ _ 39 rfl (by kernel_rfl) _ _ HS rfl _ _ rfl (HS.rd 1 rfl) (by show (_ + _) * 1 ≤ _; omega) (by omega) ?_; intro v2 q2 w2 hq2 hql2 H')
        have HB := Lib.hid (show q2 = ctxBytes xs by have e1 : countFrom xs 8 0 = m := HC.out; have e2 : repsFrom xs 8 0 = acc := HE.out.trans (List.append_nil _); rw [hq2.out]; unfold ctxBytes; rw [e1, e2])
        obtain ⟨A2, c2, rfl, _, _⟩ := (H'.rd 0 rfl).val
        exact bodyPost_ret (v := .tuple #[.slice A2 q2.length c2, .bool true]) (by simp [results, Tryz.results134, go_sem, *]) rfl ⟨_, rfl, by rw [HN.out, ← HB.out]; exact H'.only⟩
end Go.Proofs.YtohgelmkagcimaaGreat
namespace Go.Proofs.YtohgelmkagcimaaGreat
set_option linter.unusedSimpArgs false
set_option linter.unusedVariables false
open Go.RowKit Go.Ow
theorem dw_le {α : Type} (p : α → Bool) (l : List α) : (l.dropWhile p).length ≤ l.length := (List.dropWhile_suffix p).length_le
theorem tw_imp {α : Type} (p : α → Bool) : ∀ (l : List α) (y : α), y ∈ l.takeWhile p → p y = true
  | [], y, h => by simp at h
  | x :: l, y, h => by
    cases hx : p x
    · rw [List.takeWhile_cons_of_neg (by simp [hx])] at h; cases h
    · rw [List.takeWhile_cons_of_pos hx] at h
      rcases List.mem_cons.1 h with rfl | h
      · exact hx
      · exact tw_imp p l y h
theorem dw_nil {α : Type} (p : α → Bool) : ∀ (l : List α), l.dropWhile p = [] → ∀ y ∈ l, p y = true
  | [], _, y, hy => by cases hy
  | x :: l, h, y, hy => by
    cases hx : p x
    · rw [List.dropWhile_cons_of_neg (by simp [hx])] at h; cases h
    · rw [List.dropWhile_cons_of_pos hx] at h
      rcases List.mem_cons.1 hy with rfl | hy
      · exact hx
      · exact dw_nil p l h y hy
theorem tw_all {α : Type} (p : α → Bool) : ∀ (l : List α), (∀ y ∈ l, p y = true) → l.takeWhile p = l ∧ l.dropWhile p = []
  | [], _ => ⟨rfl, rfl⟩
  | x :: l, h => by
    obtain ⟨h1, h2⟩ := tw_all p l fun y hy => h y (List.mem_cons_of_mem _ hy)
    rw [List.takeWhile_cons_of_pos (h x (by simp)), List.dropWhile_cons_of_pos (h x (by simp)), h1, h2]
    exact ⟨rfl, rfl⟩
theorem last_app {α : Type} (l m : List α) (h : m ≠ []) : (l ++ m).getLast? = m.getLast? := by
  rw [List.getLast?_append]
  cases hm : m.getLast? with
  | none => exact absurd (List.getLast?_eq_none_iff.1 hm) h
  | some a => rfl
/-- Neighbours of one key. -/
def grps {α : Type} (k : α → ByteArray × Nat) : List α → List (List α)
  | [] => []
  | x :: l => (x :: l.takeWhile (fun y => decide (k y = k x))) :: grps k (l.dropWhile (fun y => decide (k y = k x)))
termination_by l => l.length
decreasing_by
  have := dw_le (fun y => decide (k y = k x)) l
  simp only [List.length_cons]; omega
theorem grps_nil {α : Type} (k : α → ByteArray × Nat) : grps k ([] : List α) = [] := by rw [grps]
theorem grps_cons {α : Type} (k : α → ByteArray × Nat) (x : α) (l : List α) : grps k (x :: l) = (x :: l.takeWhile (fun y => decide (k y = k x))) :: grps k (l.dropWhile (fun y => decide (k y = k x))) := by rw [grps]
theorem grps_flat {α : Type} (k : α → ByteArray × Nat) : ∀ (n : Nat) (l : List α), l.length ≤ n → (grps k l).flatten = l
  | _, [], _ => by rw [grps_nil]; rfl
  | 0, x :: l, h => by simp at h
  | n + 1, x :: l, h => by
    have hd := dw_le (fun y => decide (k y = k x)) l
    rw [grps_cons, List.flatten_cons, grps_flat k n _ (by simp only [List.length_cons] at h; omega), List.cons_append, List.takeWhile_append_dropWhile]
theorem grps_ne {α : Type} (k : α → ByteArray × Nat) : ∀ (n : Nat) (l : List α), l.length ≤ n → ∀ g ∈ grps k l, ∃ x t, g = x :: t ∧ ∀ y ∈ g, k y = k x
  | _, [], _, g, hg => by rw [grps_nil] at hg; cases hg
  | 0, x :: l, h, _, _ => by simp at h
  | n + 1, x :: l, h, g, hg => by
    have hd := dw_le (fun y => decide (k y = k x)) l
    rw [grps_cons] at hg
    rcases List.mem_cons.1 hg with rfl | hg
    · refine ⟨x, _, rfl, fun y hy => ?_⟩
      rcases List.mem_cons.1 hy with rfl | hy
      · rfl
      · have := tw_imp (fun y => decide (k y = k x)) _ _ hy; simpa using this
    · exact grps_ne k n _ (by simp only [List.length_cons] at h; omega) g hg
theorem grps_map {α β : Type} (f : α → β) (k : β → ByteArray × Nat) : ∀ (n : Nat) (l : List α), l.length ≤ n → grps k (l.map f) = (grps (fun x => k (f x)) l).map (List.map f)
  | _, [], _ => by rw [List.map_nil, grps_nil, grps_nil]; rfl
  | 0, x :: l, h => by simp at h
  | n + 1, x :: l, h => by
    have hd := dw_le (fun y => decide (k (f y) = k (f x))) l
    rw [List.map_cons, grps_cons, grps_cons, List.takeWhile_map, List.dropWhile_map, grps_map f k n _ (by simp only [List.length_cons] at h; exact Nat.le_trans hd (by omega))]
    rfl
/-- One element more at the end: of the last key, or not. -/
theorem grps_more {α : Type} (k : α → ByteArray × Nat) (b : α) : ∀ (n : Nat) (l : List α) (a : α), l.length ≤ n → l.getLast? = some a → k b = k a →
    ∃ gs g, grps k l = gs ++ [g] ∧ grps k (l ++ [b]) = gs ++ [g ++ [b]]
  | _, [], _, _, h, _ => by simp at h
  | 0, x :: l, _, h, _, _ => by simp at h
  | n + 1, x :: l, a, h, ha, hk => by
    have hd := dw_le (fun y => decide (k y = k x)) l
    rw [List.cons_append, grps_cons, grps_cons]
    by_cases he : l.dropWhile (fun y => decide (k y = k x)) = []
    · have hall : ∀ y ∈ l, k y = k x := fun y hy => by
        have := dw_nil _ _ he y hy
        simpa using this
      have hax : k a = k x := by
        cases l with
        | nil => simp at ha; rw [ha]
        | cons y t => exact hall a (by rw [List.getLast?_cons_cons] at ha; exact List.mem_of_getLast? ha)
      have ht : l.takeWhile (fun y => decide (k y = k x)) = l := (tw_all _ _ fun y hy => by simp [hall y hy]).1
      obtain ⟨ht2, hd2⟩ := tw_all (fun y => decide (k y = k x)) (l ++ [b]) fun y hy => by
        rcases List.mem_append.1 hy with hy | hy
        · simp [hall y hy]
        · rw [List.mem_singleton] at hy; subst hy; simp [hk, hax]
      exact ⟨[], x :: l, by rw [ht, he, grps_nil]; rfl, by rw [ht2, hd2, grps_nil]; rfl⟩
    · have hlast : (l.dropWhile (fun y => decide (k y = k x))).getLast? = some a := by
        have hl : l ≠ [] := fun h0 => he (by rw [h0]; rfl)
        have e : (x :: l).getLast? = l.getLast? := by
          cases l with
          | nil => exact absurd rfl hl
          | cons y t => rw [List.getLast?_cons_cons]
        rw [e, ← List.takeWhile_append_dropWhile (p := fun y => decide (k y = k x)) (l := l), last_app _ _ he] at ha
        exact ha
      obtain ⟨gs, g, h1, h2⟩ := grps_more k b n _ a (by simp only [List.length_cons] at h; omega) hlast hk
      have ht2 : (l ++ [b]).takeWhile (fun y => decide (k y = k x)) = l.takeWhile (fun y => decide (k y = k x)) := by
        rw [List.takeWhile_append]
        rw [if_neg]
        intro h0
        apply he
        have := List.takeWhile_append_dropWhile (p := fun y => decide (k y = k x)) (l := l)
        have h3 := congrArg List.length this
        rw [List.length_append] at h3
        exact List.eq_nil_of_length_eq_zero (by omega)
      have hd2 : (l ++ [b]).dropWhile (fun y => decide (k y = k x)) = l.dropWhile (fun y => decide (k y = k x)) ++ [b] := by
        rw [List.dropWhile_append]
        rw [if_neg (by simp [List.isEmpty_iff]; simpa using he)]
      exact ⟨_ :: gs, g, by rw [h1]; rfl, by rw [ht2, hd2, h2]; rfl⟩
theorem grps_new {α : Type} (k : α → ByteArray × Nat) (b : α) : ∀ (n : Nat) (l : List α), l.length ≤ n → (∀ a, l.getLast? = some a → k b ≠ k a) → grps k (l ++ [b]) = grps k l ++ [[b]]
  | _, [], _, _ => by rw [List.nil_append, grps_cons, grps_nil]; simp [grps_nil]
  | 0, x :: l, h, _ => by simp at h
  | n + 1, x :: l, h, hk => by
    have hd := dw_le (fun y => decide (k y = k x)) l
    rw [List.cons_append, grps_cons, grps_cons]
    by_cases he : l.dropWhile (fun y => decide (k y = k x)) = []
    · have hall : ∀ y ∈ l, k y = k x := fun y hy => by
        have := dw_nil _ _ he y hy
        simpa using this
      have hbx : k b ≠ k x := by
        cases l with
        | nil => exact hk x rfl
        | cons y t =>
          obtain ⟨a, ha⟩ : ∃ a, (y :: t).getLast? = some a := ⟨_, List.getLast?_eq_some_getLast (by simp)⟩
          have h1 := hk a (by rw [List.getLast?_cons_cons]; exact ha)
          rw [hall a (List.mem_of_getLast? ha)] at h1
          exact h1
      have ht : l.takeWhile (fun y => decide (k y = k x)) = l := (tw_all _ _ fun y hy => by simp [hall y hy]).1
      have ht2 : (l ++ [b]).takeWhile (fun y => decide (k y = k x)) = l := by
        rw [List.takeWhile_append, if_pos (by rw [ht]), List.takeWhile_cons_of_neg (by simp [hbx])]; simp
      have hd2 : (l ++ [b]).dropWhile (fun y => decide (k y = k x)) = [b] := by
        rw [List.dropWhile_append, if_pos (by rw [he]; rfl), List.dropWhile_cons_of_neg (by simp [hbx])]
      rw [ht, he, ht2, hd2, grps_nil, grps_cons, List.takeWhile_nil, List.dropWhile_nil, grps_nil]; rfl
    · have hlast : ∀ a, (l.dropWhile (fun y => decide (k y = k x))).getLast? = some a → k b ≠ k a := fun a ha => by
        refine hk a ?_
        have hl : l ≠ [] := fun h0 => he (by rw [h0]; rfl)
        have e : (x :: l).getLast? = l.getLast? := by
          cases l with
          | nil => exact absurd rfl hl
          | cons y t => rw [List.getLast?_cons_cons]
        rw [e, ← List.takeWhile_append_dropWhile (p := fun y => decide (k y = k x)) (l := l), last_app _ _ he]
        exact ha
      have ih := grps_new k b n _ (by simp only [List.length_cons] at h; omega) hlast
      have ht2 : (l ++ [b]).takeWhile (fun y => decide (k y = k x)) = l.takeWhile (fun y => decide (k y = k x)) := by
        rw [List.takeWhile_append]
        rw [if_neg]
        intro h0
        apply he
        have := List.takeWhile_append_dropWhile (p := fun y => decide (k y = k x)) (l := l)
        have h3 := congrArg List.length this
        rw [List.length_append] at h3
        exact List.eq_nil_of_length_eq_zero (by omega)
      have hd2 : (l ++ [b]).dropWhile (fun y => decide (k y = k x)) = l.dropWhile (fun y => decide (k y = k x)) ++ [b] := by
        rw [List.dropWhile_append]
        rw [if_neg (by simp [List.isEmpty_iff]; simpa using he)]
      rw [ht2, hd2, ih]; rfl
/-! The bytes. -/
def nmAt (l : Lf) (d : Nat) : ByteArray := (l.p[d]?).getD ByteArray.empty
def kdAt (l : Lf) (d : Nat) : Nat := if d + 1 < l.p.length then 3 else if l.fl = true then 2 else 1
def keyAt (d : Nat) (l : Lf) : ByteArray × Nat := (nmAt l d, kdAt l d)
def lfB (k : Nat) (l : Lf) : List UInt8 := uv l.dr.toNat ++ (uv l.ds.toNat ++ (if k = 1 then txt l.v else []))
def lfsB (k : Nat) (g : List Lf) : List UInt8 := (g.map (lfB k)).flatten
def gB (T : List Lf → List UInt8) (d : Nat) : List Lf → List UInt8
  | [] => []
  | x :: t => (txt (nmAt x d) ++ [UInt8.ofNat (kdAt x d)]) ++ (if kdAt x d = 3 then T (x :: t) else uv (t.length + 1) ++ lfsB (kdAt x d) (x :: t))
def treeB : Nat → Nat → List Lf → List UInt8
  | 0, _, _ => []
  | f + 1, d, ls => uv (grps (keyAt d) ls).length ++ ((grps (keyAt d) ls).map (gB (treeB f (d + 1)) d)).flatten
/-- A leaf whose path goes on behind a depth. -/
def LfG (d : Nat) (l : Lf) : Prop := d < l.p.length ∧ l.p.length ≤ 8 ∧ (∀ x ∈ l.p, x.size ≤ 40) ∧ l.v.size ≤ 200 ∧ (0 ≤ l.dr ∧ l.dr ≤ 8) ∧ 0 ≤ l.ds ∧ l.ds ≤ 1000000000
theorem txt_len (s : ByteArray) (n : Nat) (h : s.size ≤ n) (hn : n ≤ 1000000) : (txt s).length ≤ n + 10 := by
  have := uv_len10 s.size (by omega)
  unfold txt; rw [List.length_append, size_list]; omega
theorem nm_size {l : Lf} {d : Nat} (h : LfG d l) : (nmAt l d).size ≤ 40 := by
  unfold nmAt
  rw [List.getElem?_eq_getElem h.1]
  exact h.2.2.1 _ (List.getElem_mem h.1)
theorem lfB_len {l : Lf} {d : Nat} (k : Nat) (h : LfG d l) : (lfB k l).length ≤ 230 := by
  have h1 := uv_len10 l.dr.toNat (by have := h.2.2.2.2.1; omega)
  have h2 := uv_len10 l.ds.toNat (by have := h.2.2.2.2.2; omega)
  have h3 := txt_len l.v 200 h.2.2.2.1 (by omega)
  unfold lfB
  rw [List.length_append, List.length_append]
  split
  · omega
  · simp; omega
theorem lfsB_len (k : Nat) {d : Nat} : ∀ g : List Lf, (∀ l ∈ g, LfG d l) → (lfsB k g).length ≤ g.length * 230
  | [], _ => by simp [lfsB]
  | x :: g, h => by
    have h1 := lfB_len k (h x (by simp))
    have h2 := lfsB_len k g fun l hl => h l (List.mem_cons_of_mem _ hl)
    have e : lfsB k (x :: g) = lfB k x ++ lfsB k g := rfl
    rw [e, List.length_append, List.length_cons, Nat.succ_mul]; omega
theorem kd_deep {l : Lf} {d : Nat} (h : LfG d l) (hk : kdAt l d = 3) : LfG (d + 1) l := by
  unfold kdAt at hk
  split at hk
  · rename_i h1; exact ⟨h1, h.2⟩
  · split at hk <;> cases hk
theorem gB_len {d C : Nat} (T : List Lf → List UInt8) (g : List Lf) (hT : ∀ x t, g = x :: t → kdAt x d = 3 → (T g).length ≤ 10 + g.length * C) (hC : 230 ≤ C) (hg : ∀ l ∈ g, LfG d l) (hn : g.length ≤ 1000) : (gB T d g).length ≤ g.length * (C + 70) := by
  cases g with
  | nil => simp [gB]
  | cons x t =>
    have h1 := txt_len (nmAt x d) 40 (nm_size (hg x (by simp))) (by omega)
    have h2 := uv_len10 (t.length + 1) (by simp only [List.length_cons] at hn; omega)
    have h3 := lfsB_len (kdAt x d) (x :: t) hg
    rw [gB]
    rw [List.length_append, List.length_append, Nat.mul_add]
    have h4 : (t.length + 1) * 230 ≤ (t.length + 1) * C := Nat.mul_le_mul_left _ hC
    simp only [List.length_cons, List.length_nil] at *
    split
    · rename_i hk
      have := hT x t rfl hk
      omega
    · rw [List.length_append]; omega
theorem gBs_len {d C : Nat} (G : List Lf → List UInt8) : ∀ gs : List (List Lf), (∀ g ∈ gs, (G g).length ≤ g.length * C) → ((gs.map G).flatten).length ≤ gs.flatten.length * C
  | [], _ => by simp
  | g :: gs, h => by
    have h1 := h g (by simp)
    have h2 := gBs_len (d := d) G gs fun g' hg' => h g' (List.mem_cons_of_mem _ hg')
    simp only [List.map_cons, List.flatten_cons, List.length_append]
    rw [Nat.add_mul]; omega
theorem mem_len {α : Type} : ∀ (L : List (List α)) (g : List α), g ∈ L → g.length ≤ L.flatten.length
  | [], _, h => by cases h
  | x :: L, g, h => by
    rw [List.flatten_cons, List.length_append]
    rcases List.mem_cons.1 h with rfl | h
    · omega
    · have := mem_len L g h; omega
theorem grps_sub {α : Type} (k : α → ByteArray × Nat) (l : List α) : ∀ g ∈ grps k l, (∀ x ∈ g, x ∈ l) ∧ g.length ≤ l.length := fun g hg => by
  have e := grps_flat k l.length l (Nat.le_refl _)
  constructor
  · intro x hx
    rw [← e]
    exact List.mem_flatten.2 ⟨g, hg, hx⟩
  · have := mem_len (grps k l) g hg
    rw [e] at this
    exact this
theorem grps_count {α : Type} (k : α → ByteArray × Nat) : ∀ (n : Nat) (l : List α), l.length ≤ n → (grps k l).length ≤ l.length
  | _, [], _ => by rw [grps_nil]; exact Nat.le_refl _
  | 0, x :: l, h => by simp at h
  | n + 1, x :: l, h => by
    have hd := dw_le (fun y => decide (k y = k x)) l
    rw [grps_cons, List.length_cons, List.length_cons]
    have := grps_count k n _ (show (l.dropWhile (fun y => decide (k y = k x))).length ≤ n by simp only [List.length_cons] at h; omega)
    omega
theorem treeB_len : ∀ (f d : Nat) (ls : List Lf), (∀ l ∈ ls, LfG d l) → ls.length ≤ 1000 → (treeB f d ls).length ≤ 10 + ls.length * (70 * f + 230)
  | 0, d, ls, _, _ => by simp [treeB]
  | f + 1, d, ls, h, hn => by
    have h1 := uv_len10 (grps (keyAt d) ls).length (by have := grps_count (keyAt d) ls.length ls (Nat.le_refl _); omega)
    have h2 := gBs_len (d := d) (C := 70 * f + 230 + 70) (gB (treeB f (d + 1)) d) (grps (keyAt d) ls) (fun g hg => by
      obtain ⟨hs, hl⟩ := grps_sub (keyAt d) ls g hg
      refine gB_len _ g (fun x t hx hk => ?_) (by omega) (fun l hl => h l (hs l hl)) (by omega)
      refine treeB_len f (d + 1) g (fun l hl => ?_) (by omega)
      obtain ⟨x', t', hx', hall⟩ := grps_ne (keyAt d) ls.length ls (Nat.le_refl _) g hg
      have hxx : x' = x := by rw [hx] at hx'; exact (List.cons.inj hx').1.symm
      subst hxx
      exact kd_deep (h l (hs l hl)) (by have := congrArg Prod.snd (hall l hl); exact this.trans hk))
    rw [grps_flat (keyAt d) ls.length ls (Nat.le_refl _)] at h2
    rw [treeB, List.length_append]
    have e : 70 * (f + 1) + 230 = 70 * f + 230 + 70 := by omega
    rw [e]; omega
end Go.Proofs.YtohgelmkagcimaaGreat
namespace Go.Proofs.YtohgelmkagcimaaGreat
set_option linter.unusedSimpArgs false
set_option linter.unusedVariables false
open Go.RowKit Go.Ow
attribute [local irreducible] wpQuiet
set_option maxRecDepth 100000
def lfV (vp : Value) (x : Lf) : Value := .agg #[vp, .bool x.fl, .int .i64 x.dr, .int .i64 x.ds, .string x.v]
theorem l4Kind (x : Lf) (A : Option Addr) (c d : Nat) (w : World) (hd : d ≤ 100) (hl : x.p.length ≤ 140737488355328) : Calls Tryz.prog 161 #[.agg #[.slice A x.p.length c, .bool x.fl, .int .i64 x.dr, .int .i64 x.ds, .string x.v], .int .i64 d] w fun e w' => e = .returned (.int .i64 (kdAt x d)) ∧ Below w.heap.size w w' := by
  have HS := (Own.start w).box [.slice A x.p.length c, .bool x.fl, .int .i64 x.dr, .int .i64 x.ds, .string x.v] 103
  obtain ⟨xp, xf, xr, xs, xv⟩ := x
  simp only at HS hl ⊢
  by_cases h1 : d + 1 < xp.length
  · have HK := Lib.hid (show kdAt ⟨xp, xf, xr, xs, xv⟩ d = 3 by simp [kdAt, h1])
    have h2 : decide ((d : Int) + 1 < (xp.length : Int)) = true := by simp; omega
    go_enter Tryz.func161, Tryz.ntmps161
    go_wp2
    go_ret
    exact ⟨by rw [HK.out]; rfl, HS.below⟩
  · cases xf
    · have HK := Lib.hid (show kdAt ⟨xp, false, xr, xs, xv⟩ d = 1 by simp [kdAt, h1])
      go_enter Tryz.func161, Tryz.ntmps161
      go_wp2
      go_ret
      exact ⟨by rw [HK.out]; rfl, HS.below⟩
    · have HK := Lib.hid (show kdAt ⟨xp, true, xr, xs, xv⟩ d = 2 by simp [kdAt, h1])
      go_enter Tryz.func161, Tryz.ntmps161
      go_wp2
      go_ret
      exact ⟨by rw [HK.out]; rfl, HS.below⟩
theorem kindAt (x : Lf) (A : Option Addr) (c d : Nat) (w : World) (hd : d ≤ 100) (hl : x.p.length ≤ 140737488355328) : Calls Tryz.prog 139 #[.agg #[.slice A x.p.length c, .bool x.fl, .int .i64 x.dr, .int .i64 x.ds, .string x.v], .int .i64 d] w fun e w' => e = .returned (.int .i64 (kdAt x d)) ∧ Below w.heap.size w w' := by
  have HS := (Own.start w).box [.slice A x.p.length c, .bool x.fl, .int .i64 x.dr, .int .i64 x.ds, .string x.v] 103
  obtain ⟨xp, xf, xr, xs, xv⟩ := x
  simp only at HS hl ⊢
  by_cases h1 : d + 1 < xp.length
  · have HK := Lib.hid (show kdAt ⟨xp, xf, xr, xs, xv⟩ d = 3 by simp [kdAt, h1])
    go_enter Tryz.func139, Tryz.ntmps139
    go_wp2
    go_ret
    exact ⟨by rw [HK.out]; rfl, HS.below⟩
  · cases xf
    · have HK := Lib.hid (show kdAt ⟨xp, false, xr, xs, xv⟩ d = 1 by simp [kdAt, h1])
      go_enter Tryz.func139, Tryz.ntmps139
      go_wp2
      go_ret
      exact ⟨by rw [HK.out]; rfl, HS.below⟩
    · have HK := Lib.hid (show kdAt ⟨xp, true, xr, xs, xv⟩ d = 2 by simp [kdAt, h1])
      go_enter Tryz.func139, Tryz.ntmps139
      go_wp2
      go_ret
      exact ⟨by rw [HK.out]; rfl, HS.below⟩
theorem tw_stop {α : Type} (p : α → Bool) (l : List α) (j : Nat) (hj : j ≤ l.length) (h : ∀ y ∈ l.take j, p y = true) (h2 : ∀ hlt : j < l.length, p l[j] = false) : (l.takeWhile p).length = j := by
  have e : l.takeWhile p = l.take j := by
    conv => lhs; rw [← List.take_append_drop j l, List.takeWhile_append]
    rw [(tw_all p _ h).1, if_pos rfl]
    by_cases hlt : j < l.length
    · rw [List.drop_eq_getElem_cons hlt, List.takeWhile_cons_of_neg (by simp [h2 hlt]), List.append_nil]
    · rw [List.drop_eq_nil_of_le (by omega)]; simp
  rw [e, List.length_take]; omega
set_option maxHeartbeats 2000000 in
theorem l4Group (ls : List Lf) (v : Value) (d : Nat) (w : World) (hv : Rd w v ls) (h0 : 0 < ls.length) (hp : ∀ l ∈ ls, d < l.p.length) (hd : d ≤ 100) :
    Calls Tryz.prog 160 #[v, .int .i64 d] w fun e w' => e = .returned (.int .i64 ((ls.takeWhile (fun y => decide (keyAt d y = keyAt d ls[0]))).length : Nat)) ∧ Below w.heap.size w w' := by
  obtain ⟨b, o, c, rfl, hcc⟩ := hv.some h0
  obtain ⟨_, _, _, _, hl⟩ := hv.val
  obtain ⟨N, hN⟩ : ∃ N, (ls.takeWhile (fun y => decide (keyAt d y = keyAt d ls[0]))).length = N := ⟨_, rfl⟩
  have HN := Lib.hid hN
  rw [hN]
  clear hN
  have HS := Own.start w
  go_enter Tryz.func160, Tryz.ntmps160
  go_wp2
  go_loopw [5] (fun i wr => ∃ j : Nat, j ≤ ls.length ∧ i = .int .i64 j ∧ Own w [] wr ∧ Hid (∀ y ∈ ls.take j, keyAt d y = keyAt d ls[0])) (fun i _ => ls.length - (intOf i).toNat)
  case atStart => exact ⟨0, by omega, rfl, HS, Lib.hid (by simp)⟩
  case round =>
    obtain ⟨j, hj, rfl, HS', HJ⟩ := hrel
    clear HS
    by_cases hlt : j < ls.length
    · obtain ⟨vp, hX⟩ := Lf.rd (HS'.old hv) j hlt
      obtain ⟨up, hY⟩ := Lf.rd (HS'.old hv) 0 h0
      have hpj := hp _ (List.getElem_mem hlt)
      have hp0 := hp _ (List.getElem_mem h0)
      have hstop := Lib.hid (tw_stop (fun y => decide (keyAt d y = keyAt d ls[0])) ls j hj (fun y hy => by simpa using HJ.out y hy))
      have hgo : Hid (keyAt d ls[j] = keyAt d ls[0] → ∀ y ∈ ls.take (j + 1), keyAt d y = keyAt d ls[0]) := Lib.hid fun h y hy => by
        rw [List.take_succ_eq_append_getElem hlt] at hy
        rcases List.mem_append.1 hy with hy | hy
        · exact HJ.out y hy
        · rw [List.mem_singleton] at hy; rw [hy]; exact h
      have hstop2 : Hid (keyAt d ls[j] ≠ keyAt d ls[0] → N = j) := Lib.hid fun h => by rw [← HN.out]; exact hstop.out fun _ => by simp [h]
      clear hstop
      obtain ⟨y, hy⟩ : ∃ y, ls[j] = y := ⟨_, rfl⟩
      obtain ⟨x, hx⟩ : ∃ x, ls[0] = x := ⟨_, rfl⟩
      simp only [hy, hx] at hX hY hpj hp0 hgo hstop2 HJ
      clear hy
      have HX := Lib.hid hx
      clear hx
      obtain ⟨A1, c1, rfl, _, hl1⟩ := (hX wr (Below.refl _ _)).1.val
      obtain ⟨A2, c2, rfl, _, hl2⟩ := (hY wr (Below.refl _ _)).1.val
      obtain ⟨b1, o1, rfl⟩ := (hX wr (Below.refl _ _)).1.fix (by omega)
      obtain ⟨b2, o2, rfl⟩ := (hY wr (Below.refl _ _)).1.fix (by omega)
      have hF : ∀ p : Ext wr, _ := fun p => (hX p.to p.h).2
      have hG : ∀ p : Ext wr, _ := fun p => (hY p.to p.h).2
      simp only [Nat.zero_mul, Nat.add_zero] at hG
      have hP : ∀ p : Ext wr, p.to.cell? ⟨b1, o1 + d, none⟩ = some (.string (nmAt y d)) := fun p => by
        have := Sg.rd (hX p.to p.h).1 d hpj
        rw [this]; unfold nmAt; rw [List.getElem?_eq_getElem hpj]; rfl
      have hR : ∀ p : Ext wr, p.to.cell? ⟨b2, o2 + d, none⟩ = some (.string (nmAt x d)) := fun p => by
        have := Sg.rd (hY p.to p.h).1 d hp0
        rw [this]; unfold nmAt; rw [List.getElem?_eq_getElem hp0]; rfl
      clear hX hY
      have hgd : decide ((j : Int) < (ls.length : Int)) = true := by simp; omega
      by_cases n1 : nmAt y d = nmAt x d
      · have n2 : ((nmAt y d).toList == (nmAt x d).toList) = true := by rw [str_eq]; simp [n1]
        by_cases k1 : kdAt y d = kdAt x d
        · have k2 : ((kdAt y d : Int) == (kdAt x d : Int)) = true := by simp [k1]
          have HG := Lib.hid (hgo.out (by unfold keyAt; rw [n1, k1]))
          clear n1 k1 hgo hstop2
          go_wp2
          (refine wp_region_ext (by kernel_rfl) (by kernel_rfl) ?_; (repeat (quiet_step (first | exact q_call (l4Kind _ _ _ _ _ hd (by omega))))); refine wpQuiet_nil ?_; rintro _ ⟨⟨w1, hw1⟩, rfl⟩)
          have H2 := HS'.of_below hw1
          clear hF hG hP hR
          go_wp2
          go_roundw
          case rel => exact ⟨j + 1, by omega, by go_num, H2, Lib.hid (by rw [HX.out]; exact HG.out)⟩
          case measure => simp [intOf]; omega
        · have k2 : ((kdAt y d : Int) == (kdAt x d : Int)) = false := by simp; omega
          have HG := Lib.hid (hstop2.out (by unfold keyAt; intro h; exact k1 (congrArg Prod.snd h)))
          clear n1 k1 hgo hstop2
          go_wp2
          (refine wp_region_ext (by kernel_rfl) (by kernel_rfl) ?_; (repeat (quiet_step (first | exact q_call (l4Kind _ _ _ _ _ hd (by omega))))); refine wpQuiet_nil ?_; rintro _ ⟨⟨w1, hw1⟩, rfl⟩)
          have H2 := HS'.of_below hw1
          clear hF hG hP hR
          go_wp2
          go_ret
          exact ⟨by rw [HG.out]; rfl, H2.below⟩
      · have n2 : ((nmAt y d).toList == (nmAt x d).toList) = false := by rw [str_eq]; simp [n1]
        have HG := Lib.hid (hstop2.out (by unfold keyAt; intro h; exact n1 (congrArg Prod.fst h)))
        clear n1 hgo hstop2
        go_wp2
        (refine wp_region_ext (by kernel_rfl) (by kernel_rfl) ?_; (repeat (quiet_step (first | exact q_call (l4Kind _ _ _ _ _ hd (by omega))))); refine wpQuiet_nil ?_; rintro _ ⟨⟨w1, hw1⟩, rfl⟩)
        have H2 := HS'.of_below hw1
        clear hF hG hP hR
        go_wp2
        go_ret
        exact ⟨by rw [HG.out]; rfl, H2.below⟩
    · have hgd : decide ((j : Int) < (ls.length : Int)) = false := by simp; omega
      have HG := Lib.hid (show N = j by rw [← HN.out]; exact tw_stop (fun y => decide (keyAt d y = keyAt d ls[0])) ls j hj (fun y hy => by simpa using HJ.out y hy) (fun h => absurd h hlt))
      go_wp2
      (refine wp_region_ext (by kernel_rfl) (by kernel_rfl) ?_; (repeat (quiet_step (first | fail))); refine wpQuiet_nil ?_; rintro _ ⟨⟨w1, hw1⟩, rfl⟩)
      have H2 := HS'.of_below hw1
      go_wp2
      go_ret
      exact ⟨by rw [HG.out]; rfl, H2.below⟩
end Go.Proofs.YtohgelmkagcimaaGreat
namespace Go.Proofs.YtohgelmkagcimaaGreat
set_option linter.unusedSimpArgs false
set_option linter.unusedVariables false
open Go.RowKit Go.Ow
attribute [local irreducible] wpQuiet
set_option maxRecDepth 100000
def slen : Value → Nat
  | .slice _ n _ => n
  | _ => 0
theorem take_tw {α : Type} (p : α → Bool) : ∀ l : List α, l.take (l.takeWhile p).length = l.takeWhile p
  | [] => rfl
  | x :: l => by
    cases hx : p x
    · rw [List.takeWhile_cons_of_neg (by simp [hx])]; rfl
    · rw [List.takeWhile_cons_of_pos hx, List.length_cons, List.take_succ_cons, take_tw p l]
theorem drop_tw {α : Type} (p : α → Bool) : ∀ l : List α, l.drop (l.takeWhile p).length = l.dropWhile p
  | [] => rfl
  | x :: l => by
    cases hx : p x
    · rw [List.takeWhile_cons_of_neg (by simp [hx]), List.dropWhile_cons_of_neg (by simp [hx])]; rfl
    · rw [List.takeWhile_cons_of_pos hx, List.dropWhile_cons_of_pos hx, List.length_cons, List.drop_succ_cons, drop_tw p l]
theorem u8_kind (k : Nat) (hk : k ≤ 3) : (UInt8.ofNat k).toNat = k := by
  simp; omega
theorem u8_lit (k : Nat) (hk : k ≤ 3) : (#[Value.int .u8 (k : Int)]).toList = ([UInt8.ofNat k].map Fl.fl).flatten := by
  show [Value.int .u8 (k : Int)] = [Value.int .u8 ((UInt8.ofNat k).toNat : Int)]
  rw [u8_kind k hk]
theorem kd_le (x : Lf) (d : Nat) : kdAt x d ≤ 3 ∧ 1 ≤ kdAt x d := by unfold kdAt; split <;> (try split) <;> omega
theorem subL_lo {w : World} {A : Option Addr} {n c : Nat} (k : Nat) (h1 : k ≤ n) (h2 : n ≤ c) :
    (Instr.sliceAt 31 (.slice A n c) none (some (.int .i64 (k : Int))) none).run Tryz.prog w = .ok (sliced A 0 k c 5) w := by
  have := run_subV (P := Tryz.prog) (w := w) (z := 5) Tryz.underlying31 (by kernel_rfl) A n c ((0 : Nat) : Int) (k : Int) (by omega) (by omega) (by omega)
  rw [Int.toNat_natCast, Int.toNat_natCast] at this
  exact this
theorem subL_hi {w : World} {A : Option Addr} {n c : Nat} (k : Nat) (h1 : k ≤ n) (h2 : n ≤ c) :
    (Instr.sliceAt 31 (.slice A n c) (some (.int .i64 (k : Int))) none none).run Tryz.prog w = .ok (sliced A k n c 5) w := by
  have he : Tryz.prog.elem 31 = 103 := by simp [Program.elem, Tryz.underlying31]
  have ht' : Tryz.prog.underlying 31 = some (.slice (Tryz.prog.elem 31)) := by rw [he]; exact Tryz.underlying31
  have hz : (sizeOf 103).run Tryz.prog w = .ok 5 w := by kernel_rfl
  rw [run_sliceAt_slice w 31 _ _ _ _ ht', run_slice_l w 31 A n c ht' .i64 (k : Int) (by omega) (by omega), he, hz]
  simp [Result.andThen]
/-- A row of leaves, cut. -/
theorem subLf {n c : Nat} (A : Option Addr) (l : List Lf) (j : Nat) (hn : n = l.length) (h1 : j ≤ n) (h2 : n ≤ c) :
    ∃ A1 c1 A2 c2, (∀ q, (Instr.sliceAt 31 (.slice A n c) none (some (.int .i64 (j : Int))) none).run Tryz.prog q = .ok (.slice A1 (l.take j).length c1) q) ∧ (∀ q, (Instr.sliceAt 31 (.slice A n c) (some (.int .i64 (j : Int))) none none).run Tryz.prog q = .ok (.slice A2 (l.drop j).length c2) q) ∧
      Hid (∀ w, Rd w (.slice A n c) l → Rd w (.slice A1 (l.take j).length c1) (l.take j) ∧ Rd w (.slice A2 (l.drop j).length c2) (l.drop j)) := by
  subst hn
  have e1 : ∀ (A : Option Addr) lo hi c z, ∃ A' c', sliced A lo hi c z = .slice A' (hi - lo) c' := by
    intro A lo hi c z; unfold sliced; split <;> exact ⟨_, _, rfl⟩
  obtain ⟨A1, c1, h3⟩ := e1 A 0 j c 5
  obtain ⟨A2, c2, h4⟩ := e1 A j l.length c 5
  have l1 : (l.take j).length = j - 0 := by simp; omega
  have l2 : (l.drop j).length = l.length - j := by simp
  refine ⟨A1, c1, A2, c2, fun q => by rw [l1, ← h3]; exact subL_lo j h1 h2, fun q => by rw [l2, ← h4]; exact subL_hi j h1 h2, Lib.hid fun w h => ⟨?_, ?_⟩⟩
  · have := rd_subV h 0 j (by omega) h1
    rw [show Cd.z Lf = 5 from rfl, h3] at this
    rw [l1]; simpa using this
  · have := rd_subV h j l.length h1 (Nat.le_refl _)
    rw [show Cd.z Lf = 5 from rfl, h4] at this
    rw [l2]
    rwa [List.take_of_length_le (by simp)] at this
theorem putTextQ (s : ByteArray) (w : World) (hs : s.size ≤ 140737488351232) : Calls Tryz.prog 162 #[.string s] w fun e w' => ∃ A c, e = .returned (.slice A (txt s).length c) ∧ Own w [.own (.slice A (txt s).length c) (txt s)] w' :=
  (specPutText s w hs).mono fun e w' ⟨v', he, h⟩ => by
    obtain ⟨A, c, rfl, _, _⟩ := (h.rd 0 rfl).val
    exact ⟨A, c, he, h⟩
theorem lfsB_snoc (k : Nat) (a : List Lf) (x : Lf) : lfsB k (a ++ [x]) = lfsB k a ++ lfB k x := by unfold lfsB; simp
theorem gBs_cons (T : List Lf → List UInt8) (d : Nat) (x : Lf) (t : List Lf) : ((grps (keyAt d) (x :: t)).map (gB T d)).flatten = gB T d (x :: t.takeWhile (fun y => decide (keyAt d y = keyAt d x))) ++ ((grps (keyAt d) (t.dropWhile (fun y => decide (keyAt d y = keyAt d x)))).map (gB T d)).flatten := by
  rw [grps_cons]; rfl
theorem l4Group2 (x : Lf) (t : List Lf) (v : Value) (g : List Lf) (d : Nat) (w : World) (hv : Rd w v (x :: t)) (hg : (x :: t).takeWhile (fun y => decide (keyAt d y = keyAt d x)) = g) (hp : ∀ l ∈ x :: t, d < l.p.length) (hd : d ≤ 100) :
    Calls Tryz.prog 160 #[v, .int .i64 d] w fun e w' => e = .returned (.int .i64 (g.length : Nat)) ∧ Below w.heap.size w w' := by
  have h := l4Group (x :: t) v d w hv (by simp) hp hd
  rw [List.getElem_cons_zero, hg] at h
  exact h
set_option maxHeartbeats 8000000 in
theorem l4TreeStep (f d : Nat) (hd : d ≤ 7) (hf : f ≤ 7) (IH : ∀ (ls : List Lf) (A : Option Addr) (c : Nat) (w : World), Rd w (.slice A ls.length c) ls → 0 < ls.length → (∀ l ∈ ls, LfG (d + 1) l) → ls.length ≤ 1000 →
      Calls Tryz.prog 135 #[.slice A ls.length c, .int .i64 ((d : Int) + 1)] w fun e w' => ∃ A c, e = .returned (.slice A (treeB f (d + 1) ls).length c) ∧ Own w [.own (.slice A (treeB f (d + 1) ls).length c) (treeB f (d + 1) ls)] w')
    (ls : List Lf) (A : Option Addr) (c : Nat) (w : World) (hv : Rd w (.slice A ls.length c) ls) (hg : ∀ l ∈ ls, LfG d l) (hn : ls.length ≤ 1000) :
    Calls Tryz.prog 135 #[.slice A ls.length c, .int .i64 d] w fun e w' => ∃ A c, e = .returned (.slice A (treeB (f + 1) d ls).length c) ∧ Own w [.own (.slice A (treeB (f + 1) d ls).length c) (treeB (f + 1) d ls)] w' := by
  have HIH := Lib.hid IH
  have hM : (((grps (keyAt d) ls).map (gB (treeB f (d + 1)) d)).flatten).length ≤ 800000 := by
    have h1 := treeB_len (f + 1) d ls hg hn
    rw [treeB, List.length_append] at h1
    have h2 : ls.length * (70 * (f + 1) + 230) ≤ 1000 * (70 * (f + 1) + 230) := Nat.mul_le_mul_right _ hn
    omega
  have hT : Hid (∀ g : List Lf, (∀ l ∈ g, LfG (d + 1) l) → g.length ≤ 1000 → (treeB f (d + 1) g).length ≤ 800000) := Lib.hid fun g h1 h2 => by
    have h3 := treeB_len f (d + 1) g h1 h2
    have h4 : g.length * (70 * f + 230) ≤ 1000 * (70 * f + 230) := Nat.mul_le_mul_right _ h2
    omega
  have HM := Lib.hid hM
  have HTB := Lib.hid (show treeB (f + 1) d ls = uv (grps (keyAt d) ls).length ++ ((grps (keyAt d) ls).map (gB (treeB f (d + 1)) d)).flatten from rfl)
  have hcl := grps_count (keyAt d) ls.length ls (Nat.le_refl _)
  obtain ⟨C, hC⟩ : ∃ C, (grps (keyAt d) ls).length = C := ⟨_, rfl⟩
  obtain ⟨BB, hBB⟩ : ∃ B, ((grps (keyAt d) ls).map (gB (treeB f (d + 1)) d)).flatten = B := ⟨_, rfl⟩
  rw [hC, hBB] at HTB
  rw [hBB] at HM
  rw [hC] at hcl
  have HG := Lib.hid hg
  have HC := Lib.hid hC
  have HB := Lib.hid hBB
  clear IH hM hg hC hBB
  have HS := (Own.start w).lit ([] : List UInt8) #[] 5 rfl rfl (by simp)
  go_enter Tryz.func135, Tryz.ntmps135
  go_wp2
  go_loopw [0, 5, 6] (fun l n o wr => ∃ (r : List Lf) (A : Option Addr) (c nr cnt : Nat) (acc : List UInt8), l = .slice A nr c ∧ n = .int .i64 cnt ∧ nr ≤ 1000 ∧ cnt ≤ C ∧ acc.length ≤ 800000 ∧ Hid (nr = r.length) ∧ Hid (Rd w (.slice A nr c) r) ∧ Hid (∀ l ∈ r, LfG d l) ∧ Hid (acc ++ ((grps (keyAt d) r).map (gB (treeB f (d + 1)) d)).flatten = BB) ∧ Hid (cnt + (grps (keyAt d) r).length = C) ∧ Own w [.own o acc] wr) (fun l _ _ _ => slen l)
  case atStart => exact ⟨ls, A, c, ls.length, 0, [], rfl, rfl, hn, by omega, by simp, Lib.hid rfl, Lib.hid hv, HG, Lib.hid (by rw [List.nil_append]; exact HB.out), Lib.hid (by rw [Nat.zero_add]; exact HC.out), HS⟩
  case round =>
    obtain ⟨r, A, c, nr, cnt, acc, rfl, rfl, hrl, hcn, hal, HNR, HR, HLG, HE, HN, HS'⟩ := hrel
    clear HS hv
    have HS := HS'
    clear HS'
    cases r with
    | nil =>
      have HE2 := Lib.hid (show acc = BB by have := HE.out; rw [grps_nil] at this; simpa using this)
      have HN2 := Lib.hid (show cnt = C by have := HN.out; rw [grps_nil] at this; simpa using this)
      obtain rfl : nr = 0 := HNR.out
      go_wp2_with fail
      refine (l2Put2 _ _ (by omega)).mono ?_; rintro e w1 ⟨A9, c9, rfl, hs9⟩
      have H2 := HS.call hs9
      have hu := uv_len10 cnt (by omega)
      go_wp2_with (refine wp_app2 (α := UInt8) rfl _ _ 39 rfl (by kernel_rfl) _ _ H2 rfl _ _ rfl (H2.rd 1 rfl) (by show (_ + _) * 1 ≤ _; omega) (by omega) ?_; intro v2 q1 w2 hq1 hql1 H')
      have H3 := (H'.pick 1 rfl).drop
      obtain ⟨A5, c5, rfl, _, _⟩ := (H3.rd 0 rfl).val
      have HQ := Lib.hid (show q1 = treeB (f + 1) d ls by rw [hq1.out, HTB.out, HE2.out, HN2.out])
      go_ret
      exact ⟨A5, c5, by rw [← HQ.out]; rfl, by rw [← HQ.out]; exact H3⟩
    | cons x t =>
      have hnr : nr = t.length + 1 := by rw [HNR.out]; rfl
      have hnc : nr ≤ c := by
        obtain ⟨_, _, he, h2, _⟩ := HR.out.val
        injection he with _ h3 h4
        omega
      obtain ⟨b, o, rfl⟩ := HR.out.fix (by simp)
      have hx := HLG.out x (by simp)
      obtain ⟨g, hgg⟩ : ∃ g, x :: t.takeWhile (fun y => decide (keyAt d y = keyAt d x)) = g := ⟨_, rfl⟩
      obtain ⟨r', hrr⟩ : ∃ r', t.dropWhile (fun y => decide (keyAt d y = keyAt d x)) = r' := ⟨_, rfl⟩
      have htw : (x :: t).takeWhile (fun y => decide (keyAt d y = keyAt d x)) = g := by rw [List.takeWhile_cons_of_pos (by simp), hgg]
      have hdw : (x :: t).dropWhile (fun y => decide (keyAt d y = keyAt d x)) = r' := by rw [List.dropWhile_cons_of_pos (by simp), hrr]
      have ht1 : (x :: t).take g.length = g := by rw [← htw]; exact take_tw _ _
      have ht2 : (x :: t).drop g.length = r' := by rw [← htw, ← hdw]; exact drop_tw _ _
      have hgl : g.length ≤ nr := by rw [hnr, ← List.length_cons (a := x), ← htw]; exact (List.takeWhile_prefix _).length_le
      have hg0 : 0 < g.length := by rw [← hgg]; simp
      have hrl2 : r'.length ≤ 1000 := by rw [← ht2, List.length_drop, List.length_cons]; omega
      have hrlt : r'.length < nr := by rw [← ht2, List.length_drop, List.length_cons]; omega
      have hgbc := gBs_cons (treeB f (d + 1)) d x t
      have hgc := grps_cons (keyAt d) x t
      rw [hgg, hrr] at hgbc hgc
      have hE1 : (acc ++ gB (treeB f (d + 1)) d g) ++ ((grps (keyAt d) r').map (gB (treeB f (d + 1)) d)).flatten = BB := by rw [← HE.out, hgbc, List.append_assoc]
      have hN1 : (cnt + 1) + (grps (keyAt d) r').length = C := by rw [← HN.out, hgc, List.length_cons]; omega
      have hql : (acc ++ gB (treeB f (d + 1)) d g).length ≤ 800000 := by
        have h1 := HM.out
        have h2 := congrArg List.length hE1
        rw [List.length_append] at h2
        omega
      have hcn2 : cnt + 1 ≤ C := by omega
      have hgB : gB (treeB f (d + 1)) d g = (txt (nmAt x d) ++ [UInt8.ofNat (kdAt x d)]) ++ (if kdAt x d = 3 then treeB f (d + 1) g else uv g.length ++ lfsB (kdAt x d) g) := by subst hgg; rfl
      have hkg : ∀ l ∈ g, kdAt l d = kdAt x d := by
        intro l hl
        rw [← htw] at hl
        have := tw_imp _ _ _ hl
        have := congrArg Prod.snd (of_decide_eq_true this)
        exact this
      have hgm : ∀ l ∈ g, LfG d l := by
        intro l hl
        rw [← ht1] at hl
        exact HLG.out l (List.mem_of_mem_take hl)
      have hrm : Hid (∀ l ∈ r', LfG d l) := Lib.hid (by
        intro l hl
        rw [← ht2] at hl
        exact HLG.out l (List.mem_of_mem_drop hl))
      obtain ⟨A1, c1, A2, c2, hs1, hs2, HSUB⟩ := subLf (c := c) (some ⟨b, o, none⟩) (x :: t) g.length HNR.out hgl hnc
      rw [ht1] at hs1 HSUB
      rw [ht2] at hs2 HSUB
      have HL1 := Lib.hid (show Rd w (.slice A1 g.length c1) g ∧ Rd w (.slice A2 r'.length c2) r' from HSUB.out w HR.out)
      clear HSUB
      have HE1 := Lib.hid hE1
      have HN1 := Lib.hid hN1
      have HGB := Lib.hid hgB
      have HKG := Lib.hid hkg
      have HGM := Lib.hid hgm
      have HTK := Lib.hid ht1
      have HTW := Lib.hid htw
      have hnr0 : 0 < nr := by omega
      clear hnr hE1 hN1 hgB hkg hgm ht1 ht2 hgbc hgc hgg hrr htw hdw HE HN
      have hkd := kd_le x d
      have hnm := nm_size hx
      have hxd := hx.1
      have hx8 := hx.2.1
      obtain ⟨vp, hX⟩ := Lf.rd HR.out 0 (by simp)
      simp only [List.getElem_cons_zero, Nat.zero_mul, Nat.add_zero] at hX
      obtain ⟨Ap, cp, rfl, _, hlp⟩ := (hX w (Below.refl _ _)).1.val
      obtain ⟨bp, op, rfl⟩ := (hX w (Below.refl _ _)).1.fix (by omega)
      have hXN : ∀ w', Below w.heap.size w w' → w'.cell? ⟨bp, op + d, none⟩ = some (.string (nmAt x d)) := fun w' hb => by
        have := Sg.rd (hX w' hb).1 d hxd
        rw [this]; unfold nmAt; rw [List.getElem?_eq_getElem hxd]; rfl
      have HX := Lib.hid hX
      have HXN := Lib.hid hXN
      clear hX hXN
      go_wp2_with fail
      refine (l4Group2 x t _ g d _ (HS.old HR.out) HTW.out (fun l hl => (HLG.out l hl).1) (by omega)).mono ?_
      rintro e w1 ⟨rfl, hb1⟩
      have HS1 := HS.of_below hb1
      obtain ⟨hp, d0, d1, d2, d3, d4⟩ := HX.out _ HS1.below
      clear HS hb1
      go_wp2_with fail
      refine (l4Kind x _ _ d _ (by omega) (by omega)).mono ?_
      rintro e w2 ⟨rfl, hb2⟩
      have HS2 := HS1.of_below hb2
      clear hp d0 d1 d2 d3 d4 HS1 hb2
      obtain ⟨hp, d0, d1, d2, d3, d4⟩ := HX.out _ HS2.below
      have dn := HXN.out _ HS2.below
      obtain ⟨kk, hkk⟩ : ∃ k, kdAt x d = k := ⟨_, rfl⟩
      obtain ⟨nm, hnm2⟩ : ∃ n, nmAt x d = n := ⟨_, rfl⟩
      rw [hkk, hnm2] at HGB
      rw [hkk] at HKG hkd ⊢
      rw [hnm2] at hnm dn
      clear hkk hnm2
      have htl := txt_len nm 40 hnm (by omega)
      go_wp2_with fail
      refine (putTextQ nm _ (by omega)).mono ?_
      rintro e w3 ⟨A3, c3, rfl, hs3⟩
      have HS3 := (HS2.call hs3).pick 1 rfl
      clear hp d0 d1 d2 d3 d4 HS2 hs3 dn
      have hk3 := hkd.1
      have HRM := hrm
      clear hrm
      by_cases hke : kk = 3
      · have hkb : ((kk : Int) == 3) = true := by simp [hke]
        have HGB2 := Lib.hid (show gB (treeB f (d + 1)) d g = (txt nm ++ [UInt8.ofNat kk]) ++ treeB f (d + 1) g by rw [HGB.out, if_pos hke])
        have HGD := Lib.hid (show ∀ l ∈ g, LfG (d + 1) l from fun l hl => kd_deep (HGM.out l hl) ((HKG.out l hl).trans hke))
        have hT1 := hT.out g HGD.out (by omega)
        clear hke
        go_wp2_with (first | (refine wp_app2 (α := UInt8) rfl _ _ 39 rfl (by kernel_rfl) _ _ HS3 rfl _ _ rfl (HS3.rd 1 rfl) (by show (_ + _) * 1 ≤ _; omega) (by omega) ?_; intro v4 q4 w4 hq4 hql4 H'; have HS4 := (H'.pick 1 rfl).drop; have HL4 := (HS4.lit [UInt8.ofNat kk] #[.int .u8 (kk : Int)] 5 rfl (u8_lit kk hk3) (by simp)).pick 1 rfl; clear H' HS3 HS4) | (refine wp_app2 (α := UInt8) rfl _ _ 39 rfl (by kernel_rfl) _ _ HL4 rfl _ _ rfl (HL4.rd 1 rfl) (by show (_ + 1) * 1 ≤ _; omega) (by show _ + 1 ≤ _; omega) ?_; intro v5 q5 w5 hq5 hql5 H'; have HS5 := (H'.pick 1 rfl).drop; clear H' HL4; obtain ⟨A5, c5, rfl, _, _⟩ := (HS5.rd 0 rfl).val))
        refine (HIH.out g A1 c1 _ (HS5.old HL1.out.1) hg0 HGD.out (by omega)).mono ?_
        rintro e w6 ⟨A6, c6, rfl, hs6⟩
        have HS6 := (HS5.call hs6).pick 1 rfl
        have hq5l : q5.length ≤ 800060 := by simp only [List.length_cons, List.length_nil] at hql5; omega
        clear hql4 hql5 HS5 hs6
        go_wp2_with (refine wp_app2 (α := UInt8) rfl _ _ 39 rfl (by kernel_rfl) _ _ HS6 rfl _ _ rfl (HS6.rd 1 rfl) (by show (_ + _) * 1 ≤ _; omega) (by omega) ?_; intro v7 q7 w7 hq7 hql7 H'; have HS7 := (H'.pick 1 rfl).drop; clear H' HS6)
        have hq : q7 = acc ++ gB (treeB f (d + 1)) d g := by rw [hq7.out, hq5.out, hq4.out, HGB2.out]; simp only [List.append_assoc]
        have hq7l : q7.length ≤ 800000 := by rw [hq]; exact hql
        have HQ := Lib.hid hq
        clear hq
        go_roundw
        case rel => exact ⟨r', A2, c2, r'.length, cnt + 1, q7, rfl, by go_num, by omega, by omega, hq7l, Lib.hid rfl, Lib.hid HL1.out.2, HRM, Lib.hid (by rw [HQ.out]; exact HE1.out), HN1, HS7⟩
        case measure => simp [slen]; omega
      · have hkb : ((kk : Int) == 3) = false := by simp; omega
        have HGB2 := Lib.hid (show gB (treeB f (d + 1)) d g = (txt nm ++ [UInt8.ofNat kk]) ++ (uv g.length ++ lfsB kk g) by rw [HGB.out, if_neg hke])
        clear hke
        go_wp2_with (first | (refine wp_app2 (α := UInt8) rfl _ _ 39 rfl (by kernel_rfl) _ _ HS3 rfl _ _ rfl (HS3.rd 1 rfl) (by show (_ + _) * 1 ≤ _; omega) (by omega) ?_; intro v4 q4 w4 hq4 hql4 H'; have HS4 := (H'.pick 1 rfl).drop; have HL4 := (HS4.lit [UInt8.ofNat kk] #[.int .u8 (kk : Int)] 5 rfl (u8_lit kk hk3) (by simp)).pick 1 rfl; clear H' HS3 HS4) | (refine wp_app2 (α := UInt8) rfl _ _ 39 rfl (by kernel_rfl) _ _ HL4 rfl _ _ rfl (HL4.rd 1 rfl) (by show (_ + 1) * 1 ≤ _; omega) (by show _ + 1 ≤ _; omega) ?_; intro v5 q5 w5 hq5 hql5 H'; have HS5 := (H'.pick 1 rfl).drop; clear H' HL4; obtain ⟨A5, c5, rfl, _, _⟩ := (HS5.rd 0 rfl).val))
        refine (l2Put2 _ _ (by omega)).mono ?_
        rintro e w6 ⟨A6, c6, rfl, hs6⟩
        have HS6 := (HS5.call hs6).pick 1 rfl
        have hq5l : q5.length ≤ 800060 := by simp only [List.length_cons, List.length_nil] at hql5; omega
        have hu6 := uv_len10 g.length (by omega)
        clear hql4 hql5 HS5 hs6
        go_wp2_with (refine wp_app2 (α := UInt8) rfl _ _ 39 rfl (by kernel_rfl) _ _ HS6 rfl _ _ rfl (HS6.rd 1 rfl) (by show (_ + _) * 1 ≤ _; omega) (by omega) ?_; intro v7 q7 w7 hq7 hql7 H'; have HS7 := (H'.pick 1 rfl).drop; clear H' HS6)
        have HQ7 := Lib.hid (show q7 = acc ++ ((txt nm ++ [UInt8.ofNat kk]) ++ uv g.length) by rw [hq7.out, hq5.out, hq4.out]; simp only [List.append_assoc])
        have hq7l : q7.length ≤ 800100 := by omega
        clear hq4 hq5 hq7 hql7 hq5l
        go_loopw [6, 9] (fun o i wr => ∃ (j : Nat) (acc2 : List UInt8), j ≤ g.length ∧ i = .int .i64 j ∧ acc2.length ≤ 800100 + 230 * j ∧ Hid (acc2 = q7 ++ lfsB kk (g.take j)) ∧ Own w [.own o acc2] wr) (fun _ i _ => g.length - (intOf i).toNat)
        case atStart => exact ⟨0, q7, by omega, rfl, by omega, Lib.hid (by simp [lfsB]), HS7⟩
        case round =>
          obtain ⟨j, acc2, hj, rfl, ha2, HA2, HS⟩ := hrel
          clear HS7
          by_cases hjl : j < g.length
          · have hj2 : j < (x :: t).length := by rw [← HNR.out]; omega
            obtain ⟨vq, hY⟩ := Lf.rd HR.out j hj2
            have hyG := HLG.out _ (List.getElem_mem hj2)
            have hgj : g.take (j + 1) = g.take j ++ [(x :: t)[j]] := by
              have : g[j]? = some (x :: t)[j] := by
                conv => lhs; rw [← HTK.out]
                rw [List.getElem?_take_of_lt hjl, List.getElem?_eq_getElem hj2]
              rw [List.take_add_one, this]; rfl
            obtain ⟨y, hy⟩ : ∃ y, (x :: t)[j] = y := ⟨_, rfl⟩
            rw [hy] at hY hyG hgj
            clear hy hj2
            have HTJ := Lib.hid hgj
            have hlb := lfB_len kk hyG
            have htl2 := txt_len y.v 200 hyG.2.2.2.1 (by omega)
            have hyv := hyG.2.2.2.1
            obtain ⟨n1, e1⟩ : ∃ n : Nat, y.dr = n := ⟨y.dr.toNat, by have := hyG.2.2.2.2.1; omega⟩
            obtain ⟨n2, e2⟩ : ∃ n : Nat, y.ds = n := ⟨y.ds.toNat, by have := hyG.2.2.2.2.2; omega⟩
            have hn1 : n1 ≤ 8 := by have := hyG.2.2.2.2.1; omega
            have hn2 : n2 ≤ 1000000000 := by have := hyG.2.2.2.2.2; omega
            have HLB := Lib.hid (show lfB kk y = uv n1 ++ (uv n2 ++ (if kk = 1 then txt y.v else [])) by unfold lfB; rw [e1, e2]; rfl)
            rw [e1, e2] at hY
            have HY := Lib.hid hY
            have hu1 := uv_len10 n1 (by omega)
            have hu2 := uv_len10 n2 (by omega)
            have HFIN : Hid (∀ q : List UInt8, q = acc2 ++ lfB kk y → q.length ≤ 800100 + 230 * (j + 1) ∧ q = q7 ++ lfsB kk (g.take (j + 1))) := Lib.hid fun q hq => by
              refine ⟨by rw [hq, List.length_append]; omega, ?_⟩
              rw [hq, HTJ.out, lfsB_snoc, HA2.out, List.append_assoc]
            clear hgj hY e1 e2 hlb hyG
            obtain ⟨hp, d0, d1, d2, d3, d4⟩ := HY.out _ HS.below
            by_cases hk1 : kk = 1
            · have hkc : ((kk : Int) == 1) = true := by simp [hk1]
              have HLB := Lib.hid (show lfB kk y = uv n1 ++ (uv n2 ++ txt y.v) by rw [HLB.out, if_pos hk1])
              clear hk1
              go_wp2_with fail
              refine (l2Put2 _ _ (by omega)).mono ?_
              rintro e w8 ⟨A8, c8, rfl, hs8⟩
              have HS8 := (HS.call hs8).pick 1 rfl
              clear hp d0 d1 d2 d3 d4
              obtain ⟨hp, d0, d1, d2, d3, d4⟩ := HY.out _ HS8.below
              go_wp2_with (refine wp_app2 (α := UInt8) rfl _ _ 39 rfl (by kernel_rfl) _ _ HS8 rfl _ _ rfl (HS8.rd 1 rfl) (by show (_ + _) * 1 ≤ _; omega) (by omega) ?_; intro v9 q9 w9 hq9 hql9 H'; have HS9 := (H'.pick 1 rfl).drop; clear H' HS8 hp d0 d1 d2 d3 d4; obtain ⟨hp, d0, d1, d2, d3, d4⟩ := HY.out _ HS9.below)
              refine (l2Put2 _ _ (by omega)).mono ?_
              rintro e w10 ⟨A10, c10, rfl, hs10⟩
              have HS10 := (HS9.call hs10).pick 1 rfl
              clear hp d0 d1 d2 d3 d4
              obtain ⟨hp, d0, d1, d2, d3, d4⟩ := HY.out _ HS10.below
              go_wp2_with (refine wp_app2 (α := UInt8) rfl _ _ 39 rfl (by kernel_rfl) _ _ HS10 rfl _ _ rfl (HS10.rd 1 rfl) (by show (_ + _) * 1 ≤ _; omega) (by omega) ?_; intro v11 q11 w11 hq11 hql11 H'; have HS11 := (H'.pick 1 rfl).drop; clear H' HS10 hp d0 d1 d2 d3 d4; obtain ⟨hp, d0, d1, d2, d3, d4⟩ := HY.out _ HS11.below)
              refine (putTextQ y.v _ (by omega)).mono ?_
              rintro e w12 ⟨A12, c12, rfl, hs12⟩
              have HS12 := (HS11.call hs12).pick 1 rfl
              clear hp d0 d1 d2 d3 d4
              go_wp2_with (refine wp_app2 (α := UInt8) rfl _ _ 39 rfl (by kernel_rfl) _ _ HS12 rfl _ _ rfl (HS12.rd 1 rfl) (by show (_ + _) * 1 ≤ _; omega) (by omega) ?_; intro v13 q13 w13 hq13 hql13 H'; have HS13 := (H'.pick 1 rfl).drop; clear H' HS12)
              obtain ⟨hF1, hF2⟩ := HFIN.out q13 (by rw [hq13.out, hq11.out, hq9.out, HLB.out]; simp only [List.append_assoc, List.append_nil])
              have HF2 := Lib.hid hF2
              clear hF2
              go_roundw
              case rel => exact ⟨j + 1, q13, by omega, by go_num, hF1, HF2, HS13⟩
              case measure => simp [intOf]; omega
            · have hkc : ((kk : Int) == 1) = false := by simp; omega
              have HLB := Lib.hid (show lfB kk y = uv n1 ++ (uv n2 ++ []) by rw [HLB.out, if_neg hk1])
              clear hk1
              go_wp2_with fail
              refine (l2Put2 _ _ (by omega)).mono ?_
              rintro e w8 ⟨A8, c8, rfl, hs8⟩
              have HS8 := (HS.call hs8).pick 1 rfl
              clear hp d0 d1 d2 d3 d4
              obtain ⟨hp, d0, d1, d2, d3, d4⟩ := HY.out _ HS8.below
              go_wp2_with (refine wp_app2 (α := UInt8) rfl _ _ 39 rfl (by kernel_rfl) _ _ HS8 rfl _ _ rfl (HS8.rd 1 rfl) (by show (_ + _) * 1 ≤ _; omega) (by omega) ?_; intro v9 q9 w9 hq9 hql9 H'; have HS9 := (H'.pick 1 rfl).drop; clear H' HS8 hp d0 d1 d2 d3 d4; obtain ⟨hp, d0, d1, d2, d3, d4⟩ := HY.out _ HS9.below)
              refine (l2Put2 _ _ (by omega)).mono ?_
              rintro e w10 ⟨A10, c10, rfl, hs10⟩
              have HS10 := (HS9.call hs10).pick 1 rfl
              clear hp d0 d1 d2 d3 d4
              obtain ⟨hp, d0, d1, d2, d3, d4⟩ := HY.out _ HS10.below
              go_wp2_with (refine wp_app2 (α := UInt8) rfl _ _ 39 rfl (by kernel_rfl) _ _ HS10 rfl _ _ rfl (HS10.rd 1 rfl) (by show (_ + _) * 1 ≤ _; omega) (by omega) ?_; intro v11 q11 w11 hq11 hql11 H'; have HS11 := (H'.pick 1 rfl).drop; clear H' HS10 hp d0 d1 d2 d3 d4; obtain ⟨hp, d0, d1, d2, d3, d4⟩ := HY.out _ HS11.below)
              obtain ⟨hF1, hF2⟩ := HFIN.out q11 (by rw [hq11.out, hq9.out, HLB.out]; simp only [List.append_assoc, List.append_nil])
              have HF2 := Lib.hid hF2
              clear hF2
              go_roundw
              case rel => exact ⟨j + 1, q11, by omega, by go_num, hF1, HF2, HS11⟩
              case measure => simp [intOf]; omega
          · have HQ := Lib.hid (show acc2 = acc ++ gB (treeB f (d + 1)) d g by
              obtain rfl : j = g.length := by omega
              rw [HA2.out, HQ7.out, HGB2.out, List.take_length]; simp only [List.append_assoc])
            have hq7l : acc2.length ≤ 800000 := by rw [HQ.out]; exact hql
            go_wp2
            go_roundw
            case rel => exact ⟨r', A2, c2, r'.length, cnt + 1, acc2, rfl, by go_num, by omega, by omega, hq7l, Lib.hid rfl, Lib.hid HL1.out.2, HRM, Lib.hid (by rw [HQ.out]; exact HE1.out), HN1, HS⟩
            case measure => simp [slen]; omega
theorem l4Tree : ∀ (f d : Nat), f + d = 7 → ∀ (ls : List Lf) (A : Option Addr) (c : Nat) (w : World), Rd w (.slice A ls.length c) ls → (∀ l ∈ ls, LfG d l) → ls.length ≤ 1000 →
    Calls Tryz.prog 135 #[.slice A ls.length c, .int .i64 d] w fun e w' => ∃ A c, e = .returned (.slice A (treeB (f + 1) d ls).length c) ∧ Own w [.own (.slice A (treeB (f + 1) d ls).length c) (treeB (f + 1) d ls)] w'
  | 0, d, hd, ls, A, c, w, hv, hg, hn => l4TreeStep 0 d (by omega) (by omega) (fun gs A c w _ h0 hg' _ => by
      obtain ⟨x, t, rfl⟩ := List.exists_cons_of_length_pos h0
      have := hg' x (by simp)
      have h1 := this.1
      have h2 := this.2.1
      omega) ls A c w hv hg hn
  | f + 1, d, hd, ls, A, c, w, hv, hg, hn => l4TreeStep (f + 1) d (by omega) (by omega) (fun gs A c w hr _ hg' hn' => l4Tree f (d + 1) (by omega) gs A c w hr hg' hn') ls A c w hv hg hn
end Go.Proofs.YtohgelmkagcimaaGreat
