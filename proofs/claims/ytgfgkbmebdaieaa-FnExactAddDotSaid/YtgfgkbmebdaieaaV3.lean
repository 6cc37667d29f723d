/- Spans of one replica, joined: the program's merged. -/
import Derived.Test.YtgfgkbmebdaieaaV2
import Derived.Test.YtgfgkbmebdaieaaLm
namespace Go.Proofs.Ytgfgkbmebdaieaa
set_option linter.unusedSimpArgs false
set_option linter.unusedVariables false
open Go.RowKit Go.Ow
attribute [local irreducible] wpQuiet
set_option maxRecDepth 100000
theorem rd_two {w : World} {g : Nat} {va vb : Value} {a b : List Sp} (h0 : w.cell? ⟨g, 0, none⟩ = some va) (h1 : w.cell? ⟨g, 1, none⟩ = some vb) (ha : Rd w va a) (hb : Rd w vb b) : Rd w (.slice (some ⟨g, 0, none⟩) 2 2) [a, b] := by
  refine ⟨_, 2, rfl, by simp, by simp [maxLen], by simp, by simp, fun i hi => ?_⟩
  match i, hi with
  | 0, _ => exact ⟨g, 0, [va], rfl, ⟨va, rfl, ha⟩, fun j hj => by
      obtain rfl : j = 0 := by have : j < 1 := hj; omega
      simpa using h0⟩
  | 1, _ => exact ⟨g, 0, [vb], rfl, ⟨vb, rfl, hb⟩, fun j hj => by
      obtain rfl : j = 0 := by have : j < 1 := hj; omega
      have e : (⟨g, 0 + 1 * Cd.z (List Sp) + 0, none⟩ : Addr) = ⟨g, 1, none⟩ := by show (⟨g, 0 + 1 * 1 + 0, none⟩ : Addr) = _; simp
      rw [e]; simpa using h1⟩
theorem take_foldl (l : List Sp) (k : Nat) (h : k < l.length) : (l.take (k + 1)).foldl stp [] = stp ((l.take k).foldl stp []) l[k] := by
  rw [List.take_succ_eq_append_getElem h, List.foldl_append]; rfl
theorem stp_at {out : List Sp} {m : Nat} {last s : Sp} (hm : out.length = m + 1) (hl : out[m]? = some last) : stp out s = if s.f ≤ last.t + 1 then out.set m ⟨last.f, if last.t < s.t then s.t else last.t⟩ else out ++ [s] := by
  unfold stp
  rw [hm]
  simp [hl]
theorem stp_none {out : List Sp} {s : Sp} (hm : out.length = 0) : stp out s = [s] := by
  rw [List.length_eq_zero_iff.1 hm]; rfl
set_option maxHeartbeats 4000000 in
theorem mergedSp (a b : List Sp) (va vb : Value) (w : World) (ha : Rd w va a) (hb : Rd w vb b) (na : Ns a) (nb : Ns b) (hb0 : b ≠ []) (hl : a.length + b.length ≤ 4194304) :
    Calls Try.prog 96 #[va, vb] w fun e w' => ∃ (v : Value) (out : List Sp), e = .returned v ∧ Own w [.own v out] w' ∧ Ns out ∧ (∀ q, SpIn out q ↔ SpIn a q ∨ SpIn b q) ∧ out.length ≤ a.length + b.length := by
  obtain ⟨A, c, rfl, _, hal⟩ := ha.val
  obtain ⟨B, d, rfl, _, hbl⟩ := hb.val
  have HN := Lib.hid (show (∀ s ∈ a ++ b, Vs s) ∧ 0 < (a ++ b).length ∧ (a ++ b).length ≤ 4194304 from ⟨fun s hs => by
    rcases List.mem_append.1 hs with h | h
    · exact na.2 s h
    · exact nb.2 s h, by rw [List.length_append]; have := List.length_pos_iff.2 hb0; omega, by rw [List.length_append]; exact hl⟩)
  have HS := (Own.start w).box [.slice A a.length c, .slice B b.length d] 116
  have F := HS.facts
  simp only [Own.Facts, Own.Cells, Nat.zero_add] at F
  have hr2 := rd_two F.1.1.1 F.1.1.2.1 (HS.old ha) (HS.old hb)
  clear F na nb hb0
  go_enter Try.func96, Try.ntmps96
  go_wp2_with fail
  refine (concatSp [a, b] _ _ hr2 (by simpa using hl)).mono ?_; rintro e w1 ⟨v1, rfl, hs⟩; (first | have H' := HS.call1 hs | have H' := HS.drew.call1 hs | have H' := (HS.box0 [_] _).call1 hs | have H' := ((HS.box0 [_] _).box0 [_] _).call1 hs | have H' := (HS.alloc _).call1 hs | have H' := ((HS.alloc _).alloc _).call1 hs); clear HS; have HS := H'; clear H'; have F := HS.facts; simp only [Own.Facts, Own.Cells, World.size_alloc, List.cons_append, List.nil_append, List.eraseIdx_cons_succ, List.eraseIdx_cons_zero, List.eraseIdx_zero, List.tail_cons, Nat.zero_add] at F
  clear hr2
  have e0 : [a, b].flatten = a ++ b := by simp
  rw [e0] at HS
  have HAB := Lib.hid (show ∀ q, SpIn (a ++ b) q ↔ SpIn a q ∨ SpIn b q from fun q => spIn_app a b q)
  have HLen := Lib.hid (show (a ++ b).length = a.length + b.length from List.length_append)
  obtain ⟨l, hll⟩ : ∃ l, a ++ b = l := ⟨_, rfl⟩
  rw [hll] at HS HAB HN HLen
  clear hll e0 hs
  obtain ⟨A1, c1, rfl, _, hl1⟩ := (HS.rd 0 rfl).val
  obtain ⟨g, rfl⟩ := HS.fixC HN.out.2.1
  go_wp2_with fail
  refine (sortSpans l g c1 HN.out.1 HS).mono ?_
  rintro e w2 ⟨rfl, l', hp, hso, H2⟩
  clear HS F
  have hpl : l'.length = l.length := hp.length_eq
  rw [← hpl] at H2 ⊢
  have HP := Lib.hid hp
  have HSo := Lib.hid hso
  have HPL := Lib.hid hpl
  clear hp hso hpl
  have hl2 : l'.length ≤ 4194304 := by rw [HPL.out]; exact HN.out.2.2
  have HS := (H2.lit ([] : List Sp) #[] 118 rfl rfl (by simp))
  clear H2
  have HNS := Lib.hid (show ∀ k, Ns ((l'.take k).foldl stp []) from fun k => (join_ns (l'.take k) [] ns_nil (fun s hs => HN.out.1 s (HP.out.mem_iff.1 (List.mem_of_mem_take hs))) (HSo.out.sublist (List.take_sublist _ _)) (by simp)).1)
  have HNS2 := Lib.hid (join_ns l' [] ns_nil (fun s hs => HN.out.1 s (HP.out.mem_iff.1 hs)) HSo.out (by simp))
  go_wp2
  go_loopw [6, 19] (fun q i wr => ∃ (k : Nat) (out : List Sp) (u : Value), k ≤ l'.length ∧ i = .int .i64 k ∧ q = u ∧ out.length ≤ k ∧ Own w [.own u out, .own (.slice (some ⟨g, 0, none⟩) l'.length c1) l', .box w.heap.size 116 [.slice A a.length c, .slice B b.length d]] wr ∧ out = (l'.take k).foldl stp []) (fun _ i _ => l'.length - (intOf i).toNat)
  case atStart => exact ⟨0, [], _, by omega, rfl, rfl, by simp, HS, rfl⟩
  case round =>
    obtain ⟨k, out, u, hk, rfl, rfl, hok, HS', ho⟩ := hrel
    have HO := Lib.hid ho
    clear ho HS
    by_cases hlt : k < l'.length
    · have HR := Lib.hid (HS'.rd 1 rfl)
      have r0 := Sp.rd HR.out k hlt
      simp only [Nat.zero_add] at r0
      have HT := Lib.hid (take_foldl l' k hlt)
      have hvs := HN.out.1 l'[k] (HP.out.mem_iff.1 (List.getElem_mem hlt))
      obtain ⟨s, hs⟩ : ∃ s, l'[k] = s := ⟨_, rfl⟩
      rw [hs] at r0 HT hvs
      clear hs
      obtain ⟨s1, s2, s3⟩ := hvs
      have HB := HS'.box (b := wr.heap.size) [.int .i64 s.f, .int .i64 s.t] 118
      obtain ⟨A0, c0, rfl, hc0, _⟩ := (HS'.rd 0 rfl).val
      have HT2 := HT.out
      rw [← HO.out] at HT2
      clear HT
      obtain ⟨n, hn⟩ : ∃ n, out.length = n := ⟨_, rfl⟩
      rw [hn] at HS' HB hok hc0 ⊢
      by_cases h0 : n = 0
      · rw [stp_none (by omega)] at HT2
        have HT2 := Lib.hid HT2
        have HX := Lib.hid (List.length_eq_zero_iff.1 (hn.trans h0))
        clear hn
        subst h0
        have hL : ∀ p : Ext (wr.alloc (.cells #[.int .i64 s.f, .int .i64 s.t] 118)), p.to.cell? ⟨wr.heap.size, 0, none⟩ = some (.int .i64 s.f) := fun p => by
          have F := (HB.of_below p.h).facts
          simp only [Own.Facts, Own.Cells, Nat.zero_add] at F
          exact F.1.1.1
        go_wp2
        (refine wp_region_ext (by kernel_rfl) (by kernel_rfl) ?_; (repeat (quiet_step (first | fail))); refine wpQuiet_nil ?_; rintro _ ⟨⟨w1, hw1⟩, rfl⟩)
        clear hL
        have HS := HB.of_below hw1
        have F := HS.facts; simp only [Own.Facts, Own.Cells, World.size_alloc, List.cons_append, List.nil_append, List.eraseIdx_cons_succ, List.eraseIdx_cons_zero, List.eraseIdx_zero, List.tail_cons, Nat.zero_add] at F
        have HL := (HS.lit [s] #[.int .i64 s.f, .int .i64 s.t] 118 rfl rfl (by simp)).pick 2 rfl
        simp only [List.eraseIdx_cons_succ, List.eraseIdx_cons_zero] at HL
        rw [HX.out] at HL
        go_wp2_with (refine wp_app2 (α := Sp) rfl _ _ 116 rfl (by kernel_rfl) _ _ HL rfl _ _ rfl (HL.rd 1 rfl) (by show (0 + 1) * 16 ≤ _; omega) (by show 0 + 1 ≤ _; omega) ?_; intro v5 q5 w5 hq5 hl5 H5)
        go_roundw
        case rel => exact ⟨k + 1, q5, v5, by omega, by go_num, rfl, by simp at hl5; omega, (((H5.pick 1 rfl).drop).pick 1 rfl).drop, by rw [HT2.out, hq5.out]; rfl⟩
        case measure => simp [intOf]; omega
      · obtain ⟨m, hmn⟩ : ∃ m, n = m + 1 := ⟨n - 1, by omega⟩
        have hpos : 0 < n := by omega
        have hmlt : m < n := by omega
        obtain ⟨g0, rfl⟩ := HS'.fixC (by omega)
        have hml : m < out.length := by omega
        have hla : out[m]? = some out[m] := List.getElem?_eq_getElem hml
        have hvl := (HNS.out k).2 out[m] (by rw [← HO.out]; exact List.getElem_mem hml)
        have hG : ∀ p : Ext (wr.alloc (.cells #[.int .i64 s.f, .int .i64 s.t] 118)), _ := fun p => (Sp.rd ((HB.of_below p.h).rd 1 rfl) m hml).2
        obtain ⟨last, hls⟩ : ∃ x, out[m] = x := ⟨_, rfl⟩
        rw [hls] at hla hvl
        simp only [hls, Nat.zero_add] at hG
        have HLS := Lib.hid hls
        clear hls
        obtain ⟨v1, v2, v3⟩ := hvl
        rw [stp_at (hn.trans hmn) hla] at HT2
        have hwm : IntKind.i64.wrap ((n : Int) - 1) = m := by simp only [IntKind.wrap, IntKind.bits, IntKind.signed]; simp; omega
        have hwt : IntKind.i64.wrap (last.t + 1) = last.t + 1 := by simp only [IntKind.wrap, IntKind.bits, IntKind.signed]; simp; omega
        have HNN := Lib.hid hn
        have HML := Lib.hid hml
        have HMN := Lib.hid hmn
        clear hn hla h0 hmn
        have hL : ∀ p : Ext (wr.alloc (.cells #[.int .i64 s.f, .int .i64 s.t] 118)), p.to.cell? ⟨wr.heap.size, 0, none⟩ = some (.int .i64 s.f) ∧ p.to.cell? ⟨wr.heap.size, 1, none⟩ = some (.int .i64 s.t) := fun p => by
          have F := (HB.of_below p.h).facts
          simp only [Own.Facts, Own.Cells, Nat.zero_add] at F
          exact ⟨F.1.1.1, F.1.1.2.1⟩
        by_cases hc : s.f ≤ last.t + 1
        · rw [if_pos hc] at HT2
          have HT2 := Lib.hid HT2
          go_wp2
          (refine wp_region_ext (by kernel_rfl) (by kernel_rfl) ?_; (repeat (quiet_step (first | fail))); refine wpQuiet_nil ?_; rintro _ ⟨⟨w1, hw1⟩, rfl⟩)
          clear hL hG
          have HS := HB.of_below hw1
          have F := HS.facts; simp only [Own.Facts, Own.Cells, World.size_alloc, List.cons_append, List.nil_append, List.eraseIdx_cons_succ, List.eraseIdx_cons_zero, List.eraseIdx_zero, List.tail_cons, Nat.zero_add] at F
          have hG := (Sp.rd (HS.rd 1 rfl) m HML.out).2
          rw [HLS.out] at hG
          simp only [Nat.zero_add] at hG
          have hfz := (HS.pick 1 rfl).rowc.2
          have hF1 := F.1.1.2.1
          have hF2 := hfz (m * 2 + 1)
          go_wp2
          go_region
          have hmx : (if last.t < s.t then s.t else last.t) = max last.t s.t := by split <;> omega
          rw [hmx] at HT2
          have HT3 := Lib.hid HT2.out
          have H5 := ((HS.pick 1 rfl).put m HML.out 1 (by decide) (.int .i64 (max last.t s.t)) ⟨last.f, max last.t s.t⟩ (by rw [HLS.out]; rfl)).drew
          clear hmx hG hfz hF1 hF2 HT2
          go_wp2
          go_roundw
          case rel => exact ⟨k + 1, _, _, by omega, by go_num, rfl, by have := HNN.out; rw [List.length_set]; omega, (H5.pick 1 rfl).drop, HT3.out.symm⟩
          case measure => simp [intOf]; omega
        · rw [if_neg hc] at HT2
          have HT2 := Lib.hid HT2
          go_wp2
          (refine wp_region_ext (by kernel_rfl) (by kernel_rfl) ?_; (repeat (quiet_step (first | fail))); refine wpQuiet_nil ?_; rintro _ ⟨⟨w1, hw1⟩, rfl⟩)
          clear hL hG
          have HS := HB.of_below hw1
          have F := HS.facts; simp only [Own.Facts, Own.Cells, World.size_alloc, List.cons_append, List.nil_append, List.eraseIdx_cons_succ, List.eraseIdx_cons_zero, List.eraseIdx_zero, List.tail_cons, Nat.zero_add] at F
          have HL := (HS.lit [s] #[.int .i64 s.f, .int .i64 s.t] 118 rfl rfl (by simp)).pick 2 rfl
          simp only [List.eraseIdx_cons_succ, List.eraseIdx_cons_zero] at HL
          have hol : out.length ≤ 4194304 := by have := HNN.out; omega
          go_wp2_with (refine wp_app2 (α := Sp) rfl _ _ 116 rfl (by kernel_rfl) _ _ HL rfl _ _ rfl (HL.rd 1 rfl) (by show (_ + 1) * 16 ≤ _; omega) (by show _ + 1 ≤ _; omega) ?_; intro v5 q5 w5 hq5 hl5 H5)
          go_roundw
          case rel => exact ⟨k + 1, q5, v5, by omega, by go_num, rfl, by have := HNN.out; simp at hl5; omega, (((H5.pick 1 rfl).drop).pick 1 rfl).drop, by rw [HT2.out, hq5.out]⟩
          case measure => simp [intOf]; omega
    · obtain rfl : k = l'.length := by omega
      rw [List.take_length] at HO
      have HFIN := Lib.hid (HNS2.out)
      obtain ⟨A0, c0, rfl, _, _⟩ := (HS'.rd 0 rfl).val
      go_wp2
      go_ret
      refine ⟨_, out, rfl, HS'.only, ?_, fun q => ?_, ?_⟩
      · rw [HO.out]; exact HFIN.out.1
      · rw [HO.out, HFIN.out.2 q, ← HAB.out q, spIn_perm HP.out q]
        exact ⟨fun h => h.elim (fun h => absurd h (spIn_nil q)) id, .inr⟩
      · have := HLen.out; have := HPL.out; omega
end Go.Proofs.Ytgfgkbmebdaieaa
