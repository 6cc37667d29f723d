/- Spans of one replica, sorted by the library. Spans put behind one another by the library. Spans of one replica, joined: the program's merged. -/
import Derived.Test.YtkafflbakgkpcaaGreatM1
import Derived.Test.YtkafflbakgkpcaaGreatL3
import Derived.Test.YtkafflbakgkpcaaGreatL2
import Derived.Shelf.Lay
import Derived.Ground.SlsfProg
import Derived.Test.YtkafflbakgkpcaaGreatL1
namespace Go.Proofs
set_option linter.unusedSimpArgs false
set_option linter.unusedVariables false
open Go.Shelf
shelf_lay_g SlLaysF0.n6 Slsf 6 at Tryz 96 as Tryz.sortSp
end Go.Proofs
namespace Go.Proofs.YtkafflbakgkpcaaGreat
set_option linter.unusedSimpArgs false
set_option linter.unusedVariables false
open Go.RowKit Go.Ow Go.Sort Go.Lib Go.Shelf
attribute [local irreducible] wpQuiet
set_option maxRecDepth 100000
theorem mergedCmp (x y : Sp) (W : World) : Calls Tryz.prog 97 #[.agg #[.int .i64 x.f, .int .i64 x.t], .agg #[.int .i64 y.f, .int .i64 y.t]] W fun e w' => e = .returned (.int .i64 (wrap64 (x.f - y.f))) ∧ ∃ q os', w' = grow (W.drewN q) os' := by
  go_enter Tryz.func97, Tryz.ntmps97
  go_wp2
  go_ret
  exact ⟨rfl, 0, _, by rw [alloc_eq_grow, alloc_eq_grow, grow_grow]; rfl⟩
/-- A span as the sort sees it: its From is a sequence number. -/
abbrev SV := { s : Sp // 1 ≤ s.f ∧ s.f ≤ 1000000000 }
instance : Inhabited SV := ⟨⟨⟨1, 1⟩, by decide⟩⟩
def encV (x : SV) : List Value := [.int .i64 x.1.f, .int .i64 x.1.t]
def cfV (x y : SV) : Int := x.1.f - y.1.f
theorem ltV (x y : SV) : ltOf cfV x y = decide (x.1.f < y.1.f) := by
  unfold ltOf cfV
  rw [Bool.eq_iff_iff]; simp; omega
theorem swoV : SWO (ltOf cfV) where
  irrefl x := by rw [ltV]; simp
  trans x y z h1 h2 := by rw [ltV] at *; simp at *; omega
  ntrans x y z h1 h2 := by rw [ltV] at *; simp at *; omega
theorem cmpV (blk off size : Nat) (w : World) : CmpLays Tryz.prog 97 #[] encV 2 cfV blk off size w :=
  fun m os dk _ x y => by
    have h := mergedCmp x.1 y.1 (sortWorldK encV 2 w blk off m dk os)
    have e : wrap64 (x.1.f - y.1.f) = cfV x y := by have := x.2; have := y.2; unfold cfV wrap64; omega
    rw [e] at h
    exact h
theorem sortSpans {W w : World} {R : List Ds} (l : List Sp) (g cap : Nat) (hl : ∀ s ∈ l, Vs s) (HS : Own W (.own (.slice (some ⟨g, 0, none⟩) l.length cap) l :: R) w) :
    Calls Tryz.prog 96 #[.slice (some ⟨g, 0, none⟩) l.length cap, .func (.func 97) #[] #[]] w fun e w' => e = .returned (.tuple #[]) ∧ ∃ l' : List Sp, l'.Perm l ∧ l'.Pairwise (fun a b => a.f ≤ b.f) ∧ Own W (.own (.slice (some ⟨g, 0, none⟩) l.length cap) l' :: R) w' := by
  obtain ⟨_, _, _, _, hbig⟩ := (HS.rd 0 rfl).val
  have hv : ∀ s ∈ l, 1 ≤ s.f ∧ s.f ≤ 1000000000 := fun s hs => by have := hl s hs; unfold Vs at this; omega
  obtain ⟨d, hd⟩ : ∃ d : Array SV, d.toList.map (fun x => x.1) = l := ⟨(l.pmap (fun s h => (⟨s, h⟩ : SV)) hv).toArray, by simp [List.map_pmap]⟩
  have hsz : d.size = l.length := by rw [← hd]; simp
  obtain ⟨hh, hlt⟩ := HS.holdsK (enc := encV) (toA := fun x : SV => x.1) (fun x => rfl) d hd
  have eg : ∀ args w, (callFunc 97 args).run Tryz.prog w = .ok (.enter 97 args) w := enters_of Tryz.func97 (by kernel_rfl) rfl
  have hcon := AnyQ.slices_SortFunc Tryz.sortSp 2 (by intro w; kernel_rfl) (by intro w; kernel_rfl) encV (fun _ => rfl) (fun x v hv => by simp [encV] at hv; rcases hv with rfl | rfl <;> rfl) cfV swoV 97 #[] g 0 cap d w eg (cmpV g 0 d.size w) hh hlt (by omega)
  rw [hsz] at hcon
  change Calls Tryz.prog 96 _ _ _ at hcon
  refine hcon.mono ?_
  rintro e w' ⟨rfl, d', n, os, ⟨hs', _, hp⟩, hso, rfl⟩
  refine ⟨rfl, d'.toList.map (fun x => x.1), ?_, ?_, HS.sorted (enc := encV) (toA := fun x : SV => x.1) (fun x => rfl) d' (by omega) n os⟩
  · rw [← hd]
    refine List.Perm.map _ ?_
    have e1 : (d'.extract 0 d.size) = d' := by rw [← hs']; simp
    have e2 : (d.extract 0 d.size) = d := by simp
    rw [hsz] at hs'
    rw [← hsz, e1, e2] at hp
    exact hp
  · rw [List.pairwise_map]
    rw [List.pairwise_iff_getElem]
    intro i j hi hj hij
    have := hso i j (Nat.zero_le _) hij (by simp at hj; omega)
    rw [ltV, getElem!_pos d' j (by simpa using hj), getElem!_pos d' i (by simpa using hi)] at this
    simp at this ⊢
    omega
end Go.Proofs.YtkafflbakgkpcaaGreat
namespace Go.Proofs.YtkafflbakgkpcaaGreat
set_option linter.unusedSimpArgs false
set_option linter.unusedVariables false
open Go.RowKit Go.Ow
attribute [local irreducible] wpQuiet
set_option maxRecDepth 100000
theorem growSp (n : Nat) (hn : n ≤ 4194304) (w : World) : Calls Tryz.prog 101 #[.slice none 0 0, .int .i64 n] w fun e w' => ∃ v, e = .returned v ∧ Own w [.own v ([] : List Sp)] w' := by
  have HS := Own.start w
  by_cases h0 : 0 < n
  · go_enter Tryz.func101, Tryz.ntmps101
    go_wp2_with (refine wp_growz (α := Sp) rfl _ _ 114 3 rfl (by kernel_rfl) (by kernel_rfl) HS rfl n (by first | rfl | go_num) h0 hn (by show 16 ≤ 1000; omega) ?_; intro w1 cap hc HS1)
    go_ret
    exact ⟨_, rfl, HS1⟩
  · obtain rfl : n = 0 := by omega
    go_enter Tryz.func101, Tryz.ntmps101
    go_wp2
    go_ret
    exact ⟨_, rfl, HS.nil⟩
theorem Ll.rd {w : World} {b o n c : Nat} {ls : List (List Sp)} (h : Rd w (.slice (some ⟨b, o, none⟩) n c) ls) (i : Nat) (hi : i < ls.length) : ∃ v, Rd w v ls[i] ∧ w.cell? ⟨b, o + i, none⟩ = some v := by
  obtain ⟨cs, ⟨v, rfl, hr⟩, hc⟩ := rd_elem h i hi
  refine ⟨v, hr, ?_⟩
  have := hc 0 (show 0 < 1 by decide)
  rw [show o + i * Cd.z (List Sp) + 0 = o + i by show o + i * 1 + 0 = _; omega] at this
  exact this
theorem flat_take (ls : List (List Sp)) (k : Nat) (h : k < ls.length) : (ls.take (k + 1)).flatten = (ls.take k).flatten ++ ls[k] := by
  rw [List.take_succ_eq_append_getElem h, List.flatten_append, List.flatten_cons, List.flatten_nil, List.append_nil]
theorem flat_take_len (ls : List (List Sp)) (k : Nat) : (ls.take k).flatten.length ≤ ls.flatten.length := by
  conv => rhs; rw [← List.take_append_drop k ls, List.flatten_append, List.length_append]
  omega
theorem concatSp (ls : List (List Sp)) (v : Value) (w : World) (hv : Rd w v ls) (hn : ls.flatten.length ≤ 4194304) : Calls Tryz.prog 95 #[v] w fun e w' => ∃ v', e = .returned v' ∧ Own w [.own v' ls.flatten] w' := by
  obtain ⟨A, c, rfl, hc, hl⟩ := hv.val
  have HS := Own.start w
  go_enter Tryz.func95, Tryz.ntmps95
  go_wp2
  go_loopw [3, 11] (fun q i wr => ∃ k : Nat, k ≤ ls.length ∧ i = .int .i64 k ∧ q = .int .i64 ((ls.take k).flatten.length : Nat) ∧ Own w [] wr) (fun _ i _ => ls.length - (intOf i).toNat)
  case atStart => exact ⟨0, by omega, rfl, rfl, HS⟩
  case round =>
    obtain ⟨k, hk, rfl, rfl, HS'⟩ := hrel
    by_cases hlt : k < ls.length
    · obtain ⟨b, o, rfl⟩ := hv.fix (by omega)
      obtain ⟨vx, hr, hcell⟩ := Ll.rd (HS'.old hv) k hlt
      obtain ⟨A1, c1, rfl, _, _⟩ := hr.val
      have h1 := flat_take_len ls k
      have h2 := flat_take_len ls (k + 1)
      have h3 : (ls.take (k + 1)).flatten.length = (ls.take k).flatten.length + ls[k].length := by rw [flat_take ls k hlt, List.length_append]
      obtain ⟨x, hx⟩ : ∃ x, (ls.take k).flatten.length = x := ⟨_, rfl⟩
      obtain ⟨y, hy⟩ : ∃ y, ls[k].length = y := ⟨_, rfl⟩
      obtain ⟨z, hz⟩ : ∃ z, (ls.take (k + 1)).flatten.length = z := ⟨_, rfl⟩
      rw [hy] at hr hcell
      rw [hx, hy, hz] at h3
      rw [hz] at h2
      rw [hx] at h1 ⊢
      have HZ := Lib.hid hz
      clear hx hy hz
      have h4 : x + y ≤ 4194304 := by omega
      have H3 := Lib.hid h3
      clear h1 h2 h3
      go_wp2
      go_roundw
      case rel => exact ⟨k + 1, by omega, by go_num, by rw [HZ.out, H3.out]; go_num, HS'⟩
      case measure => simp [intOf]; omega
    · obtain rfl : k = ls.length := by omega
      obtain ⟨n, hnn⟩ : ∃ n, ls.flatten.length = n := ⟨_, rfl⟩
      rw [List.take_length, hnn]
      rw [hnn] at hn
      have HN := Lib.hid hnn
      clear hnn
      go_wp2_with fail
      refine (growSp n hn _).mono ?_
      rintro e w2 ⟨v2, rfl, hs⟩
      have H2 := HS'.call1 hs
      obtain ⟨A2, c2, rfl, _, _⟩ := (hs.rd 0 rfl).val
      go_wp2
      go_loopw [6, 27] (fun q i wr => ∃ (k : Nat) (u : Value), k ≤ ls.length ∧ i = .int .i64 k ∧ q = u ∧ Own w [.own u (ls.take k).flatten] wr) (fun _ i _ => ls.length - (intOf i).toNat)
      case atStart => exact ⟨0, _, by omega, rfl, rfl, H2⟩
      case round =>
        obtain ⟨k, u, hk2, rfl, rfl, HS3⟩ := hrel
        obtain ⟨A3, c3, rfl, _, _⟩ := (HS3.rd 0 rfl).val
        by_cases hlt : k < ls.length
        · obtain ⟨b, o, rfl⟩ := hv.fix (by omega)
          obtain ⟨vx, hr, hcell⟩ := Ll.rd (HS3.old hv) k hlt
          obtain ⟨A1, c1, rfl, _, _⟩ := hr.val
          have h2 := flat_take_len ls (k + 1)
          rw [flat_take ls k hlt, List.length_append, HN.out] at h2
          have HF := Lib.hid (flat_take ls k hlt)
          obtain ⟨xs, hxs⟩ : ∃ xs, (ls.take k).flatten = xs := ⟨_, rfl⟩
          obtain ⟨ys, hys⟩ : ∃ ys, ls[k] = ys := ⟨_, rfl⟩
          rw [hxs, hys] at HF h2
          rw [hxs] at HS3 ⊢
          rw [hys] at hr hcell
          clear hxs hys
          go_wp2_with (refine wp_app2 (α := Sp) rfl _ _ 114 rfl (by kernel_rfl) _ _ HS3 rfl _ _ rfl hr (by show (_ + _) * 16 ≤ _; omega) (by omega) ?_; intro v5 q5 w5 hq5 hl5 H5)
          go_roundw
          case rel => exact ⟨k + 1, v5, by omega, by go_num, rfl, by rw [HF.out, ← hq5.out]; exact H5⟩
          case measure => simp [intOf]; omega
        · obtain rfl : k = ls.length := by omega
          rw [List.take_length] at HS3 ⊢
          go_wp2
          go_ret
          exact ⟨_, rfl, HS3⟩
end Go.Proofs.YtkafflbakgkpcaaGreat
namespace Go.Proofs.YtkafflbakgkpcaaGreat
set_option linter.unusedSimpArgs false
set_option linter.unusedVariables false
open Go.RowKit Go.Ow
attribute [local irreducible] wpQuiet
set_option maxRecDepth 100000
theorem rd_two {w : World} {g : Nat} {va vb : Value} {a b : List Sp} (h0 : w.cell? ⟨g, 0, none⟩ = some va) (h1 : w.cell? ⟨g, 1, none⟩ = some vb) (ha : Rd w va a) (hb : Rd w vb b) : Rd w (.slice (some ⟨g, 0, none⟩) 2 2) [a, b] := by
  refine ⟨_, 2, rfl, by simp, by simp [maxLen], by simp, by simp, fun i hi => ?_⟩
  match i, hi with
  | 0, _ => exact ⟨g, 0, [va], rfl, ⟨va, rfl, ha⟩, fun j hj => by
      obtain rfl : j = 0 := by have : j < 1 := hj; omega
      simpa using h0⟩
  | 1, _ => exact ⟨g, 0, [vb], rfl, ⟨vb, rfl, hb⟩, fun j hj => by
      obtain rfl : j = 0 := by have : j < 1 := hj; omega
      have e : (⟨g, 0 + 1 * Cd.z (List Sp) + 0, none⟩ : Addr) = ⟨g, 1, none⟩ := by show (⟨g, 0 + 1 * 1 + 0, none⟩ : Addr) = _; simp
      rw [e]; simpa using h1⟩
theorem take_foldl (l : List Sp) (k : Nat) (h : k < l.length) : (l.take (k + 1)).foldl stp [] = stp ((l.take k).foldl stp []) l[k] := by
  rw [List.take_succ_eq_append_getElem h, List.foldl_append]; rfl
theorem stp_at {out : List Sp} {m : Nat} {last s : Sp} (hm : out.length = m + 1) (hl : out[m]? = some last) : stp out s = if s.f ≤ last.t + 1 then out.set m ⟨last.f, if last.t < s.t then s.t else last.t⟩ else out ++ [s] := by
  unfold stp
  rw [hm]
  simp [hl]
theorem stp_none {out : List Sp} {s : Sp} (hm : out.length = 0) : stp out s = [s] := by
  rw [List.length_eq_zero_iff.1 hm]; rfl
set_option maxHeartbeats 4000000 in
theorem mergedSp (a b : List Sp) (va vb : Value) (w : World) (ha : Rd w va a) (hb : Rd w vb b) (na : Ns a) (nb : Ns b) (hb0 : b ≠ []) (hl : a.length + b.length ≤ 4194304) :
    Calls Tryz.prog 87 #[va, vb] w fun e w' => ∃ (v : Value) (out : List Sp), e = .returned v ∧ Own w [.own v out] w' ∧ Ns out ∧ (∀ q, SpIn out q ↔ SpIn a q ∨ SpIn b q) ∧ out.length ≤ a.length + b.length := by
  obtain ⟨A, c, rfl, _, hal⟩ := ha.val
  obtain ⟨B, d, rfl, _, hbl⟩ := hb.val
  have HN := Lib.hid (show (∀ s ∈ a ++ b, Vs s) ∧ 0 < (a ++ b).length ∧ (a ++ b).length ≤ 4194304 from ⟨fun s hs => by
    rcases List.mem_append.1 hs with h | h
    · exact na.2 s h
    · exact nb.2 s h, by rw [List.length_append]; have := List.length_pos_iff.2 hb0; omega, by rw [List.length_append]; exact hl⟩)
  have HS := (Own.start w).box [.slice A a.length c, .slice B b.length d] 114
  have F := HS.facts
  simp only [Own.Facts, Own.Cells, Nat.zero_add] at F
  have hr2 := rd_two F.1.1.1 F.1.1.2.1 (HS.old ha) (HS.old hb)
  clear F na nb hb0
  go_enter Tryz.func87, Tryz.ntmps87
  go_wp2_with fail
  refine (concatSp [a, b] _ _ hr2 (by simpa using hl)).mono ?_; rintro e w1 ⟨v1, rfl, hs⟩; (first | have H' := HS.call1 hs | have H' := HS.drew.call1 hs | have H' := (HS.box0 [_] _).call1 hs | have H' := ((HS.box0 [_] _).box0 [_] _).call1 hs | have H' := (HS.alloc _).call1 hs | have H' := ((HS.alloc _).alloc _).call1 hs); clear HS; have HS := H'; clear H'; have F := HS.facts; simp only [Own.Facts, Own.Cells, World.size_alloc, List.cons_append, List.nil_append, List.eraseIdx_cons_succ, List.eraseIdx_cons_zero, List.eraseIdx_zero, List.tail_cons, Nat.zero_add] at F
  clear hr2
  have e0 : [a, b].flatten = a ++ b := by simp
  rw [e0] at HS
  have HAB := Lib.hid (show ∀ q, SpIn (a ++ b) q ↔ SpIn a q ∨ SpIn b q from fun q => spIn_app a b q)
  have HLen := Lib.hid (show (a ++ b).length = a.length + b.length from List.length_append)
  obtain ⟨l, hll⟩ : ∃ l, a ++ b = l := ⟨_, rfl⟩
  rw [hll] at HS HAB HN HLen
  clear hll e0 hs
  obtain ⟨A1, c1, rfl, _, hl1⟩ := (HS.rd 0 rfl).val
  obtain ⟨g, rfl⟩ := HS.fixC HN.out.2.1
  go_wp2_with fail
  refine (sortSpans l g c1 HN.out.1 HS).mono ?_
  rintro e w2 ⟨rfl, l', hp, hso, H2⟩
  clear HS F
  have hpl : l'.length = l.length := hp.length_eq
  rw [← hpl] at H2 ⊢
  have HP := Lib.hid hp
  have HSo := Lib.hid hso
  have HPL := Lib.hid hpl
  clear hp hso hpl
  have hl2 : l'.length ≤ 4194304 := by rw [HPL.out]; exact HN.out.2.2
  have HS := (H2.lit ([] : List Sp) #[] 116 rfl rfl (by simp))
  clear H2
  have HNS := Lib.hid (show ∀ k, Ns ((l'.take k).foldl stp []) from fun k => (join_ns (l'.take k) [] ns_nil (fun s hs => HN.out.1 s (HP.out.mem_iff.1 (List.mem_of_mem_take hs))) (HSo.out.sublist (List.take_sublist _ _)) (by simp)).1)
  have HNS2 := Lib.hid (join_ns l' [] ns_nil (fun s hs => HN.out.1 s (HP.out.mem_iff.1 hs)) HSo.out (by simp))
  go_wp2
  go_loopw [6, 19] (fun q i wr => ∃ (k : Nat) (out : List Sp) (u : Value), k ≤ l'.length ∧ i = .int .i64 k ∧ q = u ∧ out.length ≤ k ∧ Own w [.own u out, .own (.slice (some ⟨g, 0, none⟩) l'.length c1) l', .box w.heap.size 114 [.slice A a.length c, .slice B b.length d]] wr ∧ out = (l'.take k).foldl stp []) (fun _ i _ => l'.length - (intOf i).toNat)
  case atStart => exact ⟨0, [], _, by omega, rfl, rfl, by simp, HS, rfl⟩
  case round =>
    obtain ⟨k, out, u, hk, rfl, rfl, hok, HS', ho⟩ := hrel
    have HO := Lib.hid ho
    clear ho HS
    by_cases hlt : k < l'.length
    · have HR := Lib.hid (HS'.rd 1 rfl)
      have r0 := Sp.rd HR.out k hlt
      simp only [Nat.zero_add] at r0
      have HT := Lib.hid (take_foldl l' k hlt)
      have hvs := HN.out.1 l'[k] (HP.out.mem_iff.1 (List.getElem_mem hlt))
      obtain ⟨s, hs⟩ : ∃ s, l'[k] = s := ⟨_, rfl⟩
      rw [hs] at r0 HT hvs
      clear hs
      obtain ⟨s1, s2, s3⟩ := hvs
      have HB := HS'.box (b := wr.heap.size) [.int .i64 s.f, .int .i64 s.t] 116
      obtain ⟨A0, c0, rfl, hc0, _⟩ := (HS'.rd 0 rfl).val
      have HT2 := HT.out
      rw [← HO.out] at HT2
      clear HT
      obtain ⟨n, hn⟩ : ∃ n, out.length = n := ⟨_, rfl⟩
      rw [hn] at HS' HB hok hc0 ⊢
      by_cases h0 : n = 0
      · rw [stp_none (by omega)] at HT2
        have HT2 := Lib.hid HT2
        have HX := Lib.hid (List.length_eq_zero_iff.1 (hn.trans h0))
        clear hn
        subst h0
        have hL : ∀ p : Ext (wr.alloc (.cells #[.int .i64 s.f, .int .i64 s.t] 116)), p.to.cell? ⟨wr.heap.size, 0, none⟩ = some (.int .i64 s.f) := fun p => by
          have F := (HB.of_below p.h).facts
          simp only [Own.Facts, Own.Cells, Nat.zero_add] at F
          exact F.1.1.1
        go_wp2
        (refine wp_region_ext (by kernel_rfl) (by kernel_rfl) ?_; (repeat (quiet_step (first | fail))); refine wpQuiet_nil ?_; rintro _ ⟨⟨w1, hw1⟩, rfl⟩)
        clear hL
        have HS := HB.of_below hw1
        have F := HS.facts; simp only [Own.Facts, Own.Cells, World.size_alloc, List.cons_append, List.nil_append, List.eraseIdx_cons_succ, List.eraseIdx_cons_zero, List.eraseIdx_zero, List.tail_cons, Nat.zero_add] at F
        have HL := (HS.lit [s] #[.int .i64 s.f, .int .i64 s.t] 116 rfl rfl (by simp)).pick 2 rfl
        simp only [List.eraseIdx_cons_succ, List.eraseIdx_cons_zero] at HL
        rw [HX.out] at HL
        go_wp2_with (refine wp_app2 (α := Sp) rfl _ _ 114 rfl (by kernel_rfl) _ _ HL rfl _ _ rfl (HL.rd 1 rfl) (by show (0 + 1) * 16 ≤ _; omega) (by show 0 + 1 ≤ _; omega) ?_; intro v5 q5 w5 hq5 hl5 H5)
        go_roundw
        case rel => exact ⟨k + 1, q5, v5, by omega, by go_num, rfl, by simp at hl5; omega, (((H5.pick 1 rfl).drop).pick 1 rfl).drop, by rw [HT2.out, hq5.out]; rfl⟩
        case measure => simp [intOf]; omega
      · obtain ⟨m, hmn⟩ : ∃ m, n = m + 1 := ⟨n - 1, by omega⟩
        have hpos : 0 < n := by omega
        have hmlt : m < n := by omega
        obtain ⟨g0, rfl⟩ := HS'.fixC (by omega)
        have hml : m < out.length := by omega
        have hla : out[m]? = some out[m] := List.getElem?_eq_getElem hml
        have hvl := (HNS.out k).2 out[m] (by rw [← HO.out]; exact List.getElem_mem hml)
        have hG : ∀ p : Ext (wr.alloc (.cells #[.int .i64 s.f, .int .i64 s.t] 116)), _ := fun p => (Sp.rd ((HB.of_below p.h).rd 1 rfl) m hml).2
        obtain ⟨last, hls⟩ : ∃ x, out[m] = x := ⟨_, rfl⟩
        rw [hls] at hla hvl
        simp only [hls, Nat.zero_add] at hG
        have HLS := Lib.hid hls
        clear hls
        obtain ⟨v1, v2, v3⟩ := hvl
        rw [stp_at (hn.trans hmn) hla] at HT2
        have hwm : IntKind.i64.wrap ((n : Int) - 1) = m := by simp only [IntKind.wrap, IntKind.bits, IntKind.signed]; simp; omega
        have hwt : IntKind.i64.wrap (last.t + 1) = last.t + 1 := by simp only [IntKind.wrap, IntKind.bits, IntKind.signed]; simp; omega
        have HNN := Lib.hid hn
        have HML := Lib.hid hml
        have HMN := Lib.hid hmn
        clear hn hla h0 hmn
        have hL : ∀ p : Ext (wr.alloc (.cells #[.int .i64 s.f, .int .i64 s.t] 116)), p.to.cell? ⟨wr.heap.size, 0, none⟩ = some (.int .i64 s.f) ∧ p.to.cell? ⟨wr.heap.size, 1, none⟩ = some (.int .i64 s.t) := fun p => by
          have F := (HB.of_below p.h).facts
          simp only [Own.Facts, Own.Cells, Nat.zero_add] at F
          exact ⟨F.1.1.1, F.1.1.2.1⟩
        by_cases hc : s.f ≤ last.t + 1
        · rw [if_pos hc] at HT2
          have HT2 := Lib.hid HT2
          go_wp2
          (refine wp_region_ext (by kernel_rfl) (by kernel_rfl) ?_; (repeat (quiet_step (first | fail))); refine wpQuiet_nil ?_; rintro _ ⟨⟨w1, hw1⟩, rfl⟩)
          clear hL hG
          have HS := HB.of_below hw1
          have F := HS.facts; simp only [Own.Facts, Own.Cells, World.size_alloc, List.cons_append, List.nil_append, List.eraseIdx_cons_succ, List.eraseIdx_cons_zero, List.eraseIdx_zero, List.tail_cons, Nat.zero_add] at F
          have hG := (Sp.rd (HS.rd 1 rfl) m HML.out).2
          rw [HLS.out] at hG
          simp only [Nat.zero_add] at hG
          have hfz := (HS.pick 1 rfl).rowc.2
          have hF1 := F.1.1.2.1
          have hF2 := hfz (m * 2 + 1)
          go_wp2
          go_region
          have hmx : (if last.t < s.t then s.t else last.t) = max last.t s.t := by split <;> omega
          rw [hmx] at HT2
          have HT3 := Lib.hid HT2.out
          have H5 := ((HS.pick 1 rfl).put m HML.out 1 (by decide) (.int .i64 (max last.t s.t)) ⟨last.f, max last.t s.t⟩ (by rw [HLS.out]; rfl)).drew
          clear hmx hG hfz hF1 hF2 HT2
          go_wp2
          go_roundw
          case rel => exact ⟨k + 1, _, _, by omega, by go_num, rfl, by have := HNN.out; rw [List.length_set]; omega, (H5.pick 1 rfl).drop, HT3.out.symm⟩
          case measure => simp [intOf]; omega
        · rw [if_neg hc] at HT2
          have HT2 := Lib.hid HT2
          go_wp2
          (refine wp_region_ext (by kernel_rfl) (by kernel_rfl) ?_; (repeat (quiet_step (first | fail))); refine wpQuiet_nil ?_; rintro _ ⟨⟨w1, hw1⟩, rfl⟩)
          clear hL hG
          have HS := HB.of_below hw1
          have F := HS.facts; simp only [Own.Facts, Own.Cells, World.size_alloc, List.cons_append, List.nil_append, List.eraseIdx_cons_succ, List.eraseIdx_cons_zero, List.eraseIdx_zero, List.tail_cons, Nat.zero_add] at F
          have HL := (HS.lit [s] #[.int .i64 s.f, .int .i64 s.t] 116 rfl rfl (by simp)).pick 2 rfl
          simp only [List.eraseIdx_cons_succ, List.eraseIdx_cons_zero] at HL
          have hol : out.length ≤ 4194304 := by have := HNN.out; omega
          go_wp2_with (refine wp_app2 (α := Sp) rfl _ _ 114 rfl (by kernel_rfl) _ _ HL rfl _ _ rfl (HL.rd 1 rfl) (by show (_ + 1) * 16 ≤ _; omega) (by show _ + 1 ≤ _; omega) ?_; intro v5 q5 w5 hq5 hl5 H5)
          go_roundw
          case rel => exact ⟨k + 1, q5, v5, by omega, by go_num, rfl, by have := HNN.out; simp at hl5; omega, (((H5.pick 1 rfl).drop).pick 1 rfl).drop, by rw [HT2.out, hq5.out]⟩
          case measure => simp [intOf]; omega
    · obtain rfl : k = l'.length := by omega
      rw [List.take_length] at HO
      have HFIN := Lib.hid (HNS2.out)
      obtain ⟨A0, c0, rfl, _, _⟩ := (HS'.rd 0 rfl).val
      go_wp2
      go_ret
      refine ⟨_, out, rfl, HS'.only, ?_, fun q => ?_, ?_⟩
      · rw [HO.out]; exact HFIN.out.1
      · rw [HO.out, HFIN.out.2 q, ← HAB.out q, spIn_perm HP.out q]
        exact ⟨fun h => h.elim (fun h => absurd h (spIn_nil q)) id, .inr⟩
      · have := HLen.out; have := HPL.out; omega
end Go.Proofs.YtkafflbakgkpcaaGreat
