/- HasDot: the search, the program's side. -/
import Derived.Test.YtkafflbakgkpcaaGreatM1
import Derived.Test.YtkafflbakgkpcaaGreatL2
/-FM-/
namespace Go.Proofs.YtkafflbakgkpcaaGreat
set_option linter.unusedSimpArgs false
set_option linter.unusedVariables false
open Go.RowKit Go.Ow
attribute [local irreducible] wpQuiet
set_option maxRecDepth 100000
theorem hasCmp (s : Sp) (seq : Int) (w : World) : Calls Tryz.prog 83 #[.agg #[.int .i64 s.f, .int .i64 s.t], .int .i64 seq] w fun e w' => e = .returned (.int .i64 (wrap64 (s.t - seq))) ∧ Below w.heap.size w w' := by
  go_enter Tryz.func83, Tryz.ntmps83
  go_wp2
  all_goals
    go_ret
    exact ⟨rfl, ((Own.start w).alloc _).below⟩
theorem bsearch (l : List Sp) (seq : Int) (v : Value) (w : World) (hv : Rd w v l) (hb : ∀ i (hi : i < l.length), 1 ≤ l[i].t ∧ l[i].t ≤ 1000000000) (hup : ∀ i j (hi : i < l.length) (hj : j < l.length), i < j → l[i].t < l[j].t) (hsq : seq ≤ 9223372036854775807) :
    Calls Tryz.prog 82 #[v, .int .i64 seq, .func (.func 83) #[] #[]] w fun e w' => (∃ (i : Nat) (f : Bool), e = .returned (.tuple #[.int .i64 i, .bool f]) ∧ i ≤ l.length ∧ (1 ≤ seq → ∀ j (hj : j < l.length), (j < i → l[j].t < seq) ∧ (i ≤ j → seq ≤ l[j].t))) ∧ Below w.heap.size w w' := by
  obtain ⟨A, c, rfl, hc, hl⟩ := hv.val
  have HS := Own.start w
  have HU := Lib.hid hup
  have HB := Lib.hid hb
  have HSQ := Lib.hid hsq
  clear hup hb hsq
  go_enter Tryz.func82, Tryz.ntmps82
  go_wp2
  go_loopw [9, 10] (fun i j wr => ∃ a b : Nat, a ≤ b ∧ b ≤ l.length ∧ i = .int .i64 a ∧ j = .int .i64 b ∧ Own w [] wr ∧ (1 ≤ seq → ∀ j (hj : j < l.length), (j < a → l[j].t < seq) ∧ (b ≤ j → seq ≤ l[j].t))) (fun i j _ => (intOf j).toNat - (intOf i).toNat)
  case atStart => exact ⟨0, l.length, by omega, by omega, rfl, rfl, HS, fun _ j hj => ⟨fun h => by omega, fun h => by omega⟩⟩
  case round =>
    obtain ⟨a, b, hab, hbl, rfl, rfl, HS', hinv⟩ := hrel
    have HI := Lib.hid hinv
    clear hinv HS
    by_cases hlt : a < b
    · obtain ⟨b0, o, rfl⟩ := hv.fix (by omega)
      obtain ⟨m, hm⟩ : ∃ m, (a + b) / 2 = m := ⟨_, rfl⟩
      have hmi : ((a : Int) + b) / 2 = (m : Int) := by omega
      have hm1 : a ≤ m := by omega
      have hm2 : m < b := by omega
      have r0 := Sp.rd (HS'.old hv) m (by omega)
      have e0 := Lib.hid hm
      have e1 := Lib.hid hmi
      obtain ⟨z, hz⟩ : ∃ z, wrap64 (l[m].t - seq) = z := ⟨_, rfl⟩
      have HZ := Lib.hid hz
      by_cases h0 : z < 0
      · go_wp2_with fail
        refine (hasCmp l[m] seq _).mono ?_
        rintro e w2 ⟨rfl, hb2⟩
        rw [HZ.out]
        have HS2 := HS'.of_below hb2
        go_wp2
        have hn : 1 ≤ seq → l[m].t < seq := fun hs => by
          have := HB.out m (by omega)
          have h1 := HZ.out
          unfold wrap64 at h1; omega
        go_roundw
        case rel => exact ⟨m + 1, b, by omega, by omega, by go_num, rfl, HS2, fun hs j hj => ⟨fun hjm => by
          rcases Nat.lt_or_ge j m with hlt' | hge
          · have := HU.out j m hj (by omega) hlt'; have := hn hs; omega
          · obtain rfl : j = m := by omega
            exact hn hs, fun hbj => (HI.out hs j hj).2 hbj⟩⟩
        case measure => simp [intOf]; omega
      · go_wp2_with fail
        refine (hasCmp l[m] seq _).mono ?_
        rintro e w2 ⟨rfl, hb2⟩
        rw [HZ.out]
        have HS2 := HS'.of_below hb2
        go_wp2
        have hn : 1 ≤ seq → seq ≤ l[m].t := fun hs => by
          have := HB.out m (by omega)
          have h1 := HZ.out
          have h2 := HSQ.out
          unfold wrap64 at h1; omega
        go_roundw
        case rel => exact ⟨a, m, by omega, by omega, rfl, by go_num, HS2, fun hs j hj => ⟨fun hja => (HI.out hs j hj).1 hja, fun hbj => by
          rcases Nat.lt_or_ge m j with hlt' | hge
          · have := HU.out m j (by omega) hj hlt'; have := hn hs; omega
          · obtain rfl : j = m := by omega
            exact hn hs⟩⟩
        case measure => simp [intOf]; omega
    · obtain rfl : a = b := by omega
      by_cases hal : a < l.length
      · obtain ⟨b0, o, rfl⟩ := hv.fix (by omega)
        have r0 := Sp.rd (HS'.old hv) a hal
        go_wp2_with fail
        refine (hasCmp l[a] seq _).mono ?_
        rintro e w2 ⟨rfl, hb2⟩
        have HS2 := HS'.of_below hb2
        go_wp2
        go_ret2
        exact ⟨⟨a, _, rfl, by omega, HI.out⟩, HS2.below⟩
      · have hal2 : decide ((a : Int) < (l.length : Int)) = false := by simp; omega
        go_wp2_with fail
        go_ret2
        exact ⟨⟨a, false, rfl, by omega, HI.out⟩, HS'.below⟩
theorem cloudHas {w0 : World} {R : List Ds} (xs : List Rn) (rep seq : Int) (b : Nat) (w : World) (HS : Own w0 (.map none b (cloud [] xs) :: R) w) (hk : ctxOk xs = true) (hsq : seq ≤ 9223372036854775807) :
    Calls Tryz.prog 58 #[.map (some b), .agg #[.int .i64 rep, .int .i64 seq]] w fun e w' => e = .returned (.bool (hasB xs rep seq)) ∧ Below w.heap.size w w' := by
  have HB := (HS.box (b := w.heap.size) [.int .i64 rep, .int .i64 seq] 55).pick 1 rfl
  have hsp := spaced_ctx xs rep hk
  rw [hasB_spans]
  have HM := Lib.hid (mget_cloud0 xs rep)
  obtain ⟨l, hll⟩ : ∃ l, spansOf xs rep = l := ⟨_, rfl⟩
  rw [hll] at HM hsp ⊢
  clear hll
  have HK := Lib.hid hsp
  clear hsp
  have HT : ∀ b : Bool, b = (l.any fun s => decide (s.f ≤ seq) && decide (seq ≤ s.t)) → Ending.returned (.bool b) = Ending.returned (.bool (l.any fun s => decide (s.f ≤ seq) && decide (seq ≤ s.t))) := fun b h => by rw [h]
  obtain ⟨tt, htt⟩ : ∃ t, (l.any fun s => decide (s.f ≤ seq) && decide (seq ≤ s.t)) = t := ⟨_, rfl⟩
  rw [htt] at HT ⊢
  have HTT := Lib.hid htt
  clear htt HT
  go_enter Tryz.func58, Tryz.ntmps58
  go_wp2_with (refine wp_look rfl _ _ false (by rfl) Tryz.underlying87 Tryz.underlying3 zeroSpans HB rfl rep rfl ?_; intro v3 HS3; rw [HM.out] at HS3; obtain ⟨A3, c3, rfl, _, hl3⟩ := (HS3.rd 0 rfl).val)
  have hv3 := HS3.rd 0 rfl
  have HF := (HB.pick 1 rfl)
  clear HS3 HM HB
  refine (bsearch l seq _ _ hv3 (fun i hi => by have := HK.out.at_ i hi; omega) (fun i j hi hj hij => by have := HK.out.lt i j hi hj hij; have := HK.out.at_ j hj; omega) hsq).mono ?_
  rintro e w1 ⟨⟨i, f, rfl, hil, hi⟩, hb⟩
  have HQ := Lib.hid (search_has HK.out seq i hil hi)
  clear hi
  have H1 := HF.of_below hb
  have F := H1.facts
  simp only [Own.Facts, Ds.map, Own.Cells, Nat.zero_add] at F
  have G := fun p : Ext w1 => (H1.of_below p.h).facts
  simp only [Own.Facts, Ds.map, Own.Cells, Nat.zero_add] at G
  clear HF
  by_cases hlt : i < l.length
  · obtain ⟨b0, o, rfl⟩ := hv3.fix (by omega)
    have r0 := fun p : Ext w1 => Sp.rd ((hv3.bel hb).bel p.h) i hlt
    clear hv3
    go_wp2
    (refine wp_region_ext (by kernel_rfl) (by kernel_rfl) ?_; (repeat (quiet_step (first | fail))); refine wpQuiet_nil ?_; rintro _ ⟨⟨w1, hw1⟩, rfl⟩)
    go_wp2
    go_ret
    exact ⟨by rw [← HTT.out, HQ.out, dif_pos hlt]; rfl, ((Own.start w).alloc _ |>.of_below hb |>.of_below hw1).below⟩
  · have hlt2 : decide ((i : Int) < (l.length : Int)) = false := by simp; omega
    go_wp2
    (refine wp_region_ext (by kernel_rfl) (by kernel_rfl) ?_; (repeat (quiet_step (first | fail))); refine wpQuiet_nil ?_; rintro _ ⟨⟨w1, hw1⟩, rfl⟩)
    go_wp2
    go_ret
    exact ⟨by rw [← HTT.out, HQ.out, dif_neg hlt]; rfl, ((Own.start w).alloc _ |>.of_below hb |>.of_below hw1).below⟩
set_option maxHeartbeats 1000000 in
theorem l2Has (xs : List Rn) (rep seq : Int) (v : Value) (w : World) (hv : Rd w v xs) :
    Calls Tryz.prog 46 #[.agg #[v], .agg #[.int .i64 rep, .int .i64 seq]] w fun e w' => e = .returned (.bool (hasB xs rep seq)) ∧ Below w.heap.size w w' := by
  obtain ⟨A, c, rfl, hc, hl⟩ := hv.val
  have HS := ((Own.start w).box [.slice A xs.length c] 34).box (b := w.heap.size + 1) [.int .i64 rep, .int .i64 seq] 55
  go_enter Tryz.func46, Tryz.ntmps46
  go_wp2
  go_loopw [5] (fun i wr => ∃ k : Nat, k ≤ xs.length ∧ i = .int .i64 k ∧ Own w [.box (w.heap.size + 1) 55 [.int .i64 rep, .int .i64 seq], .box w.heap.size 34 [.slice A xs.length c]] wr ∧ hasB xs rep seq = hasB (xs.drop k) rep seq) (fun i _ => xs.length - (intOf i).toNat)
  case atStart => exact ⟨0, by omega, rfl, HS, rfl⟩
  case round =>
    obtain ⟨k, hk, rfl, HS', he⟩ := hrel
    have HE := Lib.hid he
    clear he HS
    have F := HS'.facts
    simp only [Own.Facts, Ds.map, Own.Cells, Nat.zero_add] at F
    by_cases hlt : k < xs.length
    · obtain ⟨b, o, rfl⟩ := hv.fix (by omega)
      have hF : ∀ p : Ext wr, (p.to.cell? ⟨w.heap.size, 0, none⟩ = some (.slice (some ⟨b, o, none⟩) xs.length c)) ∧ (p.to.cell? ⟨w.heap.size + 1, 0, none⟩ = some (.int .i64 rep)) ∧ (p.to.cell? ⟨w.heap.size + 1, 1, none⟩ = some (.int .i64 seq)) := by
        intro p
        have F := (HS'.of_below p.h).facts
        simp only [Own.Facts, Ds.map, Own.Cells, Nat.zero_add] at F
        exact ⟨F.2.1.1.1, F.1.1.1, F.1.1.2.1⟩
      have hG := fun p : Ext wr => Rn.rd ((HS'.of_below p.h).old hv) k hlt
      have HD := Lib.hid (show xs.drop k = xs[k] :: xs.drop (k + 1) from List.drop_eq_getElem_cons hlt)
      obtain ⟨x, hx⟩ : ∃ x, xs[k] = x := ⟨_, rfl⟩
      rw [hx] at HD
      simp only [hx] at hG
      clear hx
      by_cases h1 : x.r = rep
      · have h1b : (x.r == rep) = true := by simpa using h1
        by_cases h2 : x.f ≤ seq
        · have h2b : decide (x.f ≤ seq) = true := by simpa using h2
          by_cases h3 : seq ≤ x.t
          · have HH := Lib.hid (show hasB xs rep seq = true by rw [HE.out, HD.out]; simp [hasB, h1, h2, h3])
            subst h1
            go_wp2
            (refine wp_region_ext (by kernel_rfl) (by kernel_rfl) ?_; (repeat (quiet_step (first | fail))); refine wpQuiet_nil ?_; rintro _ ⟨⟨w1, hw1⟩, rfl⟩)
            have H2 := HS'.of_below hw1
            clear hF hG
            go_wp2
            go_ret
            exact ⟨by rw [HH.out]; rfl, H2.below⟩
          · have HH := Lib.hid (show hasB xs rep seq = hasB (xs.drop (k + 1)) rep seq by rw [HE.out, HD.out]; simp [hasB, h1, h2, h3])
            have h3b : decide (seq ≤ x.t) = false := by simpa using h3
            subst h1
            go_wp2
            (refine wp_region_ext (by kernel_rfl) (by kernel_rfl) ?_; (repeat (quiet_step (first | fail))); refine wpQuiet_nil ?_; rintro _ ⟨⟨w1, hw1⟩, rfl⟩)
            have H2 := HS'.of_below hw1
            clear hF hG
            go_wp2
            go_roundw
            case rel => exact ⟨k + 1, by omega, by go_num, H2, HH.out⟩
            case measure => simp [intOf]; omega
        · have HH := Lib.hid (show hasB xs rep seq = hasB (xs.drop (k + 1)) rep seq by rw [HE.out, HD.out]; simp [hasB, h1, h2])
          have h2b : decide (x.f ≤ seq) = false := by simpa using h2
          subst h1
          go_wp2
          (refine wp_region_ext (by kernel_rfl) (by kernel_rfl) ?_; (repeat (quiet_step (first | fail))); refine wpQuiet_nil ?_; rintro _ ⟨⟨w1, hw1⟩, rfl⟩)
          have H2 := HS'.of_below hw1
          clear hF hG
          go_wp2
          go_roundw
          case rel => exact ⟨k + 1, by omega, by go_num, H2, HH.out⟩
          case measure => simp [intOf]; omega
      · have HH := Lib.hid (show hasB xs rep seq = hasB (xs.drop (k + 1)) rep seq by rw [HE.out, HD.out]; simp [hasB, h1])
        have h1b : (x.r == rep) = false := by simpa using h1
        go_wp2
        (refine wp_region_ext (by kernel_rfl) (by kernel_rfl) ?_; (repeat (quiet_step (first | fail))); refine wpQuiet_nil ?_; rintro _ ⟨⟨w1, hw1⟩, rfl⟩)
        have H2 := HS'.of_below hw1
        clear hF hG
        go_wp2
        go_roundw
        case rel => exact ⟨k + 1, by omega, by go_num, H2, HH.out⟩
        case measure => simp [intOf]; omega
    · obtain rfl : k = xs.length := by omega
      rw [List.drop_length] at HE
      go_wp2
      go_ret
      exact ⟨by rw [HE.out]; rfl, HS'.below⟩
end Go.Proofs.YtkafflbakgkpcaaGreat
