/- GetText: both sides. -/
import Derived.Test.YtonkdmjhlaikhaaDoorE9
import Derived.Test.YtonkdmjhlaikhaaDoorE7
namespace Go.Proofs.YtonkdmjhlaikhaaDoor
set_option linter.unusedSimpArgs false
set_option linter.unusedVariables false
open Go.RowKit Go.Ow
attribute [local irreducible] wpQuiet
set_option maxRecDepth 100000
def getTx (bs : List UInt8) (pos most : Int) : ByteArray × Int × Nat :=
  if pos < 0 ∨ (bs.length : Int) < pos then (ByteArray.empty, pos, 1) else
    if (rdTxt bs pos.toNat most).2.2 = 0 then ((rdTxt bs pos.toNat most).1, ((rdTxt bs pos.toNat most).2.1 : Int), 0) else (ByteArray.empty, pos, (rdTxt bs pos.toNat most).2.2)
def gT (g : ByteArray × Int × Nat) : Value := .tuple #[.string g.1, .int .i64 g.2.1, .int .i64 g.2.2]
theorem gT3 {f : FuncId} {args : Array Value} {w : World} {g : ByteArray × Int × Nat} {B : World → Prop} (h : Calls Tryd.prog f args w fun e w' => e = .returned (gT g) ∧ B w') :
    Calls Tryd.prog f args w fun e w' => e = .returned (.tuple #[.string g.1, .int .i64 g.2.1, .int .i64 g.2.2]) ∧ B w' := h
set_option maxHeartbeats 1000000 in
theorem implGetText (a : Addr) (bs : List UInt8) (pos most : Int) (v : Value) (w : World) (hv : Rd w v bs) (hg : Gl a w) (hmo : most ≤ 9223372036854775807) :
    Calls Tryd.prog 13 #[v, .int .i64 pos, .int .i64 most] w fun e w' => e = .returned (gT (getTx bs pos most)) ∧ Below w.heap.size w w' := by
  obtain ⟨A, c, rfl, hc, hl⟩ := hv.val
  have HS := Own.start w
  by_cases h0 : pos < 0
  · have HX := Lib.hid (show getTx bs pos most = (ByteArray.empty, pos, 1) by unfold getTx; rw [if_pos (.inl h0)])
    go_enter Tryd.func13, Tryd.ntmps13
    go_wp2
    exact bodyPost_ret (v := .tuple #[.string ⟨#[]⟩, .int .i64 pos, .int .i64 1]) (by simp [results, Tryd.results13, go_sem, *]) rfl ⟨by rw [HX.out]; rfl, HS.below⟩
  · by_cases h1 : (bs.length : Int) < pos
    · have HX := Lib.hid (show getTx bs pos most = (ByteArray.empty, pos, 1) by unfold getTx; rw [if_pos (.inr h1)])
      go_enter Tryd.func13, Tryd.ntmps13
      go_wp2
      exact bodyPost_ret (v := .tuple #[.string ⟨#[]⟩, .int .i64 pos, .int .i64 1]) (by simp [results, Tryd.results13, go_sem, *]) rfl ⟨by rw [HX.out]; rfl, HS.below⟩
    · obtain ⟨p, rfl⟩ : ∃ p : Nat, pos = p := ⟨pos.toNat, by omega⟩
      have hp : p ≤ bs.length := by omega
      obtain ⟨t, ht⟩ : ∃ t, rdTxt bs p most = t := ⟨_, rfl⟩
      have HX := Lib.hid (show getTx bs (p : Int) most = (if t.2.2 = 0 then (t.1, (t.2.1 : Int), 0) else (ByteArray.empty, (p : Int), t.2.2)) by unfold getTx; rw [if_neg (by omega), Int.toNat_natCast, ht])
      have HT := Lib.hid ht
      clear ht h0 h1
      have HB := HS.box (b := w.heap.size) [.slice A bs.length c, .int .i64 p] 61
      by_cases hcode : t.2.2 = 0
      · rw [if_pos hcode] at HX
        have HNN := Lib.hid (show txV a t = .tuple #[.string t.1, .nilIface] by unfold txV errV; rw [if_pos hcode])
        have HCC := Lib.hid hcode
        clear hcode
        go_enter Tryd.func13, Tryd.ntmps13
        go_wp2_with fail
        refine (text a bs p w.heap.size most _ _ HB hv hg.short hp hmo).mono ?_
        rintro e w1 ⟨rfl, n, hn, H1⟩
        rw [HT.out] at hn
        obtain rfl := hn HCC.out
        rw [HT.out, HNN.out]
        have hF := fun q : Ext w1 => (H1.of_below q.h).facts
        simp only [Own.Facts, Own.Cells, Nat.zero_add] at hF
        have HN := Lib.hid hn
        clear hn
        go_wp2
        (refine wp_region_ext (by kernel_rfl) (by kernel_rfl) ?_; (repeat (quiet_step (first | fail))); refine wpQuiet_nil ?_; rintro _ ⟨⟨w1, hw1⟩, rfl⟩)
        have H2 := H1.of_below hw1
        clear hF
        go_wp2
        exact bodyPost_ret (v := .tuple #[.string t.1, .int .i64 (t.2.1 : Int), .int .i64 0]) (by simp [results, Tryd.results13, go_sem, *]) rfl ⟨by rw [HX.out]; rfl, H2.below⟩
      · rw [if_neg hcode] at HX
        obtain ⟨t', u, he, hcalls⟩ := errV_some a t.2.2 (t.2.1 : Int) (by omega)
        have HNN := Lib.hid (show txV a t = .tuple #[.string t.1, .iface t' u] by unfold txV; rw [he])
        clear hcode he
        go_enter Tryd.func13, Tryd.ntmps13
        go_wp2_with fail
        refine (text a bs p w.heap.size most _ _ HB hv hg.short hp hmo).mono ?_
        rintro e w1 ⟨rfl, n, hn, H1⟩
        rw [HT.out, HNN.out]
        have HCA := Lib.hid (hcalls w1 (hg.own H1))
        clear hcalls hn
        go_wp2_with fail
        refine HCA.out.mono ?_
        rintro e w2 ⟨rfl, hb⟩
        have H2 := H1.of_below hb
        go_wp2
        exact bodyPost_ret (v := .tuple #[.string ⟨#[]⟩, .int .i64 p, .int .i64 t.2.2]) (by simp [results, Tryd.results13, go_sem, *]) rfl ⟨by rw [HX.out]; rfl, H2.below⟩
set_option maxHeartbeats 4000000 in
theorem specGetText (bs : List UInt8) (pos most : Int) (v : Value) (w : World) (hv : Rd w v bs) (hmo : most ≤ 9223372036854775807) :
    Calls Tryd.prog 12 #[v, .int .i64 pos, .int .i64 most] w fun e w' => e = .returned (gT (getTx bs pos most)) ∧ Below w.heap.size w w' := by
  obtain ⟨A, c, rfl, hc, hl⟩ := hv.val
  have HS := Own.start w
  by_cases h01 : pos < 0 ∨ (bs.length : Int) < pos
  · have HX := Lib.hid (show getTx bs pos most = (ByteArray.empty, pos, 1) by unfold getTx; rw [if_pos h01])
    have HU := Lib.hid (show getUv bs pos = (0, pos, 1) by unfold getUv; rw [if_pos h01])
    clear h01
    go_enter Tryd.func12, Tryd.ntmps12
    go_wp2_with fail
    refine (gU3 (specGetUvarint bs pos _ _ hv)).mono ?_
    rintro e w1 ⟨rfl, hb⟩
    rw [HU.out]
    go_wp2
    exact bodyPost_ret (v := .tuple #[.string ⟨#[]⟩, .int .i64 pos, .int .i64 1]) (by simp [results, Tryd.results12, go_sem, *]) rfl ⟨by rw [HX.out]; rfl, hb⟩
  · obtain ⟨p, rfl⟩ : ∃ p : Nat, pos = p := ⟨pos.toNat, by omega⟩
    have hp : p ≤ bs.length := by omega
    obtain ⟨r, hr⟩ : ∃ r, rdNum (bs.drop p) 0 0 = r := ⟨_, rfl⟩
    have hlen := rdNum_len (bs.drop p) 0 0
    have hlt := rdNum_lt (bs.drop p) 0 0 (by omega) (by simp)
    obtain ⟨t, ht⟩ : ∃ t, rdTxt bs p most = t := ⟨_, rfl⟩
    have HX := Lib.hid (show getTx bs (p : Int) most = (if t.2.2 = 0 then (t.1, (t.2.1 : Int), 0) else (ByteArray.empty, (p : Int), t.2.2)) by unfold getTx; rw [if_neg (by omega), Int.toNat_natCast, ht])
    have HU := Lib.hid (show getUv bs (p : Int) = (if r.2.2 = 0 then (r.1, (p : Int) + r.2.1, 0) else (0, (p : Int), r.2.2)) by unfold getUv; rw [if_neg (by omega), Int.toNat_natCast, hr])
    have HT := Lib.hid ht
    unfold rdTxt at HT
    rw [hr] at hlen hlt HT
    rw [List.length_drop] at hlen
    clear hr ht h01
    by_cases hcode : r.2.2 = 0
    · replace hlen := hlen hcode
      rw [if_pos hcode] at HT HU
      clear hcode
      obtain ⟨n, hn⟩ : ∃ n, r.1 = n := ⟨_, rfl⟩
      obtain ⟨at_, hat⟩ : ∃ q, p + r.2.1 = q := ⟨_, rfl⟩
      rw [show (p : Int) + r.2.1 = ((p + r.2.1 : Nat) : Int) by omega] at HU
      rw [hn] at HU HT hlt
      rw [hat] at HU HT
      have hale : at_ ≤ bs.length := by omega
      clear hn hat hlen
      by_cases hm : most < 0 ∨ most < (n : Int)
      · rw [if_pos hm] at HT
        have HXX := Lib.hid (show getTx bs (p : Int) most = (ByteArray.empty, (p : Int), 4) by rw [HX.out, ← HT.out]; rfl)
        have hb : (most < 0) ∨ (¬ most < 0 ∧ most < (n : Int)) := by omega
        clear hm
        rcases hb with hb | ⟨hb, hb2⟩
        · go_enter Tryd.func12, Tryd.ntmps12
          go_wp2_with fail
          refine (gU3 (specGetUvarint bs p _ _ hv)).mono ?_
          rintro e w1 ⟨rfl, hbl⟩
          rw [HU.out]
          go_wp2
          exact bodyPost_ret (v := .tuple #[.string ⟨#[]⟩, .int .i64 p, .int .i64 4]) (by simp [results, Tryd.results12, go_sem, *]) rfl ⟨by rw [HXX.out]; rfl, hbl⟩
        · have e1 : IntKind.u64.wrap most = most := by simp [IntKind.wrap, IntKind.bits, IntKind.signed]; omega
          go_enter Tryd.func12, Tryd.ntmps12
          go_wp2_with fail
          refine (gU3 (specGetUvarint bs p _ _ hv)).mono ?_
          rintro e w1 ⟨rfl, hbl⟩
          rw [HU.out]
          go_wp2
          exact bodyPost_ret (v := .tuple #[.string ⟨#[]⟩, .int .i64 p, .int .i64 4]) (by simp [results, Tryd.results12, go_sem, *]) rfl ⟨by rw [HXX.out]; rfl, hbl⟩
      · rw [if_neg hm] at HT
        have hb : 0 ≤ most ∧ (n : Int) ≤ most := by omega
        clear hm
        obtain ⟨hb1, hb2⟩ := hb
        have e1 : IntKind.u64.wrap most = most := by simp [IntKind.wrap, IntKind.bits, IntKind.signed]; omega
        obtain ⟨m, hm⟩ : ∃ m, bs.length - at_ = m := ⟨_, rfl⟩
        have e2 : (bs.length : Int) - at_ = (m : Int) := by omega
        rw [hm] at HT
        have hmp : at_ + m ≤ bs.length := by omega
        clear hm
        by_cases hmn : m < n
        · rw [if_pos hmn] at HT
          have hd : decide ((m : Int) < (n : Int)) = true := by simp; omega
          have HXX := Lib.hid (show getTx bs (p : Int) most = (ByteArray.empty, (p : Int), 1) by rw [HX.out, ← HT.out]; rfl)
          go_enter Tryd.func12, Tryd.ntmps12
          go_wp2_with fail
          refine (gU3 (specGetUvarint bs p _ _ hv)).mono ?_
          rintro e w1 ⟨rfl, hbl⟩
          rw [HU.out]
          go_wp2
          exact bodyPost_ret (v := .tuple #[.string ⟨#[]⟩, .int .i64 p, .int .i64 1]) (by simp [results, Tryd.results12, go_sem, *]) rfl ⟨by rw [HXX.out]; rfl, hbl⟩
        · rw [if_neg hmn] at HT
          have hd : decide ((m : Int) < (n : Int)) = false := by simp; omega
          have HXX := Lib.hid (show getTx bs (p : Int) most = (⟨((bs.drop at_).take n).toArray⟩, ((at_ + n : Nat) : Int), 0) by rw [HX.out, ← HT.out]; rfl)
          obtain ⟨V, hV⟩ : ∃ V, sliced A at_ (at_ + n) c 1 = V := ⟨_, rfl⟩
          have hn2 : ((at_ : Int) + n).toNat = at_ + n := by omega
          have hs1 : ∀ q : World, (Instr.sliceAt 22 (.slice A bs.length c) (some (.int .i64 (at_ : Int))) (some (.int .i64 ((at_ : Int) + n))) none).run Tryd.prog q = .ok V q := fun q => by
            have := run_subV (P := Tryd.prog) (w := q) (z := 1) Tryd.underlying22 (by kernel_rfl) A bs.length c (at_ : Int) ((at_ : Int) + n) (by omega) (by omega) (by omega)
            rw [this, Int.toNat_natCast, hn2, hV]
          obtain ⟨S, hS⟩ : ∃ S : ByteArray, (⟨((bs.drop at_).take n).toArray⟩ : ByteArray) = S := ⟨_, rfl⟩
          rw [hS] at HXX
          go_enter Tryd.func12, Tryd.ntmps12
          go_wp2_with fail
          refine (gU3 (specGetUvarint bs p _ _ hv)).mono ?_
          rintro e w1 ⟨rfl, hbl⟩
          rw [HU.out]
          have hs2 : (convert 22 9 V).run Tryd.prog w1 = .ok (.string S) w1 := by
            have := run_cv (P := Tryd.prog) (src := 22) (dst := 9) Tryd.underlying22 Tryd.underlying5 Tryd.underlying9 (rd_subV (hv.bel hbl) at_ (at_ + n) (by omega) (by omega))
            rw [show sliced A at_ (at_ + n) c (Cd.z UInt8) = V from hV, Nat.add_sub_cancel_left, hS] at this
            exact this
          clear hV hS hn2
          go_wp2
          exact bodyPost_ret (v := .tuple #[.string S, .int .i64 ((at_ : Int) + n), .int .i64 0]) (by simp [results, Tryd.results12, go_sem, *]) rfl ⟨by rw [HXX.out]; rfl, hbl⟩
    · rw [if_neg hcode] at HT HU
      have HCC := Lib.hid hcode
      have hc0 : ((r.2.2 : Int) != 0) = true := by simp; exact hcode
      have HXX := Lib.hid (show getTx bs (p : Int) most = (ByteArray.empty, (p : Int), r.2.2) by rw [HX.out, ← HT.out, if_neg hcode])
      clear hcode hlen
      go_enter Tryd.func12, Tryd.ntmps12
      go_wp2_with fail
      refine (gU3 (specGetUvarint bs p _ _ hv)).mono ?_
      rintro e w1 ⟨rfl, hbl⟩
      rw [HU.out]
      go_wp2
      exact bodyPost_ret (v := .tuple #[.string ⟨#[]⟩, .int .i64 p, .int .i64 r.2.2]) (by simp [results, Tryd.results12, go_sem, *]) rfl ⟨by rw [HXX.out]; rfl, hbl⟩
end Go.Proofs.YtonkdmjhlaikhaaDoor
