/- GetUvarint: the program's side. -/
import Derived.Test.YtonkdmjhlaikhaaDoorE4
import Derived.Test.YtonkdmjhlaikhaaDoorE6
namespace Go.Proofs.YtonkdmjhlaikhaaDoor
set_option linter.unusedSimpArgs false
set_option linter.unusedVariables false
open Go.RowKit Go.Ow
attribute [local irreducible] wpQuiet
set_option maxRecDepth 100000
theorem errV_some (a : Addr) (code : Nat) (n : Int) (hc : 1 ≤ code) : ∃ t v, errV a code n = .iface t v ∧ ∀ w, Gl a w → Calls Tryd.prog 32 #[.iface t v] w fun e w' => e = .returned (.int .i64 code) ∧ Below w.heap.size w w' := by
  by_cases h1 : code = 1
  · have e1 : errV a code n = .iface 98 (.agg #[.int .i64 n, .iface 154 (.pointer (some a))]) := by unfold errV; rw [if_neg (by omega), if_pos h1]
    exact ⟨_, _, e1, fun w hg => by rw [← e1]; exact codeOf a code n w hg hc⟩
  · have e1 : errV a code n = .iface 100 (.agg #[.int .i64 (code : Int)]) := by unfold errV; rw [if_neg (by omega), if_neg h1]
    exact ⟨_, _, e1, fun w hg => by rw [← e1]; exact codeOf a code n w hg hc⟩
set_option maxHeartbeats 1000000 in
theorem implGetUvarint (a : Addr) (bs : List UInt8) (pos : Int) (v : Value) (w : World) (hv : Rd w v bs) (hg : Gl a w) :
    Calls Tryd.prog 10 #[v, .int .i64 pos] w fun e w' => e = .returned (gV (getUv bs pos)) ∧ Below w.heap.size w w' := by
  obtain ⟨A, c, rfl, hc, hl⟩ := hv.val
  have HS := Own.start w
  by_cases h0 : pos < 0
  · have HX := Lib.hid (show getUv bs pos = (0, pos, 1) by unfold getUv; rw [if_pos (.inl h0)])
    go_enter Tryd.func10, Tryd.ntmps10
    go_wp2
    exact bodyPost_ret (v := .tuple #[.int .u64 0, .int .i64 pos, .int .i64 1]) (by simp [results, Tryd.results10, go_sem, *]) rfl ⟨by rw [HX.out]; rfl, HS.below⟩
  · by_cases h1 : (bs.length : Int) < pos
    · have HX := Lib.hid (show getUv bs pos = (0, pos, 1) by unfold getUv; rw [if_pos (.inr h1)])
      go_enter Tryd.func10, Tryd.ntmps10
      go_wp2
      exact bodyPost_ret (v := .tuple #[.int .u64 0, .int .i64 pos, .int .i64 1]) (by simp [results, Tryd.results10, go_sem, *]) rfl ⟨by rw [HX.out]; rfl, HS.below⟩
    · obtain ⟨p, rfl⟩ : ∃ p : Nat, pos = p := ⟨pos.toNat, by omega⟩
      have hp : p ≤ bs.length := by omega
      obtain ⟨r, hr⟩ : ∃ r, rdNum (bs.drop p) 0 0 = r := ⟨_, rfl⟩
      have HX := Lib.hid (show getUv bs (p : Int) = (if r.2.2 = 0 then (r.1, (p : Int) + r.2.1, 0) else (0, (p : Int), r.2.2)) by unfold getUv; rw [if_neg (by omega), Int.toNat_natCast, hr])
      have HR := Lib.hid hr
      clear hr h0 h1
      have HB := HS.box (b := w.heap.size) [.slice A bs.length c, .int .i64 p] 61
      by_cases hcode : r.2.2 = 0
      · rw [if_pos hcode] at HX
        have hN : numV a r p = .tuple #[.int .u64 r.1, .nilIface] := by unfold numV errV; rw [if_pos hcode]
        have hA : numAt r p = p + r.2.1 := by unfold numAt; rw [if_pos hcode]
        have HNN := Lib.hid (And.intro hN hA)
        clear hN hA hcode
        go_enter Tryd.func10, Tryd.ntmps10
        go_wp2_with fail
        refine (number a bs p w.heap.size _ _ HB hv hg.short hp).mono ?_
        rintro e w1 ⟨rfl, H1⟩
        rw [HR.out, HNN.out.2] at H1
        rw [HR.out, HNN.out.1]
        have hF := fun q : Ext w1 => (H1.of_below q.h).facts
        simp only [Own.Facts, Own.Cells, Nat.zero_add] at hF
        go_wp2
        (refine wp_region_ext (by kernel_rfl) (by kernel_rfl) ?_; (repeat (quiet_step (first | fail))); refine wpQuiet_nil ?_; rintro _ ⟨⟨w1, hw1⟩, rfl⟩)
        have H2 := H1.of_below hw1
        clear hF
        go_wp2
        exact bodyPost_ret (v := .tuple #[.int .u64 r.1, .int .i64 ((p + r.2.1 : Nat) : Int), .int .i64 0]) (by simp [results, Tryd.results10, go_sem, *]) rfl ⟨by rw [HX.out]; rfl, H2.below⟩
      · rw [if_neg hcode] at HX
        obtain ⟨t, u, he, hcalls⟩ := errV_some a r.2.2 ((p + r.2.1 : Nat) : Int) (by omega)
        have hN : numV a r p = .tuple #[.int .u64 r.1, .iface t u] := by unfold numV; rw [he]
        have hA : numAt r p = p := by unfold numAt; rw [if_neg hcode]
        have HNN := Lib.hid (And.intro hN hA)
        clear hN hA hcode he
        go_enter Tryd.func10, Tryd.ntmps10
        go_wp2_with fail
        refine (number a bs p w.heap.size _ _ HB hv hg.short hp).mono ?_
        rintro e w1 ⟨rfl, H1⟩
        rw [HR.out, HNN.out.2] at H1
        rw [HR.out, HNN.out.1]
        have HCA := Lib.hid (hcalls w1 (hg.own H1))
        clear hcalls
        go_wp2_with fail
        refine HCA.out.mono ?_
        rintro e w2 ⟨rfl, hb⟩
        have H2 := H1.of_below hb
        go_wp2
        exact bodyPost_ret (v := .tuple #[.int .u64 0, .int .i64 p, .int .i64 r.2.2]) (by simp [results, Tryd.results10, go_sem, *]) rfl ⟨by rw [HX.out]; rfl, H2.below⟩
end Go.Proofs.YtonkdmjhlaikhaaDoor
