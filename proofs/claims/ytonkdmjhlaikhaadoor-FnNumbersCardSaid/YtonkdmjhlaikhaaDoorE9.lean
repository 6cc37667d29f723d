/- The cursor reads a text. -/
import Derived.Test.YtonkdmjhlaikhaaDoorE5
import Derived.Test.YtonkdmjhlaikhaaDoorCv
namespace Go.Proofs.YtonkdmjhlaikhaaDoor
set_option linter.unusedSimpArgs false
set_option linter.unusedVariables false
open Go.RowKit Go.Ow
attribute [local irreducible] wpQuiet
set_option maxRecDepth 100000
def rdTxt (bs : List UInt8) (at_ : Nat) (most : Int) : ByteArray × Nat × Nat :=
  if (rdNum (bs.drop at_) 0 0).2.2 = 0 then
    if most < 0 ∨ most < (rdNum (bs.drop at_) 0 0).1 then (ByteArray.empty, 0, 4)
    else if bs.length - (at_ + (rdNum (bs.drop at_) 0 0).2.1) < (rdNum (bs.drop at_) 0 0).1 then (ByteArray.empty, at_ + (rdNum (bs.drop at_) 0 0).2.1, 1)
    else (⟨((bs.drop (at_ + (rdNum (bs.drop at_) 0 0).2.1)).take (rdNum (bs.drop at_) 0 0).1).toArray⟩, at_ + (rdNum (bs.drop at_) 0 0).2.1 + (rdNum (bs.drop at_) 0 0).1, 0)
  else (ByteArray.empty, at_ + (rdNum (bs.drop at_) 0 0).2.1, (rdNum (bs.drop at_) 0 0).2.2)
def txV (a : Addr) (t : ByteArray × Nat × Nat) : Value := .tuple #[.string t.1, errV a t.2.2 (t.2.1 : Int)]
set_option maxHeartbeats 4000000 in
theorem text {W : World} {R : List Ds} (a : Addr) (bs : List UInt8) (at_ bc : Nat) (most : Int) (vb : Value) (w : World) (HS : Own W (.box bc 61 [vb, .int .i64 at_] :: R) w) (hv : Rd W vb bs) (hg : Gs a W) (hat : at_ ≤ bs.length) (hmo : most ≤ 9223372036854775807) :
    Calls Tryd.prog 33 #[.pointer (some ⟨bc, 0, none⟩), .int .i64 most] w fun e w' => e = .returned (txV a (rdTxt bs at_ most)) ∧ ∃ n : Int, ((rdTxt bs at_ most).2.2 = 0 → n = (rdTxt bs at_ most).2.1) ∧ Own W (.box bc 61 [vb, .int .i64 n] :: R) w' := by
  obtain ⟨A, c, rfl, hc, hl⟩ := hv.val
  obtain ⟨r, hr⟩ : ∃ r, rdNum (bs.drop at_) 0 0 = r := ⟨_, rfl⟩
  have hlen := rdNum_len (bs.drop at_) 0 0
  have hlt := rdNum_lt (bs.drop at_) 0 0 (by omega) (by simp)
  obtain ⟨t, ht⟩ : ∃ t, rdTxt bs at_ most = t := ⟨_, rfl⟩
  have HT := Lib.hid ht
  unfold rdTxt at HT
  rw [ht]
  rw [hr] at hlen hlt HT
  rw [List.length_drop] at hlen
  have HR := Lib.hid hr
  clear hr ht
  by_cases hcode : r.2.2 = 0
  · replace hlen := hlen hcode
    rw [if_pos hcode] at HT
    have hN : numV a r at_ = .tuple #[.int .u64 r.1, .nilIface] := by unfold numV errV; rw [if_pos hcode]
    have hA : numAt r at_ = at_ + r.2.1 := by unfold numAt; rw [if_pos hcode]
    have HNN := Lib.hid (And.intro hN hA)
    clear hN hA hcode
    obtain ⟨n, hn⟩ : ∃ n, r.1 = n := ⟨_, rfl⟩
    obtain ⟨p, hp⟩ : ∃ p, at_ + r.2.1 = p := ⟨_, rfl⟩
    rw [hn] at HNN HT hlt
    rw [hp] at HNN HT
    have hple : p ≤ bs.length := by omega
    clear hn hp hlen
    go_enter Tryd.func33, Tryd.ntmps33
    go_wp2_with fail
    refine (number a bs at_ bc _ _ HS hv hg hat).mono ?_
    rintro e w1 ⟨rfl, H1⟩
    rw [HR.out, HNN.out.2] at H1
    rw [HR.out, HNN.out.1]
    clear HS
    by_cases hm : most < 0 ∨ most < (n : Int)
    · rw [if_pos hm] at HT
      have hb : (most < 0) ∨ (¬ most < 0 ∧ most < (n : Int)) := by omega
      clear hm
      rcases hb with hb | ⟨hb, hb2⟩
      · go_wp2
        go_ret2
        exact ⟨by rw [← HT.out]; rfl, _, (fun h => by rw [← HT.out] at h; cases h), H1⟩
      · have e1 : IntKind.u64.wrap most = most := by simp [IntKind.wrap, IntKind.bits, IntKind.signed]; omega
        go_wp2
        go_ret2
        exact ⟨by rw [← HT.out]; rfl, _, (fun h => by rw [← HT.out] at h; cases h), H1⟩
    · rw [if_neg hm] at HT
      have hb : 0 ≤ most ∧ (n : Int) ≤ most := by omega
      clear hm
      obtain ⟨hb1, hb2⟩ := hb
      have e1 : IntKind.u64.wrap most = most := by simp [IntKind.wrap, IntKind.bits, IntKind.signed]; omega
      have hF : ∀ q : Ext w1, q.to.cell? ⟨bc, 0, none⟩ = some (.slice A bs.length c) ∧ q.to.cell? ⟨bc, 1, none⟩ = some (.int .i64 (p : Int)) := by
        intro q
        have F := (H1.of_below q.h).facts
        simp only [Own.Facts, Own.Cells, Nat.zero_add] at F
        exact ⟨F.1.1.1, F.1.1.2.1⟩
      obtain ⟨m, hm⟩ : ∃ m, bs.length - p = m := ⟨_, rfl⟩
      have e2 : IntKind.i64.wrap ((bs.length : Int) - p) = (m : Int) := i64w (by omega) (by omega) (by omega)
      have e3 : IntKind.u64.wrap (m : Int) = (m : Int) := wrap64u m (by omega)
      rw [hm] at HT
      have hmp : p + m ≤ bs.length := by omega
      have HM := Lib.hid hm
      clear hm
      by_cases hmn : m < n
      · rw [if_pos hmn] at HT
        have hd : decide ((m : Int) < (n : Int)) = true := by simp; omega
        have hG : ∀ q : Ext w1, q.to.cell? ⟨0, 0, none⟩ = some (.iface 154 (.pointer (some a))) := fun q => hg.own (H1.of_below q.h)
        go_wp2
        (refine wp_region_ext (by kernel_rfl) (by kernel_rfl) ?_; (repeat (quiet_step (first | fail))); refine wpQuiet_nil ?_; rintro _ ⟨⟨w1, hw1⟩, rfl⟩)
        have hF2 := fun p => hF (Ext.up hw1 p)
        have hG2 := fun p => hG (Ext.up hw1 p)
        have H2 := H1.of_below hw1
        simp only [Ext.up] at hF2 hG2
        clear hF hG e1 e2 e3
        go_wp2
        (refine wp_region_ext (by kernel_rfl) (by kernel_rfl) ?_; (repeat (quiet_step (first | fail))); refine wpQuiet_nil ?_; rintro _ ⟨⟨w1, hw1⟩, rfl⟩)
        have H3 := H2.of_below hw1
        clear hF2 hG2
        go_wp2
        go_ret2
        exact ⟨by rw [← HT.out]; rfl, _, (fun h => by rw [← HT.out] at h; cases h), H3⟩
      · rw [if_neg hmn] at HT
        have hd : decide ((m : Int) < (n : Int)) = false := by simp; omega
        go_wp2
        (refine wp_region_ext (by kernel_rfl) (by kernel_rfl) ?_; (repeat (quiet_step (first | fail))); refine wpQuiet_nil ?_; rintro _ ⟨⟨w1, hw1⟩, rfl⟩)
        have H2 := H1.of_below hw1
        have F := H2.facts
        simp only [Own.Facts, Own.Cells, Nat.zero_add] at F
        have e4 : IntKind.i64.wrap (n : Int) = (n : Int) := i64w rfl (by omega) (by omega)
        have H3 := H2.set 1 (.int .i64 ((p : Int) + n))
        have hF3 := fun q => (H3.of_below (Ext.h q)).facts
        have hR3 := fun q => (H3.of_below (Ext.h q)).old hv
        simp only [Own.Facts, Own.Cells, Nat.zero_add, List.set_cons_succ, List.set_cons_zero] at hF3
        have e5 : IntKind.i64.wrap (p : Int) = (p : Int) := i64w rfl (by omega) (by omega)
        clear hF e1 e2 e3
        obtain ⟨V, hV⟩ : ∃ V, sliced A p (p + n) c 1 = V := ⟨_, rfl⟩
        have hn2 : ((p : Int) + n).toNat = p + n := by omega
        have hs1 : ∀ q : World, (Instr.sliceAt 22 (.slice A bs.length c) (some (.int .i64 (p : Int))) (some (.int .i64 ((p : Int) + n))) none).run Tryd.prog q = .ok V q := fun q => by
          have := run_subV (P := Tryd.prog) (w := q) (z := 1) Tryd.underlying22 (by kernel_rfl) A bs.length c (p : Int) ((p : Int) + n) (by omega) (by omega) (by omega)
          rw [this, Int.toNat_natCast, hn2, hV]
        have hs2 := fun q => by
          have := run_cv (P := Tryd.prog) (src := 22) (dst := 9) Tryd.underlying22 Tryd.underlying5 Tryd.underlying9 (rd_subV (hR3 q) p (p + n) (by omega) (by omega))
          rw [show sliced A p (p + n) c (Cd.z UInt8) = V from hV, Nat.add_sub_cancel_left] at this
          exact this
        obtain ⟨S, hS⟩ : ∃ S : ByteArray, (⟨((bs.drop p).take n).toArray⟩ : ByteArray) = S := ⟨_, rfl⟩
        simp only [hS] at hs2
        have HSS := Lib.hid hS
        clear hS hV hn2 hR3
        go_wp2
        (refine wp_region_ext (by kernel_rfl) (by kernel_rfl) ?_; (repeat (quiet_step (first | fail))); refine wpQuiet_nil ?_; rintro _ ⟨⟨w1, hw1⟩, rfl⟩)
        have H4 := H3.of_below hw1
        clear hF3 hs1 hs2 e4 e5
        go_wp2
        go_ret2
        exact ⟨by rw [← HT.out, ← HSS.out]; rfl, _, (fun _ => by rw [← HT.out]; simp), H4⟩
  · rw [if_neg hcode] at HT
    obtain ⟨t', u, he, hcalls⟩ := errV_some a r.2.2 ((at_ + r.2.1 : Nat) : Int) (by omega)
    have hN : numV a r at_ = .tuple #[.int .u64 r.1, .iface t' u] := by unfold numV; rw [he]
    have hA : numAt r at_ = at_ := by unfold numAt; rw [if_neg hcode]
    have HNN := Lib.hid (And.intro hN hA)
    have HEE := Lib.hid he
    have HCC := Lib.hid hcode
    clear hN hA hcode he hcalls hlen
    go_enter Tryd.func33, Tryd.ntmps33
    go_wp2_with fail
    refine (number a bs at_ bc _ _ HS hv hg hat).mono ?_
    rintro e w1 ⟨rfl, H1⟩
    rw [HR.out, HNN.out.2] at H1
    rw [HR.out, HNN.out.1]
    go_wp2
    go_ret2
    exact ⟨by rw [← HT.out]; unfold txV; rw [HEE.out]; rfl, _, (fun h => by rw [← HT.out] at h; exact absurd h HCC.out), H1⟩
end Go.Proofs.YtonkdmjhlaikhaaDoor
