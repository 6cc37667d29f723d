/- The cursor reads a number in bounds. -/
import Derived.Test.YtonkdmjhlaikhaaDoorE5
import Derived.Test.YtonkdmjhlaikhaaDoorG2
namespace Go.Proofs.YtonkdmjhlaikhaaDoor
set_option linter.unusedSimpArgs false
set_option linter.unusedVariables false
open Go.RowKit Go.Ow
attribute [local irreducible] wpQuiet
set_option maxRecDepth 100000
theorem mostS {W : World} {R : List Ds} (a : Addr) (bs : List UInt8) (at_ bc low top v q : Nat) (vb : Value) (w : World) (HS : Own W (.box bc 61 [vb, .int .i64 at_] :: R) w) (hv : Rd W vb bs) (hg : Gs a W) (hat : at_ ≤ bs.length) (hl : low ≤ 1000000000) (ht : top ≤ 1000000000) (h : rdP bs at_ low top = some (v, q)) :
    Calls Tryd.prog 61 #[.pointer (some ⟨bc, 0, none⟩), .int .i64 low, .int .i64 top] w fun e w' => e = .returned (.tuple #[.int .i64 v, .nilIface]) ∧ Own W (.box bc 61 [vb, .int .i64 q] :: R) w' := by
  obtain ⟨r, hr⟩ : ∃ r, rdNum (bs.drop at_) 0 0 = r := ⟨_, rfl⟩
  unfold rdP at h
  rw [hr] at h
  split at h
  · rename_i hc
    obtain ⟨h0, h1, h2⟩ := hc
    simp only [Option.some.injEq, Prod.mk.injEq] at h
    obtain ⟨e1, e2⟩ := h
    have hN : numV a r at_ = .tuple #[.int .u64 v, .nilIface] := by unfold numV errV; rw [if_pos h0, e1]
    have hA : numAt r at_ = q := by unfold numAt; rw [if_pos h0, e2]
    rw [e1] at h1 h2
    have HNN := Lib.hid (And.intro hN hA)
    have HR := Lib.hid hr
    clear hN hA h0 hr e1 e2
    have w1 := wrap64u low (by omega)
    have w2 := wrap64u top (by omega)
    go_enter Tryd.func61, Tryd.ntmps61
    go_wp2_with fail
    refine (number a bs at_ bc _ _ HS hv hg hat).mono ?_
    rintro e w1 ⟨rfl, H1⟩
    rw [HR.out, HNN.out.2] at H1
    rw [HR.out, HNN.out.1]
    go_wp2
    go_ret2
    exact ⟨rfl, H1⟩
  · cases h
theorem mostN {W : World} {R : List Ds} (a : Addr) (bs : List UInt8) (at_ bc low top : Nat) (vb : Value) (w : World) (HS : Own W (.box bc 61 [vb, .int .i64 at_] :: R) w) (hv : Rd W vb bs) (hg : Gs a W) (hat : at_ ≤ bs.length) (hl : low ≤ 1000000000) (ht : top ≤ 1000000000) (h : rdP bs at_ low top = none) :
    Calls Tryd.prog 61 #[.pointer (some ⟨bc, 0, none⟩), .int .i64 low, .int .i64 top] w fun e w' => ∃ (t : TypeId) (u : Value) (n : Int), e = .returned (.tuple #[.int .i64 0, .iface t u]) ∧ Own W (.box bc 61 [vb, .int .i64 n] :: R) w' := by
  obtain ⟨r, hr⟩ : ∃ r, rdNum (bs.drop at_) 0 0 = r := ⟨_, rfl⟩
  have hlt := rdNum_lt (bs.drop at_) 0 0 (by omega) (by simp)
  unfold rdP at h
  rw [hr] at h hlt
  have HR := Lib.hid hr
  clear hr
  have w1 := wrap64u low (by omega)
  have w2 := wrap64u top (by omega)
  by_cases h0 : r.2.2 = 0
  · have hN : numV a r at_ = .tuple #[.int .u64 r.1, .nilIface] := by unfold numV errV; rw [if_pos h0]
    have HNN := Lib.hid hN
    have hb : r.1 < low ∨ (low ≤ r.1 ∧ top < r.1) := by
      rcases Nat.lt_or_ge r.1 low with hx | hx
      · exact .inl hx
      · rcases Nat.lt_or_ge top r.1 with hy | hy
        · exact .inr ⟨hx, hy⟩
        · rw [if_pos ⟨h0, hx, hy⟩] at h; cases h
    obtain ⟨m, hm⟩ : ∃ m, r.1 = m := ⟨_, rfl⟩
    rw [hm] at HNN hb hlt
    clear hN h h0 hm
    rcases hb with hb | ⟨hb1, hb2⟩
    all_goals
      go_enter Tryd.func61, Tryd.ntmps61
      go_wp2_with fail
      refine (number a bs at_ bc _ _ HS hv hg hat).mono ?_
      rintro e w1 ⟨rfl, H1⟩
      rw [HR.out, HNN.out]
      go_wp2
      go_ret2
      exact ⟨_, _, _, rfl, H1⟩
  · obtain ⟨t', u, he, _⟩ := errV_some a r.2.2 ((at_ + r.2.1 : Nat) : Int) (by omega)
    have HNN := Lib.hid (show numV a r at_ = .tuple #[.int .u64 r.1, .iface t' u] by unfold numV; rw [he])
    clear h h0 he
    go_enter Tryd.func61, Tryd.ntmps61
    go_wp2_with fail
    refine (number a bs at_ bc _ _ HS hv hg hat).mono ?_
    rintro e w1 ⟨rfl, H1⟩
    rw [HR.out, HNN.out]
    go_wp2
    go_ret2
    exact ⟨_, _, _, rfl, H1⟩
end Go.Proofs.YtonkdmjhlaikhaaDoor
