/- GetContext: the reference reads a number. -/
import Derived.Test.YtonkdmjhlaikhaaDoorE7
import Derived.Test.YtonkdmjhlaikhaaDoorE6
import Derived.Test.YtonkdmjhlaikhaaDoorG2
namespace Go.Proofs.YtonkdmjhlaikhaaDoor
set_option linter.unusedSimpArgs false
set_option linter.unusedVariables false
open Go.RowKit Go.Ow
attribute [local irreducible] wpQuiet
set_option maxRecDepth 100000
theorem l2GetS (bs : List UInt8) (p top v q : Nat) (u : Value) (w : World) (hv : Rd w u bs) (hp : p ≤ bs.length) (ht : top ≤ 1000000000) (h : rdP bs p 0 top = some (v, q)) :
    Calls Tryd.prog 58 #[u, .int .i64 p, .int .i64 top] w fun e w' => e = .returned (.tuple #[.int .i64 v, .int .i64 q, .bool true]) ∧ Below w.heap.size w w' := by
  obtain ⟨A, c, rfl, hc, hl⟩ := hv.val
  obtain ⟨r, hr⟩ : ∃ r, rdNum (bs.drop p) 0 0 = r := ⟨_, rfl⟩
  unfold rdP at h
  rw [hr] at h
  split at h
  · rename_i hcc
    obtain ⟨h0, _, h2⟩ := hcc
    simp only [Option.some.injEq, Prod.mk.injEq] at h
    obtain ⟨e1, e2⟩ := h
    have HU := Lib.hid (show getUv bs (p : Int) = (v, (q : Int), 0) by unfold getUv; rw [if_neg (by omega), Int.toNat_natCast, hr, if_pos h0, e1, show (p : Int) + r.2.1 = (q : Int) by omega])
    rw [e1] at h2
    have w1 := wrap64u top (by omega)
    clear h0 hr e1 e2
    go_enter Tryd.func58, Tryd.ntmps58
    go_wp2_with fail
    refine (gU3 (specGetUvarint bs p _ _ hv)).mono ?_
    rintro e w1 ⟨rfl, hb⟩
    rw [HU.out]
    go_wp2
    exact bodyPost_ret (v := .tuple #[.int .i64 v, .int .i64 q, .bool true]) (by simp [results, Tryd.results58, go_sem, *]) rfl ⟨rfl, hb⟩
  · cases h
theorem l2GetN (bs : List UInt8) (p top : Nat) (u : Value) (w : World) (hv : Rd w u bs) (hp : p ≤ bs.length) (ht : top ≤ 1000000000) (h : rdP bs p 0 top = none) :
    Calls Tryd.prog 58 #[u, .int .i64 p, .int .i64 top] w fun e w' => e = .returned (.tuple #[.int .i64 0, .int .i64 p, .bool false]) ∧ Below w.heap.size w w' := by
  obtain ⟨A, c, rfl, hc, hl⟩ := hv.val
  obtain ⟨r, hr⟩ : ∃ r, rdNum (bs.drop p) 0 0 = r := ⟨_, rfl⟩
  have hlt := rdNum_lt (bs.drop p) 0 0 (by omega) (by simp)
  unfold rdP at h
  rw [hr] at h hlt
  have w1 := wrap64u top (by omega)
  by_cases h0 : r.2.2 = 0
  · have HU := Lib.hid (show getUv bs (p : Int) = (r.1, (p : Int) + r.2.1, 0) by unfold getUv; rw [if_neg (by omega), Int.toNat_natCast, hr, if_pos h0])
    have hb : top < r.1 := by
      rcases Nat.lt_or_ge top r.1 with hy | hy
      · exact hy
      · rw [if_pos ⟨h0, by omega, hy⟩] at h; cases h
    obtain ⟨m, hm⟩ : ∃ m, r.1 = m := ⟨_, rfl⟩
    rw [hm] at hb hlt HU
    clear h h0 hr hm
    go_enter Tryd.func58, Tryd.ntmps58
    go_wp2_with fail
    refine (gU3 (specGetUvarint bs p _ _ hv)).mono ?_
    rintro e w1 ⟨rfl, hbl⟩
    rw [HU.out]
    go_wp2
    exact bodyPost_ret (v := .tuple #[.int .i64 0, .int .i64 p, .bool false]) (by simp [results, Tryd.results58, go_sem, *]) rfl ⟨rfl, hbl⟩
  · have HU := Lib.hid (show getUv bs (p : Int) = (0, (p : Int), r.2.2) by unfold getUv; rw [if_neg (by omega), Int.toNat_natCast, hr, if_neg h0])
    have hc0 : ((r.2.2 : Int) != 0) = true := by simp; exact h0
    clear h h0 hr
    go_enter Tryd.func58, Tryd.ntmps58
    go_wp2_with fail
    refine (gU3 (specGetUvarint bs p _ _ hv)).mono ?_
    rintro e w1 ⟨rfl, hbl⟩
    rw [HU.out]
    go_wp2
    exact bodyPost_ret (v := .tuple #[.int .i64 0, .int .i64 p, .bool false]) (by simp [results, Tryd.results58, go_sem, *]) rfl ⟨rfl, hbl⟩
end Go.Proofs.YtonkdmjhlaikhaaDoor
