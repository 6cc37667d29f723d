/- Paths under paths, what the changes ask of leaves, and blocks apart. -/
import Derived.Test.YtkafflbakgkpcaaGreatVa
import Derived.Test.YtkafflbakgkpcaaGreatQ1
import Derived.Test.YtkafflbakgkpcaaGreatIa
import Derived.Test.YtkafflbakgkpcaaGreatJm
import Derived.Test.YtkafflbakgkpcaaGreatL1
namespace Go.Proofs.YtkafflbakgkpcaaGreat
set_option linter.unusedSimpArgs false
set_option linter.unusedVariables false
open Go.RowKit Go.Ow
attribute [local irreducible] wpQuiet
set_option maxRecDepth 100000
def unB (p x : List ByteArray) : Bool := decide (p.length ≤ x.length) && decide (p = x.take p.length)
def setB (fl : Bool) (p : List ByteArray) (x : Lf) : Bool := (x.fl == fl) && decide (x.p = p)
theorem subT {n c : Nat} (A : Option Addr) (l : List ByteArray) (j : Nat) (hn : n = l.length) (h1 : j ≤ n) (h2 : n ≤ c) :
    ∃ A1 c1, (∀ q, (Instr.sliceAt 28 (.slice A n c) none (some (.int .i64 (j : Int))) none).run Tryz.prog q = .ok (.slice A1 (l.take j).length c1) q) ∧ Hid (∀ w, Rd w (.slice A n c) l → Rd w (.slice A1 (l.take j).length c1) (l.take j)) := by
  subst hn
  have e1 : ∀ (A : Option Addr) lo hi c z, ∃ A' c', sliced A lo hi c z = .slice A' (hi - lo) c' := by
    intro A lo hi c z; unfold sliced; split <;> exact ⟨_, _, rfl⟩
  obtain ⟨A1, c1, h3⟩ := e1 A 0 j c 1
  have l1 : (l.take j).length = j - 0 := by simp; omega
  refine ⟨A1, c1, fun q => ?_, Lib.hid fun w h => ?_⟩
  · have := run_subV (P := Tryz.prog) (w := q) (z := 1) Tryz.underlying28 (by kernel_rfl) A l.length c ((0 : Nat) : Int) (j : Int) (by omega) (by omega) (by omega)
    rw [Int.toNat_natCast, Int.toNat_natCast] at this
    rw [l1, ← h3]; exact this
  · have := rd_subV h 0 j (by omega) h1
    rw [show Cd.z ByteArray = 1 from rfl, h3] at this
    rw [l1]; simpa using this
theorem implUnder (p x : List ByteArray) (v u : Value) (w : World) (hv : Rd w v p) (hu : Rd w u x) :
    Calls Tryz.prog 33 #[v, u] w fun e w' => e = .returned (.bool (unB p x)) ∧ Below w.heap.size w w' := by
  obtain ⟨A, c, rfl, _, _⟩ := hv.val
  obtain ⟨B, d, rfl, hd, _⟩ := hu.val
  have HS := Own.start w
  by_cases hl : p.length ≤ x.length
  · have HQ := Lib.hid (show unB p x = decide (p = x.take p.length) by unfold unB; rw [decide_eq_true hl]; rfl)
    obtain ⟨A1, c1, hs, HV⟩ := subT B x p.length rfl hl hd
    obtain ⟨tk, htk⟩ : ∃ t, x.take p.length = t := ⟨_, rfl⟩
    rw [htk] at hs HV HQ
    clear htk
    cases he : decide (p = tk)
    all_goals
      go_enter Tryz.func33, Tryz.ntmps33
      go_wp2_with fail
      refine (slicesEqualS _ _ _ _ _ hv (HV.out _ hu)).mono ?_; rintro e w1 ⟨rfl, hb⟩; (first | have H' := HS.of_below hb | have H' := HS.drew.of_below hb | have H' := (HS.box0 [_] _).of_below hb | have H' := ((HS.box0 [_] _).box0 [_] _).of_below hb | have H' := (HS.alloc _).of_below hb | have H' := ((HS.alloc _).alloc _).of_below hb); clear HS; have HS := H'; clear H'; have F := HS.facts; simp only [Own.Facts, Own.Cells, World.size_alloc, List.cons_append, List.nil_append, List.eraseIdx_cons_succ, List.eraseIdx_cons_zero, List.eraseIdx_zero, List.tail_cons, Nat.zero_add] at F
      rw [he]
      have HQ2 := Lib.hid (HQ.out.trans he)
      clear he
      go_wp2
      go_ret
      exact ⟨by rw [HQ2.out]; rfl, HS.below⟩
  · have HQ := Lib.hid (show unB p x = false by unfold unB; rw [decide_eq_false hl]; rfl)
    go_enter Tryz.func33, Tryz.ntmps33
    go_wp2
    go_ret
    exact ⟨by rw [HQ.out]; rfl, HS.below⟩
theorem specUnder (p x : List ByteArray) (v u : Value) (w : World) (hv : Rd w v p) (hu : Rd w u x) :
    Calls Tryz.prog 25 #[v, u] w fun e w' => e = .returned (.bool (unB p x)) ∧ Below w.heap.size w w' := by
  obtain ⟨A, c, rfl, _, _⟩ := hv.val
  obtain ⟨B, d, rfl, hd, _⟩ := hu.val
  have HS := Own.start w
  by_cases hl : p.length ≤ x.length
  · obtain ⟨A1, c1, hs, HV⟩ := subT B x p.length rfl hl hd
    have HQ := Lib.hid (show unB p x = decide (p = x.take p.length) by unfold unB; rw [decide_eq_true hl]; rfl)
    obtain ⟨tk, htk⟩ : ∃ t, x.take p.length = t := ⟨_, rfl⟩
    rw [htk] at hs HV HQ
    clear htk
    have HC := Lib.hid (cmpP_eq p tk)
    by_cases h0 : cmpP p tk = 0
    · have HQ2 := Lib.hid (show unB p x = true by rw [HQ.out]; simpa using HC.out.1 h0)
      go_enter Tryz.func25, Tryz.ntmps25
      go_wp2_with fail
      refine (l3Cmp _ _ _ _ _ hv (HV.out _ hu)).mono ?_; rintro e w1 ⟨rfl, hb⟩; (first | have H' := HS.of_below hb | have H' := HS.drew.of_below hb | have H' := (HS.box0 [_] _).of_below hb | have H' := ((HS.box0 [_] _).box0 [_] _).of_below hb | have H' := (HS.alloc _).of_below hb | have H' := ((HS.alloc _).alloc _).of_below hb); clear HS; have HS := H'; clear H'; have F := HS.facts; simp only [Own.Facts, Own.Cells, World.size_alloc, List.cons_append, List.nil_append, List.eraseIdx_cons_succ, List.eraseIdx_cons_zero, List.eraseIdx_zero, List.tail_cons, Nat.zero_add] at F
      rw [h0]
      clear h0
      go_wp2
      go_ret
      exact ⟨by rw [HQ2.out]; rfl, HS.below⟩
    · have HQ2 := Lib.hid (show unB p x = false by rw [HQ.out]; simpa using fun h => h0 (HC.out.2 h))
      have h0b : (cmpP p tk == 0) = false := by simpa using h0
      go_enter Tryz.func25, Tryz.ntmps25
      go_wp2_with fail
      refine (l3Cmp _ _ _ _ _ hv (HV.out _ hu)).mono ?_; rintro e w1 ⟨rfl, hb⟩; (first | have H' := HS.of_below hb | have H' := HS.drew.of_below hb | have H' := (HS.box0 [_] _).of_below hb | have H' := ((HS.box0 [_] _).box0 [_] _).of_below hb | have H' := (HS.alloc _).of_below hb | have H' := ((HS.alloc _).alloc _).of_below hb); clear HS; have HS := H'; clear H'; have F := HS.facts; simp only [Own.Facts, Own.Cells, World.size_alloc, List.cons_append, List.nil_append, List.eraseIdx_cons_succ, List.eraseIdx_cons_zero, List.eraseIdx_zero, List.tail_cons, Nat.zero_add] at F
      go_wp2
      go_ret
      exact ⟨by rw [HQ2.out]; rfl, HS.below⟩
  · have HQ := Lib.hid (show unB p x = false by unfold unB; rw [decide_eq_false hl]; rfl)
    go_enter Tryz.func25, Tryz.ntmps25
    go_wp2
    go_ret
    exact ⟨by rw [HQ.out]; rfl, HS.below⟩
theorem goneR (x : Lf) (p : List ByteArray) (vp vP : Value) (bp : Nat) (w : World) (hx : Rd w vp x.p) (hP : Rd w vP p) (hc : w.cell? ⟨bp, 0, none⟩ = some vP) :
    Calls Tryz.prog 32 #[.agg #[vp, .bool x.fl, .int .i64 x.dr, .int .i64 x.ds, .string x.v], .pointer (some ⟨bp, 0, none⟩)] w fun e w' => e = .returned (.bool (unB p x.p)) ∧ Below w.heap.size w w' := by
  obtain ⟨A, c, rfl, _, _⟩ := hx.val
  obtain ⟨B, d, rfl, _, _⟩ := hP.val
  have hlt := World.block_lt_of_cell? w _ hc
  have HS := (Own.start w).box [.slice A x.p.length c, .bool x.fl, .int .i64 x.dr, .int .i64 x.ds, .string x.v] 57
  have hc2 := ((bcell HS.below).1 bp 0 hlt).trans hc
  go_enter Tryz.func32, Tryz.ntmps32
  go_wp2_with fail
  refine (implUnder p x.p _ _ _ (HS.old hP) (HS.old hx)).mono ?_; rintro e w1 ⟨rfl, hb⟩; (first | have H' := HS.of_below hb | have H' := HS.drew.of_below hb | have H' := (HS.box0 [_] _).of_below hb | have H' := ((HS.box0 [_] _).box0 [_] _).of_below hb | have H' := (HS.alloc _).of_below hb | have H' := ((HS.alloc _).alloc _).of_below hb); clear HS; have HS := H'; clear H'; have F := HS.facts; simp only [Own.Facts, Own.Cells, World.size_alloc, List.cons_append, List.nil_append, List.eraseIdx_cons_succ, List.eraseIdx_cons_zero, List.eraseIdx_zero, List.tail_cons, Nat.zero_add] at F
  go_wp2
  go_ret
  exact ⟨rfl, HS.below⟩
theorem goneS (x : Lf) (fl : Bool) (p : List ByteArray) (vp vP : Value) (bf bp : Nat) (w : World) (hx : Rd w vp x.p) (hP : Rd w vP p) (hf : w.cell? ⟨bf, 0, none⟩ = some (.bool fl)) (hc : w.cell? ⟨bp, 0, none⟩ = some vP) :
    Calls Tryz.prog 75 #[.agg #[vp, .bool x.fl, .int .i64 x.dr, .int .i64 x.ds, .string x.v], .pointer (some ⟨bf, 0, none⟩), .pointer (some ⟨bp, 0, none⟩)] w fun e w' => e = .returned (.bool (setB fl p x)) ∧ Below w.heap.size w w' := by
  obtain ⟨A, c, rfl, _, _⟩ := hx.val
  obtain ⟨B, d, rfl, _, _⟩ := hP.val
  have hlt := World.block_lt_of_cell? w _ hc
  have hlt2 := World.block_lt_of_cell? w _ hf
  have HS := (Own.start w).box [.slice A x.p.length c, .bool x.fl, .int .i64 x.dr, .int .i64 x.ds, .string x.v] 57
  have hc2 := ((bcell HS.below).1 bp 0 hlt).trans hc
  have hf2 := ((bcell HS.below).1 bf 0 hlt2).trans hf
  cases he : (x.fl == fl)
  · have HQ := Lib.hid (show setB fl p x = false by unfold setB; rw [he]; rfl)
    go_enter Tryz.func75, Tryz.ntmps75
    go_wp2
    go_ret
    exact ⟨by rw [HQ.out]; rfl, HS.below⟩
  · have HQ := Lib.hid (show setB fl p x = decide (x.p = p) by unfold setB; rw [he]; rfl)
    cases he2 : decide (x.p = p)
    all_goals
      go_enter Tryz.func75, Tryz.ntmps75
      go_wp2_with fail
      refine (slicesEqualS _ _ _ _ _ (HS.old hx) (HS.old hP)).mono ?_; rintro e w1 ⟨rfl, hb⟩; (first | have H' := HS.of_below hb | have H' := HS.drew.of_below hb | have H' := (HS.box0 [_] _).of_below hb | have H' := ((HS.box0 [_] _).box0 [_] _).of_below hb | have H' := (HS.alloc _).of_below hb | have H' := ((HS.alloc _).alloc _).of_below hb); clear HS; have HS := H'; clear H'; have F := HS.facts; simp only [Own.Facts, Own.Cells, World.size_alloc, List.cons_append, List.nil_append, List.eraseIdx_cons_succ, List.eraseIdx_cons_zero, List.eraseIdx_zero, List.tail_cons, Nat.zero_add] at F
      have HQ2 := Lib.hid (HQ.out.trans he2)
      rw [he2]
      clear he he2
      go_wp2
      go_ret
      exact ⟨by rw [HQ2.out]; rfl, HS.below⟩
end Go.Proofs.YtkafflbakgkpcaaGreat
