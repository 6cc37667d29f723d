/- PutState: the program's side and the reference's. Replicas handed in: copies, sizes, equality; fit states. Replicas: handed in, compared, marked; valid ones. Whole: the program's side and the reference's; marks of replicas. -/
import Derived.Test.YtkafflbakgkpcaaGreatYb
import Derived.Test.YtkafflbakgkpcaaGreatJ4
import Derived.Test.YtkafflbakgkpcaaGreatJ5
import Derived.Test.YtkafflbakgkpcaaGreatL2
import Derived.Test.YtkafflbakgkpcaaGreatHa
import Derived.Test.YtkafflbakgkpcaaGreatJ6
import Derived.Test.YtkafflbakgkpcaaGreatXa
import Derived.Test.YtkafflbakgkpcaaGreatBa
namespace Go.Proofs.YtkafflbakgkpcaaGreat
set_option linter.unusedSimpArgs false
set_option linter.unusedVariables false
open Go.RowKit Go.Ow
attribute [local irreducible] wpQuiet
set_option maxRecDepth 100000
theorem repsL {xs : List Rn} (h : ctxOk xs = true) : ∀ n k : Nat, k + n ≤ 8 → (repsFrom xs n k).length ≤ n * 20020
  | 0, k, _ => by simp [repsFrom]
  | n + 1, k, hk => by
    have h1 := repBytes_len h k (by omega)
    have h3 := ctx_len h
    have h2 := repsL h n (k + 1) (by omega)
    rw [repsFrom, List.length_append]; omega
theorem ctxBytes_len {xs : List Rn} (h : ctxOk xs = true) : (ctxBytes xs).length ≤ 200000 := by
  have h1 := repsL h 8 0 (by omega)
  have h2 : ∀ n k, countFrom xs n k ≤ n := by
    intro n
    induction n with
    | zero => intro k; simp [countFrom]
    | succ n ih => intro k; have := ih (k + 1); rw [countFrom]; split <;> omega
  have h3 := uv_len10 (countFrom xs 8 0) (by have := h2 8 0; omega)
  unfold ctxBytes
  rw [List.length_append]; omega
theorem lfG_ok {s : St} (h : stOk s = true) : ∀ l ∈ s.l, LfG 0 l := by
  intro l hl
  have h1 := stOk_leaf h l hl
  have h2 := okLeaf_dot (stOk_ctx' h) h1
  unfold okLeaf at h1
  simp only [Bool.and_eq_true, decide_eq_true_eq] at h1
  obtain ⟨hp, hv, _, _⟩ := h1
  unfold Go.Ow.pathOk at hp
  simp only [Bool.and_eq_true, decide_eq_true_eq, List.all_eq_true] at hp
  obtain ⟨p1, p2, p3⟩ := hp
  refine ⟨by omega, p2, fun x hx => ?_, hv, ⟨h2.1.1, by have := h2.1.2; omega⟩, by have := h2.2.1; omega, h2.2.2⟩
  have := p3 x hx
  unfold nameOk at this
  simp only [Bool.and_eq_true, decide_eq_true_eq] at this
  exact this.2
def stB (s : St) : List UInt8 := ctxBytes s.c ++ treeB 8 0 s.l
def psR (s : St) : List UInt8 × Nat := if stOk s = true then (if (stB s).length ≤ 4000 then (stB s, 0) else ([], 2)) else ([], 1)
theorem psR_no {s : St} (h : stOk s = false) : psR s = ([], 1) := by unfold psR; rw [if_neg (by simp [h])]
theorem psR_big {s : St} (h : stOk s = true) (h2 : ¬ (stB s).length ≤ 4000) : psR s = ([], 2) := by unfold psR; rw [if_pos h, if_neg h2]
theorem psR_ok {s : St} (h : stOk s = true) (h2 : (stB s).length ≤ 4000) : psR s = (stB s, 0) := by unfold psR; rw [if_pos h, if_pos h2]
theorem stB_len {s : St} (h : stOk s = true) : (stB s).length ≤ 1000000 := by
  have h1 := ctxBytes_len (stOk_ctx' h)
  have h2 := treeB_len 8 0 s.l (lfG_ok h) (stOk_len' h)
  have h3 := stOk_len' h
  have h4 : s.l.length * (70 * 8 + 230) ≤ 1000 * (70 * 8 + 230) := Nat.mul_le_mul_right _ h3
  unfold stB
  rw [List.length_append]; omega
end Go.Proofs.YtkafflbakgkpcaaGreat
namespace Go.Proofs.YtkafflbakgkpcaaGreat
set_option linter.unusedSimpArgs false
set_option linter.unusedVariables false
open Go.RowKit Go.Ow
attribute [local irreducible] wpQuiet
set_option maxRecDepth 100000
def fitB (s : St) : Bool := decide ((psR s).2 = 0)
def rpOk (r : Rp) : Bool := decide (0 ≤ r.id) && (decide (r.id < 8) && (fitB r.s && fitB r.d))
theorem psR_code (s : St) : (psR s).2 ≤ 2 := by
  unfold psR
  split
  · split <;> simp
  · simp
end Go.Proofs.YtkafflbakgkpcaaGreat
namespace Go.Proofs.YtkafflbakgkpcaaGreat
set_option linter.unusedSimpArgs false
set_option linter.unusedVariables false
open Go.RowKit Go.Ow
attribute [local irreducible] wpQuiet
set_option maxRecDepth 100000
/-- What is asked of a replica's parts. -/
def RpW (r : Rp) : Prop := (∀ y ∈ r.s.l, LfW y) ∧ (∀ y ∈ r.d.l, LfW y)
def RpN (r : Rp) (n : Nat) : Prop := (r.s.l.length ≤ n ∧ (∀ y ∈ r.s.l, y.p.length ≤ n) ∧ r.s.c.length ≤ n) ∧ (r.d.l.length ≤ n ∧ (∀ y ∈ r.d.l, y.p.length ≤ n) ∧ r.d.c.length ≤ n)
/-- A replica read in w. -/
structure RdR (w : World) (r : Rp) (a b c d : Value) : Prop where
  sl : Rd w a r.s.l
  sc : Rd w b r.s.c
  dl : Rd w c r.d.l
  dc : Rd w d r.d.c
theorem RdR.old {W w : World} {R : List Ds} {r : Rp} {a b c d : Value} (h : RdR W r a b c d) (HS : Own W R w) : RdR w r a b c d := ⟨HS.old h.sl, HS.old h.sc, HS.old h.dl, HS.old h.dc⟩
end Go.Proofs.YtkafflbakgkpcaaGreat
namespace Go.Proofs.YtkafflbakgkpcaaGreat
set_option linter.unusedSimpArgs false
set_option linter.unusedVariables false
open Go.RowKit Go.Ow
attribute [local irreducible] wpQuiet
set_option maxRecDepth 100000
def whR (r : Rp) : Int × List UInt8 := if rpOk r = true then (2, (psR r.s).1) else (0, [])
end Go.Proofs.YtkafflbakgkpcaaGreat
