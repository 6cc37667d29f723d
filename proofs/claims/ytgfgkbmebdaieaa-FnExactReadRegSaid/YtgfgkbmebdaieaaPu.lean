/- The data of the program, as plain Lean. -/
import Derived.Test.YtgfgkbmebdaieaaOw
namespace Go.Ow
set_option linter.unusedSimpArgs false
set_option linter.unusedVariables false
open Go.RowKit

structure Rn where
  r : Int
  f : Int
  t : Int
  deriving DecidableEq

instance : Fl Rn := Fl.iso (fun r : Rn => (r.r, r.f, r.t))

/-! ### contexts -/
def runOk (x : Rn) : Bool := decide (0 ≤ x.r) && (decide (x.r < 8) && (decide (1 ≤ x.f) && (decide (x.f ≤ x.t) && decide (x.t ≤ 1000000000))))
def apart (x y : Rn) : Bool := decide (x.r < y.r) || (decide (x.r = y.r) && decide (wrap64 (x.t + 1) < y.f))

def okPre : Option Rn → List Rn → Bool
  | _, [] => true
  | p, x :: l => runOk x && (match p with | none => true | some q => apart q x) && okPre (some x) l
def ctxOk (xs : List Rn) : Bool := okPre none xs && decide (xs.length ≤ 1000)
def prev (xs : List Rn) (i : Nat) : Option Rn := if i = 0 then none else xs[i - 1]?
theorem prev_succ {xs : List Rn} {k : Nat} (h : k < xs.length) : prev xs (k + 1) = some xs[k] := by simp [prev, h]
theorem fill_set {α : Type} (xs : List α) (z : α) (k : Nat) (h : k < xs.length) : (xs.take k ++ List.replicate (xs.length - k) z).set k xs[k] = xs.take (k + 1) ++ List.replicate (xs.length - (k + 1)) z := by
  rw [show xs.length - k = (xs.length - (k + 1)) + 1 by omega, List.replicate_succ, List.set_append_right _ _ (by simp; omega), List.take_succ_eq_append_getElem h]
  rw [show k - (xs.take k).length = 0 by simp; omega, List.set_cons_zero, List.append_assoc]; rfl

theorem u8_of (n : Nat) : IntKind.u8.wrap (n : Int) = ((UInt8.ofNat n).toNat : Int) := by
  simp [IntKind.wrap, IntKind.bits, IntKind.signed]
theorem Own.fix {α : Type} [Fl α] [Ty α] {W w : World} {R : List Ds} {A : Option Addr} {n c : Nat} {xs : List α} (h : Own W (.own (.slice A n c) xs :: R) w) (hx : 0 < xs.length) : ∃ g, A = some ⟨g, 0, none⟩ := by
  obtain ⟨g, cap, he, _⟩ := h.row hx
  injection he with he1 he2 he3
  exact ⟨g, he1⟩
theorem Own.nil {α : Type} [Cd α] [Ty α] {W w : World} {R : List Ds} (h : Own W R w) : Own W (.own (.slice none 0 0) ([] : List α) :: R) w :=
  Own.call (Rn := [.own _ _]) h ⟨Below.refl _ _, [], ⟨[], [], rfl, .inl ⟨rfl, rfl, rfl⟩, rfl⟩, by simp, by simp⟩
section
variable {w W : World} {R : List Ds}
theorem By.rd {b o n c : Nat} {xs : List UInt8} (h : Rd w (.slice (some ⟨b, o, none⟩) n c) xs) (i : Nat) (hi : i < xs.length) : w.cell? ⟨b, o + i, none⟩ = some (.int .u8 (xs[i].toNat : Int)) := by
  have := h.get i hi 0 (by decide)
  have e : o + i * Cd.z UInt8 + 0 = o + i := by show o + i * 1 + 0 = _; omega
  rw [e] at this
  exact this
theorem By.row {g n cap : Nat} [Ty UInt8] {xs : List UInt8} (h : Own W (.own (.slice (some ⟨g, 0, none⟩) n cap) xs :: R) w) (i : Nat) (hi : i < xs.length) :
    w.cell? ⟨g, i, none⟩ = some (.int .u8 (xs[i].toNat : Int)) ∧ ∀ j, w.frozen? ⟨g, j, none⟩ = false := by
  have := h.rowc.1 i hi 0 (by decide)
  have e : i * Cd.z UInt8 + 0 = i := by show i * 1 + 0 = _; omega
  rw [e] at this
  exact ⟨this, h.rowc.2⟩
theorem By.put {g n cap : Nat} [Ty UInt8] {xs : List UInt8} (h : Own W (.own (.slice (some ⟨g, 0, none⟩) n cap) xs :: R) w) (i : Nat) (hi : i < xs.length) (x : UInt8) :
    Own W (.own (.slice (some ⟨g, 0, none⟩) n cap) (xs.set i x) :: R) (w.setCell ⟨g, i, none⟩ (.int .u8 (x.toNat : Int))) := by
  have := h.put i hi 0 (by decide) (.int .u8 (x.toNat : Int)) x rfl
  have e : i * Cd.z UInt8 + 0 = i := by show i * 1 + 0 = _; omega
  rw [e] at this
  exact this
end
set_option maxRecDepth 100000 in
section
variable {w W : World} {R : List Ds}
theorem Rn.rd {b o n c : Nat} {xs : List Rn} (h : Rd w (.slice (some ⟨b, o, none⟩) n c) xs) (i : Nat) (hi : i < xs.length) :
    w.cell? ⟨b, o + i * 3, none⟩ = some (.int .i64 xs[i].r) ∧ w.cell? ⟨b, o + i * 3 + 1, none⟩ = some (.int .i64 xs[i].f) ∧ w.cell? ⟨b, o + i * 3 + 2, none⟩ = some (.int .i64 xs[i].t) :=
  ⟨h.get i hi 0 (by decide), h.get i hi 1 (by decide), h.get i hi 2 (by decide)⟩
theorem Rn.row [Ty Rn] {g n cap : Nat} {xs : List Rn} (h : Own W (.own (.slice (some ⟨g, 0, none⟩) n cap) xs :: R) w) (i : Nat) (hi : i < xs.length) :
    (w.cell? ⟨g, i * 3, none⟩ = some (.int .i64 xs[i].r) ∧ w.cell? ⟨g, i * 3 + 1, none⟩ = some (.int .i64 xs[i].f) ∧ w.cell? ⟨g, i * 3 + 2, none⟩ = some (.int .i64 xs[i].t)) ∧ ∀ j, w.frozen? ⟨g, j, none⟩ = false :=
  ⟨⟨h.rowc.1 i hi 0 (by decide), h.rowc.1 i hi 1 (by decide), h.rowc.1 i hi 2 (by decide)⟩, h.rowc.2⟩
theorem Rn.put [Ty Rn] {g n cap : Nat} {xs : List Rn} (h : Own W (.own (.slice (some ⟨g, 0, none⟩) n cap) xs :: R) w) (i : Nat) (hi : i < xs.length) (x : Rn) :
    Own W (.own (.slice (some ⟨g, 0, none⟩) n cap) (xs.set i x) :: R) (((w.setCell ⟨g, i * 3, none⟩ (.int .i64 x.r)).setCell ⟨g, i * 3 + 1, none⟩ (.int .i64 x.f)).setCell ⟨g, i * 3 + 2, none⟩ (.int .i64 x.t)) := by
  have h1 := h.put i hi 0 (by decide) (.int .i64 x.r) ⟨x.r, xs[i].f, xs[i].t⟩ rfl
  have h2 := h1.put i (by simpa using hi) 1 (by decide) (.int .i64 x.f) ⟨x.r, x.f, xs[i].t⟩ (by simp; rfl)
  have h3 := h2.put i (by simpa using hi) 2 (by decide) (.int .i64 x.t) x (by simp; rfl)
  have e : (((xs.set i ⟨x.r, xs[i].f, xs[i].t⟩).set i ⟨x.r, x.f, xs[i].t⟩).set i x) = xs.set i x := by simp
  rw [e] at h3
  exact h3
end
end Go.Ow
