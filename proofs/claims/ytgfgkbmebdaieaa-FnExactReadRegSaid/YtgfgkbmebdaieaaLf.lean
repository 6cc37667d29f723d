/- Leaves, states and what is made of them, as plain Lean. -/
import Derived.Test.YtgfgkbmebdaieaaHl
namespace Go.Ow
set_option linter.unusedSimpArgs false
set_option linter.unusedVariables false
open Go.RowKit
structure Lf where
  p : List ByteArray
  fl : Bool
  dr : Int
  ds : Int
  v : ByteArray
  deriving DecidableEq
structure St where
  l : List Lf
  c : List Rn
  deriving DecidableEq
structure Rp where
  id : Int
  s : St
  d : St
  deriving DecidableEq
structure Dcd where
  b : List UInt8
  tk : Int
  fd : Int
  deriving DecidableEq
structure Pp where
  f : Int
  t : Int
  m : List (List UInt8)
  d : Dcd
  deriving DecidableEq
structure Wd where
  r : List Rp
  p : List Pp
  deriving DecidableEq
section
variable [Ty ByteArray]
instance instCdLf : Cd Lf := Cd.iso (fun x : Lf => (x.p, x.fl, x.dr, x.ds, x.v))
variable [Ty Rn] [Ty Lf]
instance instCdSt : Cd St := Cd.iso (fun x : St => (x.l, x.c))
instance instCdRp : Cd Rp := Cd.iso (fun x : Rp => (x.id, x.s, x.d))
end
section
variable [Ty UInt8] [Ty (List UInt8)]
instance instCdDcd : Cd Dcd := Cd.iso (fun x : Dcd => (x.b, x.tk, x.fd))
instance instCdPp : Cd Pp := Cd.iso (fun x : Pp => (x.f, x.t, x.m, x.d))
end
section
variable [Ty ByteArray] {w : World}
theorem Lf.open_ {x : Lf} {cs : List Value} (h : Cd.rd w x cs) : ∃ vp : Value, cs = [vp, .bool x.fl, .int .i64 x.dr, .int .i64 x.ds, .string x.v] ∧ Rd w vp x.p := by
  obtain ⟨a, b, rfl, ⟨vp, rfl, hr⟩, c, d, rfl, hc, e, f, rfl, he, g, k, rfl, hg, hk⟩ := h
  exact ⟨vp, by rw [show c = [.bool x.fl] from hc, show e = [.int .i64 x.dr] from he, show g = [.int .i64 x.ds] from hg, show k = [.string x.v] from hk]; rfl, hr⟩
theorem Lf.shut_ {x : Lf} {vp : Value} (h : Rd w vp x.p) : Cd.rd w x [vp, .bool x.fl, .int .i64 x.dr, .int .i64 x.ds, .string x.v] :=
  ⟨[vp], _, rfl, ⟨vp, rfl, h⟩, [.bool x.fl], _, rfl, rfl, [.int .i64 x.dr], _, rfl, rfl, [.int .i64 x.ds], [.string x.v], rfl, rfl, rfl⟩
variable [Ty Rn] [Ty Lf]
theorem St.open_ {x : St} {cs : List Value} (h : Cd.rd w x cs) : ∃ vl vc : Value, cs = [vl, vc] ∧ Rd w vl x.l ∧ Rd w vc x.c := by
  obtain ⟨a, b, rfl, ⟨vl, rfl, hl⟩, vc, rfl, hc⟩ := h
  exact ⟨vl, vc, rfl, hl, hc⟩
theorem St.shut_ {x : St} {vl vc : Value} (h : Rd w vl x.l) (h2 : Rd w vc x.c) : Cd.rd w x [vl, vc] := ⟨[vl], [vc], rfl, ⟨vl, rfl, h⟩, vc, rfl, h2⟩
theorem Rp.open_ {x : Rp} {cs : List Value} (h : Cd.rd w x cs) : ∃ a b c d : Value, cs = [.int .i64 x.id, a, b, c, d] ∧ Cd.rd w x.s [a, b] ∧ Cd.rd w x.d [c, d] := by
  obtain ⟨i, r, rfl, hi, s, t, rfl, hs, ht⟩ := h
  obtain ⟨a, b, rfl, _⟩ := St.open_ hs
  obtain ⟨c, d, rfl, _⟩ := St.open_ ht
  exact ⟨a, b, c, d, by rw [show i = [.int .i64 x.id] from hi]; rfl, hs, ht⟩
end
/-- A cell of a slice's element, in all later worlds. -/
theorem rd_elem {α : Type} [Cd α] {w : World} {b o n c : Nat} {xs : List α} (h : Rd w (.slice (some ⟨b, o, none⟩) n c) xs) (i : Nat) (hi : i < xs.length) :
    ∃ cs, Cd.rd w xs[i] cs ∧ ∀ j, j < Cd.z α → w.cell? ⟨b, o + i * Cd.z α + j, none⟩ = cs[j]? := by
  obtain ⟨A, c', he, _, _, _, _, h4⟩ := h
  obtain ⟨b', o', cs, rfl, hr, hc⟩ := h4 i hi
  injection he with he _ _
  injection he with he
  injection he with h1 h2
  subst h1 h2
  exact ⟨cs, hr, hc⟩
theorem rd_lt_size {α : Type} [Cd α] {w : World} {b o n c : Nat} {xs : List α} (h : Rd w (.slice (some ⟨b, o, none⟩) n c) xs) (hx : 0 < xs.length) : b < w.heap.size := by
  obtain ⟨cs, hr, hc⟩ := rd_elem h 0 hx
  have h0 := hc 0 Cd.zpos
  rw [List.getElem?_eq_getElem (by rw [Cd.rd_len hr]; exact Cd.zpos)] at h0
  exact World.block_lt_of_cell? w _ h0
section
variable [Ty ByteArray] {w : World}
/-- A leaf in a slice that is read, in all later worlds. -/
theorem Lf.rd {b o n c : Nat} {xs : List Lf} (h : Rd w (.slice (some ⟨b, o, none⟩) n c) xs) (i : Nat) (hi : i < xs.length) :
    ∃ vp : Value, ∀ w', Below w.heap.size w w' → Rd w' vp xs[i].p ∧ w'.cell? ⟨b, o + i * 5, none⟩ = some vp ∧ w'.cell? ⟨b, o + i * 5 + 1, none⟩ = some (.bool xs[i].fl) ∧ w'.cell? ⟨b, o + i * 5 + 2, none⟩ = some (.int .i64 xs[i].dr) ∧
      w'.cell? ⟨b, o + i * 5 + 3, none⟩ = some (.int .i64 xs[i].ds) ∧ w'.cell? ⟨b, o + i * 5 + 4, none⟩ = some (.string xs[i].v) := by
  obtain ⟨cs, hr, hc⟩ := rd_elem h i hi
  obtain ⟨vp, rfl, hp⟩ := Lf.open_ hr
  have hlt := rd_lt_size h (by omega)
  refine ⟨vp, fun w' hb => ⟨hp.bel hb, ?_, ?_, ?_, ?_, ?_⟩⟩
  · exact (hb.cell (p := ⟨b, o + i * 5, none⟩) hlt).trans (hc 0 (show 0 < 5 by decide))
  · exact (hb.cell (p := ⟨b, o + i * 5 + 1, none⟩) hlt).trans (hc 1 (show 1 < 5 by decide))
  · exact (hb.cell (p := ⟨b, o + i * 5 + 2, none⟩) hlt).trans (hc 2 (show 2 < 5 by decide))
  · exact (hb.cell (p := ⟨b, o + i * 5 + 3, none⟩) hlt).trans (hc 3 (show 3 < 5 by decide))
  · exact (hb.cell (p := ⟨b, o + i * 5 + 4, none⟩) hlt).trans (hc 4 (show 4 < 5 by decide))
end
theorem str_eq (a b : ByteArray) : (a.toList == b.toList) = decide (a = b) := by
  rw [Bool.eq_iff_iff, ByteArray.toList_eq, ByteArray.toList_eq]
  simp only [beq_iff_eq, decide_eq_true_eq]
  exact ⟨fun h => ByteArray.ext (Array.ext' h), fun h => by rw [h]⟩
theorem Sg.rd {w : World} {b o n c : Nat} {xs : List ByteArray} (h : Rd w (.slice (some ⟨b, o, none⟩) n c) xs) (i : Nat) (hi : i < xs.length) : w.cell? ⟨b, o + i, none⟩ = some (.string xs[i]) := by
  have := h.get i hi 0 (by decide)
  have e : o + i * Cd.z ByteArray + 0 = o + i := by show o + i * 1 + 0 = _; omega
  rw [e] at this
  exact this
end Go.Ow
