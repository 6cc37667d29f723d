/- Parts of slices, and bytes to strings. -/
import Derived.Test.YtgfgkbmebdaieaaPu
import Derived.Laws.IdiomStrings
import Derived.Lib.BufferRead
namespace Go.Ow
set_option linter.unusedSimpArgs false
set_option linter.unusedVariables false
open Go.RowKit
theorem rd_sub {α : Type} [Cd α] {w : World} {b o n c : Nat} {xs : List α} (h : Rd w (.slice (some ⟨b, o, none⟩) n c) xs) (i k : Nat) (hi : i + k ≤ xs.length) : Rd w (.slice (some ⟨b, o + i * Cd.z α, none⟩) k (c - i)) ((xs.drop i).take k) := by
  obtain ⟨A, c', he, h1, h2, h3, _, h4⟩ := h
  injection he with he1 he2 he3
  subst he1 he3
  have hl : ((xs.drop i).take k).length = k := by simp; omega
  refine ⟨some ⟨b, o + i * Cd.z α, none⟩, c - i, by rw [hl], by omega, by omega, by omega, fun h => (by cases h), fun j hj => ?_⟩
  rw [hl] at hj
  obtain ⟨b', o', cs, he, hr, hc⟩ := h4 (i + j) (by omega)
  injection he with he
  injection he with e1 e2
  subst e1 e2
  refine ⟨b, o + i * Cd.z α, cs, rfl, ?_, fun t ht => ?_⟩
  · have e : ((xs.drop i).take k)[j]'(by omega) = xs[i + j] := by simp
    rw [e]; exact hr
  · have := hc t ht
    rw [Nat.add_mul] at this
    rw [show o + i * Cd.z α + j * Cd.z α + t = o + (i * Cd.z α + j * Cd.z α) + t by omega]
    exact this
/-- A part of no element, wherever it begins. -/
theorem rd_none {α : Type} [Cd α] {w : World} {A : Option Addr} {c : Nat} (hc : c ≤ maxLen) (hA : A = none → c = 0) : Rd w (.slice A 0 c) ([] : List α) :=
  ⟨A, c, rfl, Nat.zero_le _, hc, Nat.zero_le _, hA, fun i hi => by simp at hi⟩
theorem run_cv {P : Program} {w : World} {src dst e : TypeId} {v : Value} {l : List UInt8} (hs : P.underlying src = some (.slice e)) (he : P.underlying e = some (.int .u8)) (hd : P.underlying dst = some .string) (h : Rd w v l) :
    (convert src dst v).run P w = .ok (.string ⟨l.toArray⟩) w := by
  obtain ⟨A, c, rfl, h1, h2, h3, hA, h4⟩ := id h
  cases A with
  | none =>
    obtain rfl := hA rfl
    obtain rfl : l = [] := List.eq_nil_of_length_eq_zero (by omega)
    exact Go.Lib.run_convert_nil_bytes w src dst e 0 hs he hd
  | some ad =>
    refine run_convert_bytes_back w src dst e ad c l hs he hd fun j hj => ?_
    obtain ⟨b, o, cs, hab, _, _⟩ := h4 j hj
    obtain rfl := Option.some.inj hab
    have := By.rd h j hj
    rw [Addr.add_lit]; exact this
theorem rd_subV {α : Type} [Cd α] {w : World} {A : Option Addr} {n c : Nat} {xs : List α} (h : Rd w (.slice A n c) xs) (lo hi : Nat) (h1 : lo ≤ hi) (h2 : hi ≤ xs.length) : Rd w (sliced A lo hi c (Cd.z α)) ((xs.drop lo).take (hi - lo)) := by
  have hn := h.len
  subst hn
  by_cases hx : 0 < xs.length
  · obtain ⟨b, o, rfl⟩ := h.fix hx
    unfold sliced
    by_cases hc : c = lo
    · have : hi - lo = 0 := by obtain ⟨A, c', he, h3, _⟩ := h; injection he with _ _ he; omega
      rw [if_pos hc, this, List.take_zero]
      obtain ⟨A, c', he, h3, h4, _⟩ := h
      injection he with _ _ he
      exact rd_none (by omega) (fun h => by cases h)
    · rw [if_neg hc]
      have := rd_sub h lo (hi - lo) (by omega)
      simpa [Addr.add_lit] using this
  · have e : xs = [] := List.eq_nil_of_length_eq_zero (by omega)
    subst e
    have e2 : lo = 0 := by simp at h2; omega
    have e3 : hi = 0 := by simp at h2; omega
    subst e2 e3
    obtain ⟨A', c', he, h3, h4, _, hA, _⟩ := h
    injection he with he1 _ he2
    subst he1 he2
    unfold sliced
    simp only [List.drop_nil, List.take_nil, Nat.sub_zero]
    refine rd_none h4 (fun h => ?_)
    split at h
    · exact hA h
    · cases A with
      | none => exact hA rfl
      | some a => cases h
theorem run_subV {P : Program} {w : World} {t e z : Nat} (ht : P.underlying t = some (.slice e)) (hz : (sizeOf e).run P w = .ok z w) (A : Option Addr) (n c : Nat) (lo hi : Int) (h0 : 0 ≤ lo) (h1 : lo ≤ hi) (h2 : hi ≤ c) :
    (Instr.sliceAt t (.slice A n c) (some (.int .i64 lo)) (some (.int .i64 hi)) none).run P w = .ok (sliced A lo.toNat hi.toNat c z) w := by
  have he : P.elem t = e := by simp [Program.elem, ht]
  have ht' : P.underlying t = some (.slice (P.elem t)) := by rw [he]; exact ht
  rw [run_sliceAt_slice w t _ _ _ _ ht', run_slice_lh w t A n c ht' .i64 .i64 lo hi h0 h1 h2, he, hz]
  rfl
end Go.Ow
