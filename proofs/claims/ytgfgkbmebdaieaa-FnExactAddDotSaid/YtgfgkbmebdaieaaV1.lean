/- Spans of one replica, sorted by the library. -/
import Derived.Test.YtgfgkbmebdaieaaM1
import Derived.Test.YtgfgkbmebdaieaaSo
import Derived.Test.YtgfgkbmebdaieaaUo
import Derived.Shelf.Lay
import Derived.Ground.SlsfProg
namespace Go.Proofs
set_option linter.unusedSimpArgs false
set_option linter.unusedVariables false
open Go.Shelf
shelf_lay_g SlLaysF0.n6 Slsf 6 at Try 110 as Try.sortSp
end Go.Proofs
namespace Go.Proofs.Ytgfgkbmebdaieaa
open Go.RowKit Go.Ow Go.Sort Go.Lib Go.Shelf
attribute [local irreducible] wpQuiet
set_option maxRecDepth 100000
theorem mergedCmp (x y : Sp) (W : World) : Calls Try.prog 111 #[.agg #[.int .i64 x.f, .int .i64 x.t], .agg #[.int .i64 y.f, .int .i64 y.t]] W fun e w' => e = .returned (.int .i64 (wrap64 (x.f - y.f))) ∧ ∃ q os', w' = grow (W.drewN q) os' := by
  go_enter Try.func111, Try.ntmps111
  go_wp2
  go_ret
  exact ⟨rfl, 0, _, by rw [alloc_eq_grow, alloc_eq_grow, grow_grow]; rfl⟩
/-- A span as the sort sees it: its From is a sequence number. -/
abbrev SV := { s : Sp // 1 ≤ s.f ∧ s.f ≤ 1000000000 }
instance : Inhabited SV := ⟨⟨⟨1, 1⟩, by decide⟩⟩
def encV (x : SV) : List Value := [.int .i64 x.1.f, .int .i64 x.1.t]
def cfV (x y : SV) : Int := x.1.f - y.1.f
theorem ltV (x y : SV) : ltOf cfV x y = decide (x.1.f < y.1.f) := by
  unfold ltOf cfV
  rw [Bool.eq_iff_iff]; simp; omega
theorem swoV : SWO (ltOf cfV) where
  irrefl x := by rw [ltV]; simp
  trans x y z h1 h2 := by rw [ltV] at *; simp at *; omega
  ntrans x y z h1 h2 := by rw [ltV] at *; simp at *; omega
theorem cmpV (blk off size : Nat) (w : World) : CmpLays Try.prog 111 #[] encV 2 cfV blk off size w :=
  fun m os dk _ x y => by
    have h := mergedCmp x.1 y.1 (sortWorldK encV 2 w blk off m dk os)
    have e : wrap64 (x.1.f - y.1.f) = cfV x y := by have := x.2; have := y.2; unfold cfV wrap64; omega
    rw [e] at h
    exact h
theorem sortSpans {W w : World} {R : List Ds} (l : List Sp) (g cap : Nat) (hl : ∀ s ∈ l, Vs s) (HS : Own W (.own (.slice (some ⟨g, 0, none⟩) l.length cap) l :: R) w) :
    Calls Try.prog 110 #[.slice (some ⟨g, 0, none⟩) l.length cap, .func (.func 111) #[] #[]] w fun e w' => e = .returned (.tuple #[]) ∧ ∃ l' : List Sp, l'.Perm l ∧ l'.Pairwise (fun a b => a.f ≤ b.f) ∧ Own W (.own (.slice (some ⟨g, 0, none⟩) l.length cap) l' :: R) w' := by
  obtain ⟨_, _, _, _, hbig⟩ := (HS.rd 0 rfl).val
  have hv : ∀ s ∈ l, 1 ≤ s.f ∧ s.f ≤ 1000000000 := fun s hs => by have := hl s hs; unfold Vs at this; omega
  obtain ⟨d, hd⟩ : ∃ d : Array SV, d.toList.map (fun x => x.1) = l := ⟨(l.pmap (fun s h => (⟨s, h⟩ : SV)) hv).toArray, by simp [List.map_pmap]⟩
  have hsz : d.size = l.length := by rw [← hd]; simp
  obtain ⟨hh, hlt⟩ := HS.holdsK (enc := encV) (toA := fun x : SV => x.1) (fun x => rfl) d hd
  have eg : ∀ args w, (callFunc 111 args).run Try.prog w = .ok (.enter 111 args) w := enters_of Try.func111 (by kernel_rfl) rfl
  have hcon := AnyQ.slices_SortFunc Try.sortSp 2 (by intro w; kernel_rfl) (by intro w; kernel_rfl) encV (fun _ => rfl) (fun x v hv => by simp [encV] at hv; rcases hv with rfl | rfl <;> rfl) cfV swoV 111 #[] g 0 cap d w eg (cmpV g 0 d.size w) hh hlt (by omega)
  rw [hsz] at hcon
  change Calls Try.prog 110 _ _ _ at hcon
  refine hcon.mono ?_
  rintro e w' ⟨rfl, d', n, os, ⟨hs', _, hp⟩, hso, rfl⟩
  refine ⟨rfl, d'.toList.map (fun x => x.1), ?_, ?_, HS.sorted (enc := encV) (toA := fun x : SV => x.1) (fun x => rfl) d' (by omega) n os⟩
  · rw [← hd]
    refine List.Perm.map _ ?_
    have e1 : (d'.extract 0 d.size) = d' := by rw [← hs']; simp
    have e2 : (d.extract 0 d.size) = d := by simp
    rw [hsz] at hs'
    rw [← hsz, e1, e2] at hp
    exact hp
  · rw [List.pairwise_map]
    rw [List.pairwise_iff_getElem]
    intro i j hi hj hij
    have := hso i j (Nat.zero_le _) hij (by simp at hj; omega)
    rw [ltV, getElem!_pos d' j (by simpa using hj), getElem!_pos d' i (by simpa using hi)] at this
    simp at this ⊢
    omega
end Go.Proofs.Ytgfgkbmebdaieaa
