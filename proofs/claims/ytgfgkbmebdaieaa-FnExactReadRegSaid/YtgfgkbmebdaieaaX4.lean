/- Texts sorted, each once: the library's calls, and the reference's own. -/
import Derived.Test.YtgfgkbmebdaieaaQ1
import Derived.Test.YtgfgkbmebdaieaaSs
import Derived.Test.YtgfgkbmebdaieaaCv
import Derived.Test.YtgfgkbmebdaieaaAp
import Derived.Shelf.Lay
import Derived.Lib.RowBridge
import Derived.Ground.NamesProg
namespace Go.Proofs
set_option linter.unusedSimpArgs false
set_option linter.unusedVariables false
open Go.Shelf
shelf_lay Lays.n190 Nm 190 at Try as Try.sortS
shelf_lay Lays.n194 Nm 194 at Try as Try.compS
end Go.Proofs
namespace Go.Proofs.Ytgfgkbmebdaieaa
open Go.RowKit Go.Ow
attribute [local irreducible] wpQuiet
set_option maxRecDepth 100000
def srt (xs : List ByteArray) : List (List UInt8) := (xs.map ByteArray.toList).mergeSort fun x y => decide (x ≤ y)
theorem srt_len (xs : List ByteArray) : (srt xs).length = xs.length := by simp [srt, List.length_mergeSort]
theorem sortStrings {W w : World} {R : List Ds} (xs : List ByteArray) (g cap : Nat) (HS : Own W (.own (.slice (some ⟨g, 0, none⟩) xs.length cap) xs :: R) w) :
    Calls Try.prog 80 #[.slice (some ⟨g, 0, none⟩) xs.length cap] w fun e w' => e = .returned (.tuple #[]) ∧ Own W (.own (.slice (some ⟨g, 0, none⟩) xs.length cap) ((srt xs).map toB) :: R) w' := by
  obtain ⟨_, _, _, _, hbig⟩ := (HS.rd 0 rfl).val
  obtain ⟨hh, hlt⟩ := HS.holdsS
  have hcon := Any.slices_Sort_string Try.sortS g 0 cap (xs.map ByteArray.toList) w hh hlt (by simp; omega)
  rw [List.length_map] at hcon
  change Calls Try.prog 80 _ _ _ at hcon
  refine hcon.mono ?_
  rintro e w' ⟨rfl, n, os, rfl⟩
  exact ⟨rfl, HS.sortedS (srt xs) (srt_len xs) n os⟩
theorem compactStrings {W w : World} {R : List Ds} (xs : List ByteArray) (g cap : Nat) (HS : Own W (.own (.slice (some ⟨g, 0, none⟩) xs.length cap) ((srt xs).map toB) :: R) w) :
    Calls Try.prog 81 #[.slice (some ⟨g, 0, none⟩) xs.length cap] w fun e w' => e = .returned (.slice (some ⟨g, 0, none⟩) (onceF [] xs).length cap) ∧ Own W (.own (.slice (some ⟨g, 0, none⟩) (onceF [] xs).length cap) (onceF [] xs) :: R) w' := by
  have hl2 : ((srt xs).map toB).length = xs.length := by rw [List.length_map, srt_len]
  have hl := srt_len xs
  obtain ⟨_, _, he, hcc, hbig⟩ := (HS.rd 0 rfl).val
  injection he with _ _ he
  subst he
  rw [hl2] at hcc hbig
  obtain ⟨hh, hlt⟩ := HS.holdsS
  have e0 : ((srt xs).map toB).map ByteArray.toList = srt xs := by
    rw [List.map_map]
    conv => rhs; rw [← List.map_id (srt xs)]
    exact List.map_congr_left fun x _ => toList_toB x
  rw [e0] at hh
  have hcon := Any.slices_Compact_string Try.compS g 0 cap (srt xs) w hh (by omega) (by omega)
  rw [hl] at hcon
  change Calls Try.prog 81 _ _ _ at hcon
  have e1 : (Lib.compact (srt xs)).map toB = onceF [] xs := lib_once xs
  have e2 : (Lib.compact (srt xs)).length = (onceF [] xs).length := by rw [← e1, List.length_map]
  have e3 : (Lib.compact (srt xs)).length ≤ xs.length := by
    have := Lib.compact_length_le (srt xs)
    omega
  refine hcon.mono ?_
  rintro e w' ⟨rfl, q, rfl⟩
  refine ⟨by rw [e2], ?_⟩
  rw [← hl2] at HS
  have hq := HS.sortedS (Lib.compact (srt xs) ++ List.replicate (xs.length - (Lib.compact (srt xs)).length) []) (by rw [hl2, List.length_append, List.length_replicate]; omega) q #[]
  rw [Go.Sort.grow_empty, List.map_append, e1] at hq
  exact hq.cut
end Go.Proofs.Ytgfgkbmebdaieaa
