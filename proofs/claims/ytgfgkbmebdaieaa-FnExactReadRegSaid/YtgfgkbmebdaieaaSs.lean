/- A row of one-cell elements that a call owns, behind the library's sort or compaction. -/
import Derived.Test.YtgfgkbmebdaieaaSo
import Derived.Test.YtgfgkbmebdaieaaLr
import Derived.Shelf.Sort.Plain
import Derived.Shelf.Slices.CompactS
namespace Go.Ow
set_option linter.unusedSimpArgs false
set_option linter.unusedVariables false
open Go.RowKit Go.Sort Go.Proofs
attribute [local irreducible] wpQuiet
section
variable {β : Type} [Inhabited β]
theorem get_flat1 (enc : β → Value) (d : Array β) (t : Nat) (h : t < d.size) : (flatK (fun x => [enc x]) 1 d)[t]! = enc d[t]! := by
  rw [get_flatK _ _ _ _ (by omega)]
  simp [Nat.div_one, Nat.mod_one]
theorem putRow_one (enc : β → Value) (w : World) (g off : Nat) (d : Array β) : putRowK (fun x => [enc x]) 1 w g off d = putRow enc w g off d := by
  unfold putRowK putRow
  refine mapBlock_congr w g _ _ fun c e fr _ => ?_
  unfold putCells
  refine Array.ext (by simp) fun i h1 h2 => ?_
  simp only [Array.getElem_mapIdx, size_flatK, Nat.mul_one]
  split
  · rename_i h
    rw [get_flat1 enc d _ (by omega)]; rfl
  · rfl
theorem holds_one (enc : β → Value) {w : World} {g off : Nat} {d : Array β} (h : HoldsK (fun x => [enc x]) 1 w g off d) : Go.Sort.Holds enc w g off d := fun j hj => by
  have := h j (by simpa using hj)
  rw [get_flat1 enc d j hj] at this
  exact this
end
section
variable [Ty ByteArray] {W w : World} {R : List Ds}
omit [Ty ByteArray] in
theorem encS (x : List UInt8) : (fun l => [encStr l]) x = Fl.fl (toB x) := rfl
theorem Own.holdsS {g n cap : Nat} {xs : List ByteArray} (h : Own W (.own (.slice (some ⟨g, 0, none⟩) n cap) xs :: R) w) : Go.Sort.Holds encStr w g 0 (xs.map ByteArray.toList).toArray ∧ g < w.heap.size := by
  have := h.holdsK (enc := fun l => [encStr l]) (toA := toB) encS (xs.map ByteArray.toList).toArray (by
    simp only [List.map_map]
    conv => rhs; rw [← List.map_id xs]
    exact List.map_congr_left fun x _ => toB_toList x)
  exact ⟨holds_one encStr this.1, this.2⟩
theorem Own.sortedS {g cap : Nat} {xs : List ByteArray} (d : List (List UInt8)) (hd : d.length = xs.length) (m : Nat) (os : Array Obj) (h : Own W (.own (.slice (some ⟨g, 0, none⟩) xs.length cap) xs :: R) w) :
    Own W (.own (.slice (some ⟨g, 0, none⟩) xs.length cap) (d.map toB) :: R) (Go.Sort.grow (putRow encStr (Go.Sort.ahead w m) g 0 d.toArray) os) := by
  have := h.sorted (enc := fun l => [encStr l]) (toA := toB) encS d.toArray (by simpa using hd) m os
  unfold sortWorldK at this
  rw [show Cd.z ByteArray = 1 from rfl, putRow_one] at this
  simpa using this
omit [Ty ByteArray] in
/-- A slice cut short. -/
theorem Own.cut {α : Type} [Fl α] [Ty α] {g n cap : Nat} {xs ys : List α} (h : Own W (.own (.slice (some ⟨g, 0, none⟩) n cap) (xs ++ ys) :: R) w) : Own W (.own (.slice (some ⟨g, 0, none⟩) xs.length cap) xs :: R) w := by
  refine Own.upd (R1 := [.own (.slice (some ⟨g, 0, none⟩) n cap) (xs ++ ys)]) (R1' := [.own (.slice (some ⟨g, 0, none⟩) xs.length cap) xs]) h rfl rfl rfl (Nat.le_refl _) ?_
  rintro fp ⟨f1, f2, rfl, hdp, rfl⟩ hnd
  rcases hdp with ⟨he, _⟩ | ⟨b, cap', cur, css, fps, he, hg, h1, h2, h3, hcur, hcl, hfl, htk, hx, rfl⟩
  · injection he with he; cases he
  · injection he with he1 _ he2
    injection he1 with he1
    injection he1 with he1 _ _
    subst he1 he2
    have hf := css_fl hcl hfl hx
    rw [List.length_append] at h1 h3
    refine ⟨fun i _ _ => rfl, (Value.slice (some ⟨g, 0, none⟩) xs.length cap).ownBlock.toList ++ [], ⟨_, [], rfl, ?_, rfl⟩, by simp [Value.ownBlock], fun y hy => .inl ?_⟩
    · refine flat_dp (xs := xs) (base := 0) ⟨len_flat xs, .inr ⟨g, cap, cur, rfl, Nat.zero_le _, hg, by omega, h2, hcur, ?_⟩⟩ (by omega)
      have hle : xs.length * Cd.z α ≤ (xs ++ ys).length * Cd.z α := Nat.mul_le_mul_right _ (by simp)
      have e := congrArg (List.take (xs.length * Cd.z α)) htk
      rw [List.take_take, Nat.min_eq_left hle, hf.1, List.map_append, List.flatten_append] at e
      rw [e]
      exact List.take_left' (len_flat xs)
    · simp [Value.ownBlock] at hy
      simp [hy]
end
end Go.Ow
