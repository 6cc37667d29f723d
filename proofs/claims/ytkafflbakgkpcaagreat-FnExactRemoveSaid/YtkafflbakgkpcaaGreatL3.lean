/- The own library, part 3: Gr So Ss. -/
import Derived.Test.YtkafflbakgkpcaaGreatL1
import Derived.Test.YtkafflbakgkpcaaGreatL2
import Derived.Shelf.SlSortCmp.WholeK
import Derived.Shelf.Sort.Plain
import Derived.Shelf.Slices.CompactS

/- No draw is taken back; worlds that grew. -/
namespace Go.Ow
set_option linter.unusedSimpArgs false
set_option linter.unusedVariables false
open Go.RowKit Go.Sort
/-- No draw is taken back. -/
def Gd (w w' : World) : Prop := w.drawn ≤ w'.drawn
theorem Gd.refl (w : World) : Gd w w := Nat.le_refl _
theorem Gd.trans {a b c : World} (h1 : Gd a b) (h2 : Gd b c) : Gd a c := Nat.le_trans h1 h2
theorem Gd.grows {w w' : World} (hd : Gd w w') (hb : Below w.heap.size w w') : ∃ q os', w' = grow (w.drewN q) os' := by
  refine ⟨w'.drawn - w.drawn, w'.heap.extract w.heap.size w'.heap.size, ?_⟩
  have hh : w'.heap = w.heap ++ w'.heap.extract w.heap.size w'.heap.size := by
    have hs := hb.size
    refine Array.ext (by simp; omega) (fun i h1 h2 => ?_)
    by_cases hi : i < w.heap.size
    · rw [Array.getElem_append_left hi]
      have := hb.block i hi
      rw [Array.getElem?_eq_getElem h1, Array.getElem?_eq_getElem hi] at this
      exact Option.some.inj this
    · rw [Array.getElem_append_right (by omega)]
      simp only [Array.getElem_extract]
      congr 1; omega
  have hd' : w.drawn ≤ w'.drawn := hd
  obtain ⟨hp, tp, dr, os, ou⟩ := w'
  have h1 : os = w.os := hb.os
  have h2 : tp = w.tape := hb.tape
  have h3 : ou = w.output := hb.output
  simp only at hh hd'
  unfold grow World.drewN
  simp only [h1, h2, h3]
  congr 1
  omega
end Go.Ow

/- A row that a call owns, behind the library's sort. -/
namespace Go.Ow
set_option linter.unusedSimpArgs false
set_option linter.unusedVariables false
open Go.RowKit Go.Sort Go.Proofs
attribute [local irreducible] wpQuiet
section
variable {α β : Type} [Fl α] [Ty α] [Inhabited β] {W w : World} {R : List Ds}
theorem flat_flatK (enc : β → List Value) (k : Nat) (hk : ∀ x, (enc x).length = k) (d : Array β) : (flatK enc k d).toList = (d.toList.map enc).flatten := by
  have hl : ((d.toList.map enc).flatten).length = d.size * k := by
    rw [length_flatten (k := k) (by intro c hc; obtain ⟨x, _, rfl⟩ := List.mem_map.1 hc; exact hk x)]; simp
  refine List.ext_getElem? fun t => ?_
  by_cases ht : t < d.size * k
  · have hk0 : 0 < k := by rcases Nat.eq_zero_or_pos k with h | h; subst h; simp at ht; exact h
    have hi : t / k < d.size := (Nat.div_lt_iff_lt_mul hk0).2 ht
    have hm : t % k < k := Nat.mod_lt _ hk0
    have e1 : (d.toList.map enc)[t / k]? = some (enc d[t / k]) := by simp [hi]
    have h2 := flatten_at (k := k) (by intro c hc; obtain ⟨x, _, rfl⟩ := List.mem_map.1 hc; exact hk x) e1 hm
    rw [show t / k * k + t % k = t by rw [Nat.mul_comm]; exact Nat.div_add_mod t k] at h2
    rw [h2]
    have h3 := get_flatK enc k d t ht
    rw [getElem!_pos _ _ (by simpa using ht), getElem!_pos d _ hi, getElem!_pos _ _ (by rw [hk]; exact hm)] at h3
    rw [List.getElem?_eq_getElem (by simpa using ht), List.getElem?_eq_getElem (by rw [hk]; exact hm)]
    simpa using h3
  · rw [List.getElem?_eq_none (by simpa using Nat.le_of_not_lt ht), List.getElem?_eq_none (by rw [hl]; omega)]
theorem Own.holdsK {enc : β → List Value} {toA : β → α} (henc : ∀ x, enc x = Fl.fl (toA x)) {g n cap : Nat} {xs : List α} (d : Array β) (hd : d.toList.map toA = xs) (h : Own W (.own (.slice (some ⟨g, 0, none⟩) n cap) xs :: R) w) : HoldsK enc (Cd.z α) w g 0 d ∧ g < w.heap.size := by
  have hlen : xs.length = d.size := by rw [← hd]; simp
  obtain ⟨hc, hf⟩ := h.rowc
  refine ⟨fun t ht => ?_, ?_⟩
  · have ht' : t < d.size * Cd.z α := by simpa using ht
    have hk0 : 0 < Cd.z α := Cd.zpos
    have hi : t / Cd.z α < d.size := (Nat.div_lt_iff_lt_mul hk0).2 ht'
    have hm : t % Cd.z α < Cd.z α := Nat.mod_lt _ hk0
    have := hc (t / Cd.z α) (by omega) (t % Cd.z α) hm
    rw [show t / Cd.z α * Cd.z α + t % Cd.z α = t by rw [Nat.mul_comm]; exact Nat.div_add_mod t _] at this
    refine ⟨?_, by rw [Nat.zero_add]; exact hf t⟩
    rw [Nat.zero_add, this, get_flatK _ _ _ _ ht', getElem!_pos d _ hi, henc]
    have e : xs[t / Cd.z α]'(by omega) = toA d[t / Cd.z α] := by subst hd; simp
    rw [e, List.getElem?_eq_getElem (by rw [fl_len]; exact hm)]
    rw [getElem!_pos _ _ (by rw [fl_len]; exact hm)]
    rfl
  · obtain ⟨_, fp, ⟨f, _, _, hdp, _⟩, _⟩ := h
    rcases hdp with ⟨he, _⟩ | ⟨b, cap', cur, css, fps, he, hg, _⟩
    · injection he with he; cases he
    · injection he with he _ _
      injection he with he
      injection he with he _ _
      subst he
      exact (Array.getElem?_eq_some_iff.1 hg).1
theorem Own.sorted {enc : β → List Value} {toA : β → α} (henc : ∀ x, enc x = Fl.fl (toA x)) {g cap : Nat} {xs : List α} (d : Array β) (hd : d.size = xs.length) (m : Nat) (os : Array Obj) (h : Own W (.own (.slice (some ⟨g, 0, none⟩) xs.length cap) xs :: R) w) :
    Own W (.own (.slice (some ⟨g, 0, none⟩) xs.length cap) (d.toList.map toA) :: R) (sortWorldK enc (Cd.z α) w g 0 m d os) := by
  have hsz : (sortWorldK enc (Cd.z α) w g 0 m d os).heap = (w.heap.modify g (onCells (putCells id 0 (flatK enc (Cd.z α) d)))) ++ os := rfl
  refine Own.upd (R1 := [.own (.slice (some ⟨g, 0, none⟩) xs.length cap) xs]) (R1' := [.own (.slice (some ⟨g, 0, none⟩) xs.length cap) (d.toList.map toA)]) h rfl rfl rfl (by rw [hsz]; simp) ?_
  rintro fp ⟨f1, f2, rfl, hdp, rfl⟩ hnd
  rcases hdp with ⟨he, _⟩ | ⟨b, cap', cur, css, fps, he, hg, h1, h2, h3, hcur, hcl, hfl, htk, hx, rfl⟩
  · injection he with he; cases he
  · injection he with he1 _ he2
    injection he1 with he1
    injection he1 with he1 _ _
    subst he1 he2
    have hlt : g < w.heap.size := (Array.getElem?_eq_some_iff.1 hg).1
    have hfps := (css_fl hcl hfl hx).2
    have hnew : (sortWorldK enc (Cd.z α) w g 0 m d os).heap[g]? = some (.cells (putCells id 0 (flatK enc (Cd.z α) d) cur) (Ty.id α) (0, 0)) := by
      rw [hsz, Array.getElem?_append_left (by simpa using hlt), Array.getElem?_modify, if_pos rfl, hg]; rfl
    have hdl : (d.toList.map toA).length = xs.length := by simp [hd]
    have hle : xs.length * Cd.z α ≤ cur.size := by rw [hcur]; exact Nat.mul_le_mul_right _ h1
    refine ⟨fun i hi hni => ?_, (Value.slice (some ⟨g, 0, none⟩) xs.length cap).ownBlock.toList ++ [], ⟨_, [], rfl, ?_, rfl⟩, by simp [Value.ownBlock], fun y hy => .inl ?_⟩
    · have : g ≠ i := fun e => hni (by simp [e])
      rw [hsz, Array.getElem?_append_left (by simpa using hi), Array.getElem?_modify, if_neg this]
    · refine flat_dp (xs := d.toList.map toA) (base := 0) ⟨by rw [hdl, len_flat, hdl], .inr ⟨g, cap, _, by rw [hdl], Nat.zero_le _, hnew, by rw [hdl]; exact h1, h2, by simp [putCells, hcur], ?_⟩⟩ (by rw [hdl]; exact h3)
      have e : (flatK enc (Cd.z α) d).toList = ((d.toList.map toA).map Fl.fl).flatten := by
        rw [flat_flatK enc _ (fun x => by rw [henc, fl_len]) d]
        congr 1
        rw [List.map_map]
        exact List.map_congr_left fun x _ => henc x
      rw [← e, hdl]
      refine List.ext_getElem? fun t => ?_
      by_cases ht : t < xs.length * Cd.z α
      · rw [List.getElem?_take_of_lt ht]
        have ht2 : t < (flatK enc (Cd.z α) d).size := by simpa [hd] using ht
        have ht3 : t < cur.size := by omega
        rw [Array.getElem?_toList, Array.getElem?_toList]
        simp only [putCells, Array.getElem?_mapIdx, Array.getElem?_eq_getElem ht3, Array.getElem?_eq_getElem ht2, Option.map_some, Nat.zero_le, Nat.zero_add, true_and, ht2, if_true, Nat.sub_zero, id]
        rw [getElem!_pos (flatK enc (Cd.z α) d) t ht2]
      · rw [List.getElem?_eq_none (by simp; omega), List.getElem?_eq_none (by simp [hd]; omega)]
    · simp [Value.ownBlock] at hy
      simp [hy]
end
end Go.Ow

/- A row of one-cell elements that a call owns, behind the library's sort or compaction. -/
namespace Go.Ow
set_option linter.unusedSimpArgs false
set_option linter.unusedVariables false
open Go.RowKit Go.Sort Go.Proofs
attribute [local irreducible] wpQuiet
section
variable {β : Type} [Inhabited β]
theorem get_flat1 (enc : β → Value) (d : Array β) (t : Nat) (h : t < d.size) : (flatK (fun x => [enc x]) 1 d)[t]! = enc d[t]! := by
  rw [get_flatK _ _ _ _ (by omega)]
  simp [Nat.div_one, Nat.mod_one]
theorem putRow_one (enc : β → Value) (w : World) (g off : Nat) (d : Array β) : putRowK (fun x => [enc x]) 1 w g off d = putRow enc w g off d := by
  unfold putRowK putRow
  refine mapBlock_congr w g _ _ fun c e fr _ => ?_
  unfold putCells
  refine Array.ext (by simp) fun i h1 h2 => ?_
  simp only [Array.getElem_mapIdx, size_flatK, Nat.mul_one]
  split
  · rename_i h
    rw [get_flat1 enc d _ (by omega)]; rfl
  · rfl
theorem holds_one (enc : β → Value) {w : World} {g off : Nat} {d : Array β} (h : HoldsK (fun x => [enc x]) 1 w g off d) : Go.Sort.Holds enc w g off d := fun j hj => by
  have := h j (by simpa using hj)
  rw [get_flat1 enc d j hj] at this
  exact this
end
section
variable [Ty ByteArray] {W w : World} {R : List Ds}
omit [Ty ByteArray] in
theorem encS (x : List UInt8) : (fun l => [encStr l]) x = Fl.fl (toB x) := rfl
theorem Own.holdsS {g n cap : Nat} {xs : List ByteArray} (h : Own W (.own (.slice (some ⟨g, 0, none⟩) n cap) xs :: R) w) : Go.Sort.Holds encStr w g 0 (xs.map ByteArray.toList).toArray ∧ g < w.heap.size := by
  have := h.holdsK (enc := fun l => [encStr l]) (toA := toB) encS (xs.map ByteArray.toList).toArray (by
    simp only [List.map_map]
    conv => rhs; rw [← List.map_id xs]
    exact List.map_congr_left fun x _ => toB_toList x)
  exact ⟨holds_one encStr this.1, this.2⟩
theorem Own.sortedS {g cap : Nat} {xs : List ByteArray} (d : List (List UInt8)) (hd : d.length = xs.length) (m : Nat) (os : Array Obj) (h : Own W (.own (.slice (some ⟨g, 0, none⟩) xs.length cap) xs :: R) w) :
    Own W (.own (.slice (some ⟨g, 0, none⟩) xs.length cap) (d.map toB) :: R) (Go.Sort.grow (putRow encStr (Go.Sort.ahead w m) g 0 d.toArray) os) := by
  have := h.sorted (enc := fun l => [encStr l]) (toA := toB) encS d.toArray (by simpa using hd) m os
  unfold sortWorldK at this
  rw [show Cd.z ByteArray = 1 from rfl, putRow_one] at this
  simpa using this
omit [Ty ByteArray] in
/-- A slice cut short. -/
theorem Own.cut {α : Type} [Fl α] [Ty α] {g n cap : Nat} {xs ys : List α} (h : Own W (.own (.slice (some ⟨g, 0, none⟩) n cap) (xs ++ ys) :: R) w) : Own W (.own (.slice (some ⟨g, 0, none⟩) xs.length cap) xs :: R) w := by
  refine Own.upd (R1 := [.own (.slice (some ⟨g, 0, none⟩) n cap) (xs ++ ys)]) (R1' := [.own (.slice (some ⟨g, 0, none⟩) xs.length cap) xs]) h rfl rfl rfl (Nat.le_refl _) ?_
  rintro fp ⟨f1, f2, rfl, hdp, rfl⟩ hnd
  rcases hdp with ⟨he, _⟩ | ⟨b, cap', cur, css, fps, he, hg, h1, h2, h3, hcur, hcl, hfl, htk, hx, rfl⟩
  · injection he with he; cases he
  · injection he with he1 _ he2
    injection he1 with he1
    injection he1 with he1 _ _
    subst he1 he2
    have hf := css_fl hcl hfl hx
    rw [List.length_append] at h1 h3
    refine ⟨fun i _ _ => rfl, (Value.slice (some ⟨g, 0, none⟩) xs.length cap).ownBlock.toList ++ [], ⟨_, [], rfl, ?_, rfl⟩, by simp [Value.ownBlock], fun y hy => .inl ?_⟩
    · refine flat_dp (xs := xs) (base := 0) ⟨len_flat xs, .inr ⟨g, cap, cur, rfl, Nat.zero_le _, hg, by omega, h2, hcur, ?_⟩⟩ (by omega)
      have hle : xs.length * Cd.z α ≤ (xs ++ ys).length * Cd.z α := Nat.mul_le_mul_right _ (by simp)
      have e := congrArg (List.take (xs.length * Cd.z α)) htk
      rw [List.take_take, Nat.min_eq_left hle, hf.1, List.map_append, List.flatten_append] at e
      rw [e]
      exact List.take_left' (len_flat xs)
    · simp [Value.ownBlock] at hy
      simp [hy]
end
end Go.Ow
