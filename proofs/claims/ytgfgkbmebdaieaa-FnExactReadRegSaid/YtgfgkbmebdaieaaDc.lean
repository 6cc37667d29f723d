/- From what a row reads to plain data: a reading of the model, taken as a value of a Lean type. -/
import Derived.Test.YtgfgkbmebdaieaaOw
import Derived.ChangeArms
import Derived.DataReads
import Derived.ProofKit
import Derived.OpenShut
import Derived.ShutString
import Derived.ChangeOld
import Derived.SizedLaws
namespace Go.Ow
set_option linter.unusedSimpArgs false
set_option linter.unusedVariables false
open Go.RowKit

/-- What is known of data that comes in: numbers in their range, strings no longer than memory. -/
class Wf (α : Type) where
  ok : α → Prop
instance : Wf Int := ⟨fun n => -9223372036854775808 ≤ n ∧ n ≤ 9223372036854775807⟩
instance : Wf UInt8 := ⟨fun _ => True⟩
instance : Wf Bool := ⟨fun _ => True⟩
instance : Wf ByteArray := ⟨fun s => s.size ≤ 140737488351232⟩
instance Wf.list {α : Type} [Wf α] : Wf (List α) := ⟨fun xs => xs.length ≤ 140737488351232 ∧ ∀ x ∈ xs, Wf.ok x⟩
instance Wf.pair {α β : Type} [Wf α] [Wf β] : Wf (α × β) := ⟨fun p => Wf.ok p.1 ∧ Wf.ok p.2⟩
@[reducible] def Wf.iso {α β : Type} [Wf α] (f : β → α) : Wf β := ⟨fun b => Wf.ok (f b)⟩

class Dc (P : Program) (α : Type) [Cd α] [Wf α] (t : TypeId) : Prop where
  dc : ∀ {H : Type} {enc : TypeId × Value → H} {w : World} {fuel : Nat} {cs : List Value} {x : DataW H × List MemPlace}, DataW.trod enc P w 0 (fun _ => true) true fuel t cs = some x →
    (∀ n ∈ DataW.weights P t x.1, n ≤ 140737488351232) → ∃ y : α, Cd.rd w y cs ∧ Wf.ok y

section
variable {P : Program} {t : TypeId}
theorem Dc.int (ht : P.underlying t = some (.int .i64)) : Dc P Int t := ⟨by
  intro H enc w fuel cs x h _
  obtain ⟨n, rfl, _, hw⟩ := DataW.trod_int ht h
  refine ⟨n, rfl, ?_⟩
  simp only [Lit.wf, IntKind.min, IntKind.max, IntKind.bits, IntKind.signed] at hw
  simp at hw
  exact ⟨by omega, by omega⟩⟩
theorem Dc.byte (ht : P.underlying t = some (.int .u8)) : Dc P UInt8 t := ⟨by
  intro H enc w fuel cs x h _
  obtain ⟨m, rfl, _, hw⟩ := DataW.trod_int ht h
  have hw' : 0 ≤ m ∧ m ≤ 255 := by
    simp only [Lit.wf, IntKind.min, IntKind.max, IntKind.bits, IntKind.signed] at hw
    simp at hw
    exact ⟨by omega, by omega⟩
  refine ⟨UInt8.ofNat m.toNat, ?_, trivial⟩
  show [Value.int .u8 m] = [Value.int .u8 (((UInt8.ofNat m.toNat).toNat : Nat) : Int)]
  rw [UInt8.toNat_ofNat_of_lt' (by show m.toNat < 256; omega), Int.toNat_of_nonneg hw'.1]⟩
theorem Dc.bool (ht : P.underlying t = some .bool) : Dc P Bool t := ⟨by
  intro H enc w fuel cs x h _
  obtain ⟨b, rfl, _⟩ := DataW.trod_bool ht h
  exact ⟨b, rfl, trivial⟩⟩
theorem Dc.str (ht : P.underlying t = some .string) : Dc P ByteArray t := ⟨by
  intro H enc w fuel cs x h hw
  obtain ⟨s, rfl, rfl, _⟩ := DataW.trod_string ht h
  refine ⟨s, rfl, ?_⟩
  have := hw s.data.toList.length (by simp [DataW.weights])
  exact (by simpa using this : s.size ≤ 140737488351232)⟩

theorem cells_get {w : World} {a : Addr} {n : Nat} {cs : List Value} (h : w.cells? 0 a n = some cs) : cs.length = n ∧ ∀ j, j < n → w.cell? (a.add j) = cs[j]? := by
  unfold World.cells? at h
  rw [if_pos (Nat.zero_le _)] at h
  refine ⟨by rw [mapM_some_length h, List.length_range], fun j hj => ?_⟩
  exact mapM_some_get h j j (by simp [hj])

theorem weights_all {H : Type} {e : TypeId} : ∀ {ds : List (DataW H)} {d : DataW H}, d ∈ ds → ∀ n ∈ DataW.weights P e d, n ∈ DataW.weightsAll P e ds
  | _ :: _, _, .head _, n, hn => by simp [DataW.weightsAll, hn]
  | _ :: _, _, .tail _ h, n, hn => by simp [DataW.weightsAll, weights_all h n hn]

theorem Dc.list {α : Type} [Cd α] [Wf α] [Ty α] {e : TypeId} (he : Dc P α e) (ht : P.underlying t = some (.slice e)) (hz : P.cellsOf e = Cd.z α) (hb : 0 < P.bytesOf e) : Dc P (List α) t := ⟨by
  intro H enc w fuel cs x h hw
  have hzp := Cd.zpos (α := α)
  rcases DataW.trod_slice ht h with ⟨rfl, rfl⟩ | ⟨a, len, cap, elems, rest, n, _, rfl, rfl, _, hl, hm, hlen, hel, hsp, _⟩
  · exact ⟨[], ⟨_, rfl, none, 0, rfl, Nat.zero_le _, Nat.zero_le _, Nat.zero_le _, fun _ => rfl, fun i hi => by simp at hi⟩, Nat.zero_le _, fun _ h => by cases h⟩
  · have hwt : ∀ n ∈ DataW.weights P t (.slice (elems.map (·.1)) (rest.map (·.1)) : DataW H), n ≤ 140737488351232 := hw
    rw [DataW.weights, ht] at hwt
    have hbig : len ≤ 140737488351232 := by
      have := hwt _ (List.mem_cons_self)
      simp only [List.length_map] at this
      have h2 : elems.length * 1 ≤ (elems.length + rest.length) * P.bytesOf e := Nat.mul_le_mul (Nat.le_add_right _ _) hb
      omega
    have each : ∀ i, i < len → ∃ y : α, ∃ cs : List Value, (Cd.rd w y cs ∧ Wf.ok y) ∧ ∀ j, j < Cd.z α → w.cell? ((a.add (i * Cd.z α)).add j) = cs[j]? := by
      intro i hi
      have h1 := hel i hi
      rw [List.getElem?_eq_getElem (by omega), Option.bind_eq_some_iff, hz] at h1
      obtain ⟨ccs, hcs, htr⟩ := h1
      obtain ⟨y, hy⟩ := he.dc htr (fun n hn => hwt n (by
        refine List.mem_cons_of_mem _ (List.mem_append_left _ (weights_all ?_ n hn))
        exact List.mem_map.2 ⟨_, List.getElem_mem (by omega), rfl⟩))
      exact ⟨y, ccs, hy, (cells_get hcs).2⟩
    have hex : ∃ ys : List α, ys.length = len ∧ ∀ i (hi : i < ys.length), ∃ cs : List Value, (Cd.rd w ys[i] cs ∧ Wf.ok ys[i]) ∧ ∀ j, j < Cd.z α → w.cell? ((a.add (i * Cd.z α)).add j) = cs[j]? := by
      clear hel hsp hlen hwt hl hbig hw h
      induction len with
      | zero => exact ⟨[], rfl, fun i hi => by simp at hi⟩
      | succ k ih =>
        obtain ⟨ys, hys, hy⟩ := ih (fun i hi => each i (by omega))
        obtain ⟨y, ccs, h1, h2⟩ := each k (by omega)
        refine ⟨ys ++ [y], by simp [hys], fun i hi => ?_⟩
        by_cases hik : i < ys.length
        · rw [List.getElem_append_left hik]; exact hy i hik
        · have : i = k := by simp at hi; omega
          subst this
          refine ⟨ccs, ?_, h2⟩
          rw [List.getElem_append_right (by omega)]
          simpa using h1
    obtain ⟨ys, hys, hy⟩ := hex
    subst hys
    refine ⟨ys, ⟨_, rfl, some a, cap, rfl, hl, hm, by omega, fun h => (by cases h), fun i hi => ?_⟩, hbig, fun y hym => ?_⟩
    rotate_left
    · obtain ⟨k, hk, rfl⟩ := List.getElem_of_mem hym
      obtain ⟨_, hr, _⟩ := hy k hk
      exact hr.2
    obtain ⟨ccs, ⟨hr, _⟩, hc⟩ := hy i hi
    have hsp0 : a.spot = none := by
      obtain ⟨cc0, ⟨hr0, _⟩, hc0⟩ := hy 0 (by omega)
      have := hc0 0 hzp
      rw [List.getElem?_eq_getElem (by rw [Cd.rd_len hr0]; exact hzp)] at this
      simp only [Nat.zero_mul, Addr.add, if_true] at this
      unfold World.cell? at this
      split at this
      · split at this
        · cases this
        · rename_i h; simpa using h
      · cases this
    obtain ⟨b, o, sp⟩ := a
    simp only at hsp0
    subst hsp0
    refine ⟨b, o, ccs, rfl, hr, fun j hj => ?_⟩
    have := hc j hj
    rw [Addr.add_lit, Addr.add_lit] at this
    exact this⟩

/-! structs -/
theorem weights_each {H : Type} : ∀ {ts : List TypeId} {ds : List (DataW H)} {i : Nat} {t : TypeId} {d : DataW H}, ts[i]? = some t → ds[i]? = some d → ∀ n ∈ DataW.weights P t d, n ∈ DataW.weightsEach P ts ds
  | _ :: _, _ :: _, 0, _, _, ht, hd, n, hn => by
    simp at ht hd; subst ht hd
    simp [DataW.weightsEach, hn]
  | _ :: _, _ :: _, i + 1, _, _, ht, hd, n, hn => by
    simp [DataW.weightsEach, weights_each (i := i) (by simpa using ht) (by simpa using hd) n hn]
  | [], _, _, _, _, ht, _, _, _ => by simp at ht
  | _ :: _, [], _, _, _, _, hd, _, _ => by simp at hd

/-- The fields from here on are those of α, their cells from 'off' on. -/
class DcF (P : Program) (α : Type) [Cd α] [Wf α] (fs : List Field) (off : Nat) : Prop where
  dcf : ∀ {H : Type} {enc : TypeId × Value → H} {w : World} {fuel : Nat} {cs : List Value} {xs : List (DataW H × List MemPlace)}, xs.length = fs.length →
    (∀ (i : Nat) (f : Field), fs[i]? = some f → DataW.trod enc P w 0 (fun _ => true) true fuel f.type ((cs.drop f.offset).take (P.cellsOf f.type)) = xs[i]?) →
    (∀ (i : Nat) (f : Field) x, fs[i]? = some f → xs[i]? = some x → ∀ n ∈ DataW.weights P f.type x.1, n ≤ 140737488351232) → cs.length = off + Cd.z α → ∃ y : α, Cd.rd w y (cs.drop off) ∧ Wf.ok y

theorem DcF.one {α : Type} [Cd α] [Wf α] {f : Field} {off : Nat} (hd : Dc P α f.type) (ho : f.offset = off) (hz : P.cellsOf f.type = Cd.z α) : DcF P α [f] off := ⟨by
  intro H enc w fuel cs xs hl htr hw hlen
  obtain ⟨x, rfl⟩ : ∃ x, xs = [x] := by cases xs with
    | nil => simp at hl
    | cons x r => cases r with
      | nil => exact ⟨x, rfl⟩
      | cons _ _ => simp at hl
  have h0 := htr 0 f rfl
  rw [ho, hz, List.take_of_length_le (by rw [List.length_drop]; omega)] at h0
  exact hd.dc h0 (hw 0 f x rfl rfl)⟩

theorem DcF.cons {α β : Type} [Cd α] [Cd β] [Wf α] [Wf β] {f : Field} {fs : List Field} {off off2 : Nat} (hd : Dc P α f.type) (ho : f.offset = off) (hz : P.cellsOf f.type = Cd.z α) (h2 : off + Cd.z α = off2) (hr : DcF P β fs off2) : DcF P (α × β) (f :: fs) off := ⟨by
  intro H enc w fuel cs xs hl htr hw hlen
  subst h2
  obtain ⟨x, r, rfl⟩ : ∃ x r, xs = x :: r := by cases xs with
    | nil => simp at hl
    | cons x r => exact ⟨x, r, rfl⟩
  have h0 := htr 0 f rfl
  rw [ho, hz] at h0
  obtain ⟨y, hy, hyo⟩ := hd.dc h0 (hw 0 f x rfl rfl)
  have hlen' : cs.length = off + (Cd.z α + Cd.z β) := hlen
  obtain ⟨z, hz', hzo⟩ := hr.dcf (enc := enc) (w := w) (fuel := fuel) (cs := cs) (xs := r) (by simpa using hl) (fun i g hg => htr (i + 1) g (by simpa using hg)) (fun i g x hg hx => hw (i + 1) g x (by simpa using hg) (by simpa using hx)) (by omega)
  refine ⟨(y, z), ⟨(cs.drop off).take (Cd.z α), cs.drop (off + Cd.z α), ?_, hy, hz'⟩, hyo, hzo⟩
  rw [← List.drop_drop, List.take_append_drop]⟩

theorem DcF.iso {α β : Type} [Cd α] [Wf α] {f : β → α} {g : α → β} (hfg : ∀ a, f (g a) = a) {fs : List Field} {off : Nat} (h : DcF P α fs off) : @DcF P β (Cd.iso f) (Wf.iso f) fs off := by
  letI : Cd β := Cd.iso f
  letI : Wf β := Wf.iso f
  exact ⟨fun hl htr hw hlen => by
    obtain ⟨y, hy, ho⟩ := h.dcf hl htr hw hlen
    exact ⟨g y, by show Cd.rd _ (f (g y)) _; rw [hfg]; exact hy, by show Wf.ok (f (g y)); rw [hfg]; exact ho⟩⟩

theorem Dc.struct {α : Type} [Cd α] [Wf α] {fs : Array Field} (h : DcF P α fs.toList 0) (ht : P.underlying t = some (.struct fs)) (hz : P.cellsOf t = Cd.z α) : Dc P α t := ⟨by
  intro H enc w fuel cs x hx hw
  obtain ⟨xs, n, rfl, rfl, hlen, hl, hm⟩ := DataW.trod_struct ht hx
  have hw' : ∀ n ∈ DataW.weights P t (.agg (xs.map (·.1)) : DataW H), n ≤ 140737488351232 := hw
  rw [DataW.weights, ht] at hw'
  have := h.dcf (cs := cs) (xs := xs) (by simpa using hl) (fun i f hf => hm i f (by simpa using hf)) (fun i f y hf hy n hn => hw' n (weights_each (i := i) (by simpa using ⟨f, by simpa using hf, rfl⟩) (by simp [hy]) n hn)) (by rw [hlen, hz, Nat.zero_add])
  rwa [List.drop_zero] at this⟩
end
/-! A row's parameter, opened. -/
section
open Go.WideShapes
variable {P : Program} {t : TypeId} {H : Type} {enc : TypeId × Value → H} {w : World} {fuel : Nat} {v : Value} {x : DataW H × List MemPlace} {b0 : Nat}
theorem open_i (ht : P.underlying t = some (.int .i64)) (hx : DataW.trod enc P w 0 (fun _ => true) true fuel t v.cells.toList = some x) (hw : ∀ n ∈ DataW.weights P t x.1, n ≤ 140737488351232) (wk : Value.okWide P w .any b0 t v) : ∃ n : Int, v = .int .i64 n ∧ Wf.ok n := by
  obtain ⟨n, rfl⟩ := okWide_int ht wk
  obtain ⟨m, hm, hok⟩ := (Dc.int ht).dc hx hw
  have : ([Value.int .i64 n] : List Value) = [Value.int .i64 m] := hm
  injection this with h _
  injection h with _ h
  subst h
  exact ⟨_, rfl, hok⟩
theorem open_b (ht : P.underlying t = some .bool) (hx : DataW.trod enc P w 0 (fun _ => true) true fuel t v.cells.toList = some x) (hw : ∀ n ∈ DataW.weights P t x.1, n ≤ 140737488351232) (wk : Value.okWide P w .any b0 t v) : ∃ b : Bool, v = .bool b ∧ Wf.ok b := by
  obtain ⟨n, rfl⟩ := okWide_bool ht wk
  exact ⟨_, rfl, trivial⟩
theorem open_s (ht : P.underlying t = some .string) (hx : DataW.trod enc P w 0 (fun _ => true) true fuel t v.cells.toList = some x) (hw : ∀ n ∈ DataW.weights P t x.1, n ≤ 140737488351232) (wk : Value.okWide P w .any b0 t v) : ∃ s : ByteArray, v = .string s ∧ Wf.ok s := by
  obtain ⟨n, rfl⟩ := okWide_string ht wk
  obtain ⟨m, hm, hok⟩ := (Dc.str ht).dc hx hw
  have : ([Value.string n] : List Value) = [Value.string m] := hm
  injection this with h _
  injection h with h
  subst h
  exact ⟨_, rfl, hok⟩
theorem open_l {α : Type} [Cd α] [Wf α] [Ty α] {e : TypeId} (dc : Dc P (List α) t) (ht : P.underlying t = some (.slice e)) (hx : DataW.trod enc P w 0 (fun _ => true) true fuel t v.cells.toList = some x) (hw : ∀ n ∈ DataW.weights P t x.1, n ≤ 140737488351232) (wk : Value.okWide P w .any b0 t v) : ∃ xs : List α, Rd w v xs ∧ Wf.ok xs := by
  obtain ⟨a, n, c, rfl⟩ := okWide_slice ht wk
  obtain ⟨xs, ⟨u, hu, hr⟩, hok⟩ := dc.dc hx hw
  have : ([Value.slice a n c] : List Value) = [u] := hu
  injection this with h _
  subst h
  exact ⟨xs, hr, hok⟩
theorem open_t {α : Type} [Cd α] [Wf α] {fs : Array Field} (dc : Dc P α t) (ht : P.underlying t = some (.struct fs)) (hx : DataW.trod enc P w 0 (fun _ => true) true fuel t v.cells.toList = some x) (hw : ∀ n ∈ DataW.weights P t x.1, n ≤ 140737488351232) (wk : Value.okWide P w .any b0 t v) : ∃ (y : α) (cs : List Value), v = .agg cs.toArray ∧ Cd.rd w y cs ∧ Wf.ok y := by
  obtain ⟨cs, rfl, _⟩ := okWide_struct ht wk
  obtain ⟨y, hy, hok⟩ := dc.dc hx hw
  exact ⟨y, cs.toList, by simp, hy, hok⟩
end
end Go.Ow
