/- A map that a call owns, while only read: its entries stay, whatever else is written. -/
import Derived.Test.YtgfgkbmebdaieaaMq
namespace Go.Ow
set_option linter.unusedSimpArgs false
set_option linter.unusedVariables false
open Go.RowKit Go.MapKept
attribute [local irreducible] wpQuiet
section
variable {α : Type} [Cd α]
def MapF (e : Nat) (es : Array MapEntry) (clock b : Nat) (g : List (Int × List α)) (w : World) (fp : List Nat) : Prop :=
  ∃ f, w.heap[b]? = some (.map es clock) ∧ fp = b :: f ∧ Vals e Option.none w es.toList g f ∧ ((g.map (·.1)).Nodup ∧ Stamped es clock)

def Ds.mapf [Ty α] (es : Array MapEntry) (clock b : Nat) (g : List (Int × List α)) : Ds := .any (MapF (Ty.id α) es clock b g)
  (by
    rintro w w' fp ⟨f, hb, rfl, hv, hn⟩ hs
    exact ⟨f, (hs b (by simp)).trans hb, rfl, hv.loc (fun x hx => hs x (by simp [hx])), hn⟩)
  (by
    rintro w fp ⟨f, hb, rfl, hv, hn⟩ x hx
    rcases List.mem_cons.1 hx with rfl | h
    · exact (Array.getElem?_eq_some_iff.1 hb).1
    · exact hv.lt x h)

variable [Ty α] {P : Program} {w W : World} {R : List Ds} {t k e : TypeId} {b : Nat} {g : List (Int × List α)}

theorem Own.keep (h : Own W (.map Option.none b g :: R) w) : ∃ es clock, Own W (.mapf es clock b g :: R) w := by
  obtain ⟨hB, fp, ⟨fm, fr, rfl, ⟨es, clock, f, hb, rfl, hv, hn⟩, hR⟩, hnd, hlow⟩ := h
  exact ⟨es, clock, hB, _, ⟨b :: f, fr, rfl, ⟨f, hb, rfl, hv, hn⟩, hR⟩, hnd, hlow⟩
theorem Own.unkeep {es : Array MapEntry} {clock : Nat} (h : Own W (.mapf es clock b g :: R) w) : Own W (.map Option.none b g :: R) w := by
  obtain ⟨hB, fp, ⟨fm, fr, rfl, ⟨f, hb, rfl, hv, hn⟩, hR⟩, hnd, hlow⟩ := h
  exact ⟨hB, _, ⟨b :: f, fr, rfl, ⟨es, clock, f, hb, rfl, hv, hn⟩, hR⟩, hnd, hlow⟩
/-- What is found at a key: one value for all later worlds. -/
theorem Own.look {es : Array MapEntry} {clock : Nat} (HS : Own W (.mapf es clock b g :: R) w) (ht : P.underlying t = some (.map k e)) (hk : P.underlying k = some (.int .i64)) (hz : ∀ w, (zeroValue e).run P w = .ok (.slice none 0 0) w) (key : Int) :
    ∃ v, (∀ c w', w'.heap[b]? = some (.map es clock) → (Instr.lookup t (.map (some b)) (.int .i64 key) c).run P w' = .ok (if c then .tuple #[v, .bool (mhas g key)] else v) w') ∧
      ∀ {W' w' : World} {R' : List Ds}, Own W' (.mapf es clock b g :: R') w' → w'.heap[b]? = some (.map es clock) ∧ Rd w' v (mget g key) := by
  obtain ⟨_, fp, ⟨fm, fr, rfl, ⟨f, hb, rfl, hv, hn⟩, hR⟩, hnd, hlow⟩ := id HS
  have hks : ∀ x ∈ es.toList, IsKey (.int .i64) x.key := by
    intro x hx
    obtain ⟨j, hj, rfl⟩ := List.getElem_of_mem hx
    have h1 : (es.toList.map (·.key))[j]? = some (es.toList[j].key) := by rw [List.getElem?_map, List.getElem?_eq_getElem hj]; rfl
    rw [hv.keys, List.getElem?_map, Option.map_eq_some_iff] at h1
    obtain ⟨q, _, hq⟩ := h1
    rw [← hq]; exact rfl
  rcases findNow_spec (d := .int .i64) (k := .int .i64 key) rfl es.toList 0 hks with ⟨h1, h2⟩ | ⟨j, m, h1, h2, h3⟩
  · have habs : ∀ p ∈ g, p.1 ≠ key := by
      intro p hp hpk
      obtain ⟨j, hj, rfl⟩ := List.getElem_of_mem hp
      have h3 : (g.map (fun p => Value.int .i64 p.1))[j]? = some (Value.int .i64 key) := by rw [List.getElem?_map, List.getElem?_eq_getElem hj]; simp [hpk]
      rw [← hv.keys, List.getElem?_map, Option.map_eq_some_iff] at h3
      obtain ⟨x, hx, hxk⟩ := h3
      exact h2 x (List.mem_of_getElem? hx) hxk
    have hg : mget g key = [] := by
      unfold mget
      rw [List.find?_eq_none.2 (by intro p hp; simpa using habs p hp)]; rfl
    have hh : mhas g key = false := by unfold mhas; rw [List.any_eq_false]; intro p hp; simpa using habs p hp
    refine ⟨.slice none 0 0, fun c w' hb' => by
      rw [hh]
      simp [Instr.lookup, run_underlying ht, MapKept.run_getObj_map hb', run_checkKey hk (show IsKey (.int .i64) (.int .i64 key) from rfl) _ 9999, run_findKey hk h1, hz, Result.andThen], ?_⟩
    rintro W' w' R' ⟨_, fp', ⟨fm', fr', rfl, ⟨f', hb', rfl, hv', hn'⟩, hR'⟩, _⟩
    rw [hg]
    exact ⟨hb', none, 0, rfl, Nat.zero_le _, Nat.zero_le _, Nat.zero_le _, fun _ => rfl, fun i hi => by simp at hi⟩
  · obtain ⟨f1, f2, hp, hd, hv2, hh⟩ := Vals.take (k := key) hv hn.1 h2 h3
    refine ⟨m.val, fun c w' hb' => by
      rw [hh]
      simp [Instr.lookup, run_underlying ht, MapKept.run_getObj_map hb', run_checkKey hk (show IsKey (.int .i64) (.int .i64 key) from rfl) _ 9999, run_findKey hk h1, Result.andThen], ?_⟩
    rintro W' w' R' ⟨_, fp', ⟨fm', fr', rfl, ⟨f', hb', rfl, hv', hn'⟩, hR'⟩, _⟩
    obtain ⟨f1, f2, hp, hd, hv2, hh⟩ := Vals.take (k := key) hv' hn'.1 h2 h3
    exact ⟨hb', hd.rd⟩
end
end Go.Ow
