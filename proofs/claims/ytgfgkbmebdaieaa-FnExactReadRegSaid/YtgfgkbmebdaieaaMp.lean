/- A map from integers to slices that a call owns: looked up, appended to, stored. -/
import Derived.Test.YtgfgkbmebdaieaaPu
import Derived.MapKept
namespace Go.Ow
set_option linter.unusedSimpArgs false
set_option linter.unusedVariables false
open Go.RowKit Go.MapKept
attribute [local irreducible] wpQuiet

section
variable {α : Type} [Cd α]

/-- The entries' values: each a slice that is owned, but for the one at 'hole'. -/
def Vals (e : Nat) (hole : Option Int) (w : World) : List MapEntry → List (Int × List α) → List Nat → Prop
  | [], [], fp => fp = []
  | m :: es, p :: g, fp => m.key = .int .i64 p.1 ∧ ∃ f f', fp = f ++ f' ∧ (if hole = some p.1 then f = [] else Dp e w m.val p.2 f) ∧ Vals e hole w es g f'
  | _, _, _ => False

def mget (g : List (Int × List α)) (k : Int) : List α := ((g.find? (fun p => p.1 == k)).map (·.2)).getD []
def mhas (g : List (Int × List α)) (k : Int) : Bool := g.any (fun p => p.1 == k)
def mput : List (Int × List α) → Int → List α → List (Int × List α)
  | [], k, xs => [(k, xs)]
  | p :: g, k, xs => if p.1 = k then (k, xs) :: g else p :: mput g k xs

theorem Vals.loc {e : Nat} {hole : Option Int} {w w' : World} : ∀ {es : List MapEntry} {g : List (Int × List α)} {fp : List Nat}, Vals e hole w es g fp → Same w w' fp → Vals e hole w' es g fp
  | [], [], _, h, _ => h
  | m :: es, p :: g, _, ⟨hk, f, f', rfl, hv, hr⟩, hs => by
    refine ⟨hk, f, f', rfl, ?_, Vals.loc hr (fun b hb => hs b (List.mem_append_right _ hb))⟩
    split at hv
    · rw [if_pos (by assumption)]; exact hv
    · rw [if_neg (by assumption)]; exact Dp.loc hv (fun b hb => hs b (List.mem_append_left _ hb))
  | [], _ :: _, _, h, _ => h.elim
  | _ :: _, [], _, h, _ => h.elim
theorem Vals.lt {e : Nat} {hole : Option Int} {w : World} : ∀ {es : List MapEntry} {g : List (Int × List α)} {fp : List Nat}, Vals e hole w es g fp → ∀ b ∈ fp, b < w.heap.size
  | [], [], _, h, b, hb => by rw [show _ = _ from h] at hb; cases hb
  | m :: es, p :: g, _, ⟨hk, f, f', rfl, hv, hr⟩, b, hb => by
    rcases List.mem_append.1 hb with h | h
    · split at hv
      · subst hv; cases h
      · exact Dp.lt hv b h
    · exact Vals.lt hr b h
  | [], _ :: _, _, h, _, _ => h.elim
  | _ :: _, [], _, h, _, _ => h.elim
theorem Vals.keys {e : Nat} {hole : Option Int} {w : World} : ∀ {es : List MapEntry} {g : List (Int × List α)} {fp : List Nat}, Vals e hole w es g fp → es.map (·.key) = g.map (fun p => Value.int .i64 p.1)
  | [], [], _, _ => rfl
  | m :: es, p :: g, _, ⟨hk, f, f', _, _, hr⟩ => by simp [hk, Vals.keys hr]
  | [], _ :: _, _, h => h.elim
  | _ :: _, [], _, h => h.elim

/-- The hole at a key that is not there. -/
theorem Vals.absent {e : Nat} {w : World} {k : Int} : ∀ {es : List MapEntry} {g : List (Int × List α)} {fp : List Nat}, (∀ p ∈ g, p.1 ≠ k) → (Vals e Option.none w es g fp ↔ Vals e (some k) w es g fp)
  | [], [], _, _ => Iff.rfl
  | m :: es, p :: g, _, h => by
    have h1 := h p (by simp)
    have h2 : some k ≠ some p.1 := by simpa using fun e => h1 e.symm
    constructor
    · rintro ⟨hk, f, f', rfl, hv, hr⟩
      rw [if_neg (by simp)] at hv
      exact ⟨hk, f, f', rfl, by rw [if_neg h2]; exact hv, (Vals.absent (fun q hq => h q (by simp [hq]))).1 hr⟩
    · rintro ⟨hk, f, f', rfl, hv, hr⟩
      rw [if_neg h2] at hv
      exact ⟨hk, f, f', rfl, by rw [if_neg (by simp)]; exact hv, (Vals.absent (fun q hq => h q (by simp [hq]))).2 hr⟩
  | [], _ :: _, _, _ => Iff.rfl
  | _ :: _, [], _, _ => Iff.rfl

/-- What stands at a key, taken out. -/
theorem Vals.take {e : Nat} {w : World} {k : Int} : ∀ {es : List MapEntry} {g : List (Int × List α)} {fp : List Nat} {j : Nat} {m : MapEntry}, Vals e Option.none w es g fp → (g.map (·.1)).Nodup → es[j]? = some m → m.key = .int .i64 k →
    ∃ f f', (f ++ f').Perm fp ∧ Dp e w m.val (mget g k) f ∧ Vals e (some k) w es g f' ∧ mhas g k = true
  | [], _, _, _, _, _, _, hj, _ => by simp at hj
  | m0 :: es, p :: g, _, 0, m, ⟨hk, f, f', rfl, hv, hr⟩, hn, hj, hm => by
    simp at hj; subst hj
    rw [hk] at hm
    injection hm with _ hm
    rw [if_neg (by simp)] at hv
    have hn' : ∀ q ∈ g, q.1 ≠ k := fun q hq hqk => by
      rw [List.map_cons, List.nodup_cons] at hn
      exact hn.1 (List.mem_map.2 ⟨q, hq, by rw [hqk, hm]⟩)
    refine ⟨f, f', .refl _, ?_, ⟨hk, [], f', rfl, by rw [if_pos (by rw [hm])], (Vals.absent hn').1 hr⟩, by simp [mhas, hm]⟩
    simp [mget, hm]; exact hv
  | m0 :: es, p :: g, _, j + 1, m, ⟨hk, f, f', rfl, hv, hr⟩, hn, hj, hm => by
    rw [List.map_cons, List.nodup_cons] at hn
    rw [if_neg (by simp)] at hv
    obtain ⟨a, b, hp, hd, hv', hh⟩ := Vals.take (k := k) hr hn.2 (by simpa using hj) hm
    have hpk : p.1 ≠ k := by
      intro hpk
      simp only [mhas, List.any_eq_true, beq_iff_eq] at hh
      obtain ⟨q, hq, hqk⟩ := hh
      exact hn.1 (List.mem_map.2 ⟨q, hq, by rw [hqk, hpk]⟩)
    refine ⟨a, f ++ b, ?_, ?_, ⟨hk, f, b, rfl, by rw [if_neg (by simpa using fun e => hpk e.symm)]; exact hv, hv'⟩, by simp [mhas] at hh ⊢; exact .inr hh⟩
    · rw [← List.append_assoc]
      exact ((List.perm_append_comm (l₁ := a) (l₂ := f)).append_right b).trans (by rw [List.append_assoc]; exact hp.append_left f)
    · simp only [mget, List.find?_cons, show (p.1 == k) = false by simpa using hpk]; exact hd
  | _ :: _, [], _, _, _, h, _, _, _ => h.elim

/-- Put back at a key that is there. -/
theorem Vals.put {e : Nat} {w : World} {k : Int} {v : Value} {xs : List α} {a : List Nat} (hd : Dp e w v xs a) : ∀ {es : List MapEntry} {g : List (Int × List α)} {fp : List Nat} {j : Nat} {m : MapEntry} (key : Value), Vals e (some k) w es g fp → (g.map (·.1)).Nodup → es[j]? = some m → m.key = .int .i64 k → key = .int .i64 k →
    ∃ fp', fp'.Perm (a ++ fp) ∧ Vals e Option.none w (es.modify j fun e => { e with key := key, val := v }) (mput g k xs) fp'
  | [], _, _, _, _, _, _, _, hj, _, _ => by simp at hj
  | m0 :: es, p :: g, _, 0, m, key, ⟨hk, f, f', rfl, hv, hr⟩, hn, hj, hm, hkey => by
    simp at hj; subst hj
    rw [hk] at hm
    injection hm with _ hm
    rw [if_pos (by rw [hm])] at hv
    subst hv
    have hn' : ∀ q ∈ g, q.1 ≠ k := fun q hq hqk => by
      rw [List.map_cons, List.nodup_cons] at hn
      exact hn.1 (List.mem_map.2 ⟨q, hq, by rw [hqk, hm]⟩)
    refine ⟨a ++ f', by simp, ?_⟩
    simp only [List.modify_zero_cons, mput, if_pos hm]
    exact ⟨hkey, a, f', rfl, by rw [if_neg (by simp)]; exact hd, (Vals.absent hn').2 hr⟩
  | m0 :: es, p :: g, _, j + 1, m, key, ⟨hk, f, f', rfl, hv, hr⟩, hn, hj, hm, hkey => by
    rw [List.map_cons, List.nodup_cons] at hn
    obtain ⟨fp', hp, hv'⟩ := Vals.put hd key hr hn.2 (by simpa using hj) hm hkey
    have hmem : ∃ q ∈ g, q.1 = k := by
      have hks := hr.keys
      have h1 : (es.map (·.key))[j]? = some (Value.int .i64 k) := by rw [List.getElem?_map, show es[j]? = some m by simpa using hj]; simp [hm]
      rw [hks, List.getElem?_map, Option.map_eq_some_iff] at h1
      obtain ⟨q, hq, hqk⟩ := h1
      injection hqk with _ hqk
      exact ⟨q, List.mem_of_getElem? hq, hqk⟩
    have hpk : p.1 ≠ k := by
      obtain ⟨q, hq, hqk⟩ := hmem
      exact fun hpk => hn.1 (List.mem_map.2 ⟨q, hq, by rw [hqk, hpk]⟩)
    rw [if_neg (by simpa using fun e => hpk e.symm)] at hv
    refine ⟨f ++ fp', ?_, ?_⟩
    · refine (hp.append_left f).trans ?_
      rw [← List.append_assoc, ← List.append_assoc]
      exact (List.perm_append_comm (l₁ := f) (l₂ := a)).append_right f'
    · simp only [List.modify_succ_cons, mput, if_neg hpk]
      exact ⟨hk, f, fp', rfl, by rw [if_neg (by simp)]; exact hv, hv'⟩
  | _ :: _, [], _, _, _, _, h, _, _, _, _ => h.elim

/-- Put at a key that is new. -/
theorem Vals.push {e : Nat} {w : World} {k : Int} {v : Value} {xs : List α} {a : List Nat} (hd : Dp e w v xs a) (key : Value) (hkey : key = .int .i64 k) (n : Nat) : ∀ {es : List MapEntry} {g : List (Int × List α)} {fp : List Nat}, Vals e Option.none w es g fp → (∀ p ∈ g, p.1 ≠ k) →
    Vals e Option.none w (es ++ [{ key := key, val := v, born := n }]) (mput g k xs) (fp ++ a)
  | [], [], _, h, _ => by rw [show _ = _ from h]; exact ⟨hkey, a, [], by simp, by rw [if_neg (by simp)]; exact hd, rfl⟩
  | m :: es, p :: g, _, ⟨hk, f, f', rfl, hv, hr⟩, hn => by
    simp only [List.cons_append, mput, if_neg (hn p (by simp))]
    exact ⟨hk, f, f' ++ a, by simp, hv, Vals.push hd key hkey n hr (fun q hq => hn q (by simp [hq]))⟩
  | [], _ :: _, _, h, _ => h.elim
  | _ :: _, [], _, h, _ => h.elim

omit [Cd α] in
theorem mput_keys (k : Int) (xs : List α) : ∀ (g : List (Int × List α)), (g.map (·.1)).Nodup → ((mput g k xs).map (·.1)).Nodup ∧ ∀ a ∈ (mput g k xs).map (·.1), a = k ∨ a ∈ g.map (·.1)
  | [], _ => ⟨by simp [mput], by simp [mput]⟩
  | p :: g, h => by
    rw [List.map_cons, List.nodup_cons] at h
    obtain ⟨h1, h2⟩ := mput_keys k xs g h.2
    by_cases hp : p.1 = k
    · simp only [mput, if_pos hp, List.map_cons, List.nodup_cons]
      exact ⟨⟨by rw [← hp]; exact h.1, h.2⟩, by simp [hp]⟩
    · simp only [mput, if_neg hp, List.map_cons, List.nodup_cons]
      refine ⟨⟨fun hm => ?_, h1⟩, fun a ha => ?_⟩
      · rcases h2 _ hm with h' | h'
        · exact hp h'
        · exact h.1 h'
      · rcases List.mem_cons.1 ha with h' | h'
        · exact .inr (by simp [h'])
        · rcases h2 a h' with h'' | h''
          · exact .inl h''
          · exact .inr (by simp [h''])
omit [Cd α] in
theorem mget_mput (k : Int) (xs : List α) (key : Int) : ∀ (g : List (Int × List α)), mget (mput g k xs) key = if key = k then xs else mget g key
  | [] => by
    by_cases h : key = k
    · subst h; simp [mput, mget]
    · simp [mput, mget, h, Ne.symm h]
  | p :: g => by
    have ih := mget_mput k xs key g
    by_cases hp : p.1 = k
    · by_cases h : key = k
      · simp [mput, mget, hp, h]
      · have h2 : ¬ k = key := fun e => h e.symm
        simp [mput, mget, hp, h, h2]
    · by_cases h : key = k
      · subst h
        simp only [mput, if_neg hp, mget, List.find?_cons, show (p.1 == key) = false by simpa using hp, if_true] at ih ⊢
        exact ih
      · simp only [mput, if_neg hp, mget, List.find?_cons, if_neg h] at ih ⊢
        split
        · rfl
        · exact ih
end
end Go.Ow
