/- A range over a map that a call owns and does not write. -/
import Derived.Test.YtgfgkbmebdaieaaMr
import Derived.Maps.RangeRun
namespace Go.Ow
set_option linter.unusedSimpArgs false
set_option linter.unusedVariables false
open Go.RowKit Go.MapKept
attribute [local irreducible] wpQuiet
def Ds.iter (r b clock : Nat) (seen : Array Nat) : Ds := .any (fun w fp => w.heap[r]? = some (.mapIter (some b) clock seen clock) ∧ fp = [r])
  (by rintro w w' fp ⟨hb, rfl⟩ hs; exact ⟨(hs r (by simp)).trans hb, rfl⟩)
  (by rintro w fp ⟨hb, rfl⟩ x hx; rw [List.mem_singleton] at hx; subst hx; exact (Array.getElem?_eq_some_iff.1 hb).1)
section
variable {α : Type} [Cd α]
theorem Vals.at_ {e : Nat} {w : World} : ∀ {es : List MapEntry} {g : List (Int × List α)} {fp : List Nat}, Vals e Option.none w es g fp → ∀ m ∈ es, ∃ p ∈ g, m.key = .int .i64 p.1 ∧ ∃ f, Dp e w m.val p.2 f
  | [], [], _, _, m, hm => by cases hm
  | m0 :: es, p :: g, _, ⟨hk, f, f', rfl, hv, hr⟩, m, hm => by
    rw [if_neg (by simp)] at hv
    rcases List.mem_cons.1 hm with rfl | hm
    · exact ⟨p, by simp, hk, f, hv⟩
    · obtain ⟨q, hq, h1, h2⟩ := Vals.at_ hr m hm
      exact ⟨q, by simp [hq], h1, h2⟩
  | [], _ :: _, _, h, _, _ => h.elim
  | _ :: _, [], _, h, _, _ => h.elim
omit [Cd α] in
theorem mget_mem : ∀ {g : List (Int × List α)}, (g.map (·.1)).Nodup → ∀ p ∈ g, mget g p.1 = p.2 ∧ mhas g p.1 = true
  | p0 :: g, hn, p, hp => by
    rw [List.map_cons, List.nodup_cons] at hn
    rcases List.mem_cons.1 hp with rfl | hp
    · simp [mget, mhas]
    · have hne : ¬ p0.1 = p.1 := fun h => hn.1 (by rw [h]; exact List.mem_map.2 ⟨p, hp, rfl⟩)
      have ih := mget_mem hn.2 p hp
      have e : (p0.1 == p.1) = false := by simpa using hne
      simp only [mget, mhas] at ih ⊢
      exact ⟨by simp only [List.find?_cons, e]; exact ih.1, by simp only [List.any_cons, e, Bool.false_or]; exact ih.2⟩
variable [Ty α] {P : Program} {w W : World} {R : List Ds} {b r clock : Nat} {g : List (Int × List α)} {es : Array MapEntry} {seen : Array Nat}
theorem Own.ents (h : Own W (.mapf es clock b g :: R) w) : w.heap[b]? = some (.map es clock) ∧ (∀ m ∈ es.toList, ∃ k, m.key = .int .i64 k ∧ mhas g k = true ∧ Rd w m.val (mget g k)) ∧ Stamped es clock ∧ ∀ k, mhas g k = true → ∃ m ∈ es.toList, m.key = .int .i64 k := by
  obtain ⟨hB, fp, ⟨fm, fr, rfl, ⟨f, hb, rfl, hv, hn⟩, hR⟩, hnd, hlow⟩ := h
  refine ⟨hb, fun m hm => ?_, hn.2, fun k hk => ?_⟩
  · obtain ⟨p, hp, h1, f', h2⟩ := hv.at_ m hm
    have := mget_mem hn.1 p hp
    exact ⟨p.1, h1, this.2, by rw [this.1]; exact h2.rd⟩
  · simp only [mhas, List.any_eq_true, beq_iff_eq] at hk
    obtain ⟨p, hp, rfl⟩ := hk
    have hks := hv.keys
    have : Value.int .i64 p.1 ∈ es.toList.map (·.key) := by rw [hks]; exact List.mem_map.2 ⟨p, hp, rfl⟩
    obtain ⟨m, hm, h⟩ := List.mem_map.1 this
    exact ⟨m, hm, h⟩
/-- The keys that are still to come. -/
def lft (es : Array MapEntry) (seen : Array Nat) (k : Int) : Prop := ∃ e ∈ (leftOf es seen).toList, e.key = .int .i64 k
theorem lft_start (h : Own W (.mapf es clock b g :: R) w) (k : Int) : lft es #[] k ↔ mhas g k = true := by
  obtain ⟨_, h1, _, h2⟩ := h.ents
  have e : leftOf es #[] = es := by
    unfold leftOf
    rw [Array.filter_eq_self]; intro x _; simp
  unfold lft
  rw [e]
  constructor
  · rintro ⟨m, hm, hk⟩
    obtain ⟨j, hj, h3, _⟩ := h1 m hm
    rw [hk] at hj
    injection hj with _ hj
    rw [hj]; exact h3
  · exact h2 k
theorem lft_push (h : Stamped es clock) {e : MapEntry} {k : Int} (he : e ∈ (leftOf es seen).toList) (hk : e.key = .int .i64 k) (j : Int) : lft es (seen.push e.born) j ↔ lft es seen j ∧ j ≠ k := by
  obtain ⟨hm, hs⟩ := mem_left he
  obtain ⟨_, hb, hkk⟩ := h
  unfold lft leftOf
  constructor
  · rintro ⟨x, hx, hxj⟩
    have hx' := Array.mem_filter.1 (Array.mem_toList_iff.1 hx)
    have hc : seen.contains x.born = false ∧ x.born ≠ e.born := by
      have := hx'.2
      rw [contains_push] at this
      simpa using this
    refine ⟨⟨x, Array.mem_toList_iff.2 (Array.mem_filter.2 ⟨hx'.1, by rw [hc.1]; rfl⟩), hxj⟩, fun hjk => hc.2 ?_⟩
    subst hjk
    have hx1 := Array.mem_toList_iff.2 hx'.1
    obtain ⟨a, ha, rfl⟩ := List.getElem_of_mem hx1
    obtain ⟨c, hc2, rfl⟩ := List.getElem_of_mem hm
    have hac : a = c := by
      have hp := List.pairwise_iff_getElem.1 (List.nodup_iff_pairwise_ne.1 hkk)
      rcases Nat.lt_trichotomy a c with hl | hl | hl
      · have := hp a c (by simpa using ha) (by simpa using hc2) hl
        simp only [List.getElem_map] at this
        exact absurd (hxj.trans hk.symm) this
      · exact hl
      · have := hp c a (by simpa using hc2) (by simpa using ha) hl
        simp only [List.getElem_map] at this
        exact absurd (hk.trans hxj.symm) this
    subst hac; rfl
  · rintro ⟨⟨x, hx, hxj⟩, hne⟩
    have hx' := Array.mem_filter.1 (Array.mem_toList_iff.1 hx)
    refine ⟨x, Array.mem_toList_iff.2 (Array.mem_filter.2 ⟨hx'.1, ?_⟩), hxj⟩
    have hxe : x.born ≠ e.born := by
      intro hbe
      obtain ⟨a, ha, rfl⟩ := List.getElem_of_mem (Array.mem_toList_iff.2 hx'.1)
      obtain ⟨c, hc2, rfl⟩ := List.getElem_of_mem hm
      have hac : a = c := by
        have hp := List.pairwise_iff_getElem.1 (List.nodup_iff_pairwise_ne.1 hb)
        rcases Nat.lt_trichotomy a c with hl | hl | hl
        · have := hp a c (by simpa using ha) (by simpa using hc2) hl
          simp only [List.getElem_map] at this
          exact absurd hbe this
        · exact hl
        · have := hp c a (by simpa using hc2) (by simpa using ha) hl
          simp only [List.getElem_map] at this
          exact absurd hbe.symm this
      subst hac
      rw [hxj] at hk
      injection hk with _ hk
      exact hne hk
    have h2 := hx'.2
    rw [contains_push]
    simp at h2 ⊢
    exact ⟨h2, hxe⟩
theorem lft_done (h : (leftOf es seen).size = 0) (k : Int) : ¬ lft es seen k := by
  rintro ⟨e, he, _⟩
  rw [Array.eq_empty_of_size_eq_zero h] at he
  simp at he
variable {ops : Array Oper} {rest : List Oper} {o : Oper} {a : Act} {Q : Exit → Act → World → Prop}
theorem wp_range {t k e : TypeId} (hgd : o.guard = none) (m : Operand) (hop : o.op = Op.range t m) (ht : P.underlying t = some (.map k e)) (HS : Own W (.mapf es clock b g :: R) w) (hm : a.eval m = .map (some b))
    (h : ∀ w', Own W (.iter w.heap.size b clock #[] :: .mapf es clock b g :: R) w' → wpList P ops Q rest (a.put o.dst (.pointer (some ⟨w.heap.size, 0, none⟩))) w') : wpList P ops Q (o :: rest) a w := by
  refine wpList_plain hgd fun _ hK => ?_
  have hb := HS.ents.1
  have hrun : (Instr.range t (.map (some b))).run P w = .ok (.pointer (some ⟨w.heap.size, 0, none⟩)) (w.alloc (.mapIter (some b) clock #[] clock)) := by
    simp [Instr.range, run_underlying ht, MapKept.run_getObj_map hb, Result.andThen]
  unfold Oper.wp
  simp [execOp, hop, hm, hrun, Result.andThen]
  refine hK _ _ (h _ ?_)
  exact Own.call (Rn := [.iter w.heap.size b clock #[]]) HS ⟨(Below.refl _ _).alloc (Nat.le_refl _) _, [w.heap.size], ⟨[w.heap.size], [], rfl, ⟨(MapKept.heap_alloc w _).1, rfl⟩, rfl⟩, by simp, by simp⟩
theorem Own.step (HS : Own W (.iter r b clock seen :: .mapf es clock b g :: R) w) {w1 : World} (hw : w1 = w ∨ w1 = w.drew) (x : Nat) : Own W (.iter r b clock (seen.push x) :: .mapf es clock b g :: R) (ChangeMaps.setBlock w1 r (.mapIter (some b) clock (seen.push x) clock)) := by
  have H1 : Own W (.iter r b clock seen :: .mapf es clock b g :: R) w1 := by rcases hw with rfl | rfl; exact HS; exact HS.drew
  refine Own.upd (R1 := [.iter r b clock seen]) (R1' := [.iter r b clock (seen.push x)]) H1 rfl rfl rfl (by simp [ChangeMaps.setBlock]) ?_
  rintro fp ⟨f1, f2, rfl, ⟨hr, rfl⟩, rfl⟩ hnd
  have hlt : r < w1.heap.size := (Array.getElem?_eq_some_iff.1 hr).1
  refine ⟨fun i _ hi => ?_, [r] ++ [], ⟨[r], [], rfl, ⟨by simp [ChangeMaps.setBlock, hlt], rfl⟩, rfl⟩, by simp, fun y hy => .inl (by simpa using hy)⟩
  have : r ≠ i := fun h => hi (by simp [h])
  simp [ChangeMaps.setBlock, Array.getElem?_setIfInBounds, this]
/-- The step: nothing is left, or one entry comes. -/
theorem wp_next (hgd : o.guard = none) (it : Operand) (hop : o.op = Op.next it false) (HS : Own W (.iter r b clock seen :: .mapf es clock b g :: R) w) (hit : a.eval it = .pointer (some ⟨r, 0, none⟩))
    (hDone : (∀ k, ¬ lft es seen k) → wpList P ops Q rest (a.put o.dst (.tuple #[.bool false])) w)
    (hMore : ∀ (k : Int) (v : Value) (x : Nat) (w' : World), mhas g k = true → lft es seen k → (∀ j, lft es (seen.push x) j ↔ lft es seen j ∧ j ≠ k) → (leftOf es (seen.push x)).size < (leftOf es seen).size →
      Own W (.iter r b clock (seen.push x) :: .mapf es clock b g :: R) w' → Rd w' v (mget g k) → (Instr.entry (.pointer (some ⟨r, 0, none⟩))).run P w' = .ok (.tuple #[.int .i64 k, v]) w' → wpList P ops Q rest (a.put o.dst (.tuple #[.bool true, .int .i64 k, v])) w') : wpList P ops Q (o :: rest) a w := by
  refine wpList_plain hgd fun _ hK => ?_
  have HM := HS.pick 1 rfl
  simp only [List.eraseIdx_cons_succ, List.eraseIdx_cons_zero] at HM
  obtain ⟨hb, hent, hst, _⟩ := HM.ents
  have hr : w.heap[r]? = some (.mapIter (some b) clock seen clock) := by
    obtain ⟨_, fp, ⟨f1, f2, rfl, ⟨hr, _⟩, _⟩, _⟩ := HS
    exact hr
  unfold Oper.wp
  rcases run_next_at (P := P) w o.type r b clock clock seen es clock hr hb hst.1 (Nat.le_refl _) with ⟨h0, hrun⟩ | ⟨e, he, w1, hal, hrun⟩
  · simp [execOp, hop, hit, hrun, Result.andThen]
    exact hK _ _ (hDone (lft_done h0))
  · have H1 := HS.step hal e.born
    have he' := (mem_left he).1
    obtain ⟨k, hk, hh, _⟩ := hent e he'
    have HM1 := H1.pick 1 rfl
    simp only [List.eraseIdx_cons_succ, List.eraseIdx_cons_zero] at HM1
    obtain ⟨hb1, hent1, _, _⟩ := HM1.ents
    obtain ⟨k1, hk1, _, hrd⟩ := hent1 e he'
    obtain rfl : k = k1 := by rw [hk] at hk1; injection hk1
    have hr1 : (ChangeMaps.setBlock w1 r (.mapIter (some b) clock (seen.push e.born) clock)).heap[r]? = some (.mapIter (some b) clock (seen.push e.born) clock) := by
      obtain ⟨_, fp, ⟨f1, f2, rfl, ⟨hr, _⟩, _⟩, _⟩ := H1
      exact hr
    have hen := run_entry_at (P := P) _ r b clock seen es clock e hr1 hb1 he' hst.2.1
    rw [hk] at hen
    simp [execOp, hop, hit, hrun, Result.andThen]
    rw [hk]
    exact hK _ _ (hMore k e.val e.born _ hh ⟨e, he, hk⟩ (lft_push hst he hk) (left_shrinks es seen e he) H1 hrd hen)
end
end Go.Ow
namespace Go.Ow
open Go.RowKit Go.MapKept
/-- How many entries are still to come. -/
def rleft (es : Array MapEntry) (r : Nat) (w : World) : Nat := match w.heap[r]? with | some (.mapIter _ _ seen _) => (leftOf es seen).size | _ => 0
theorem Own.rleft {W w : World} {R : List Ds} {r b clock : Nat} {es : Array MapEntry} {seen : Array Nat} (h : Own W (.iter r b clock seen :: R) w) : rleft es r w = (leftOf es seen).size := by
  obtain ⟨_, fp, ⟨f1, f2, rfl, ⟨hr, _⟩, _⟩, _⟩ := h
  unfold Go.Ow.rleft
  rw [hr]
end Go.Ow
