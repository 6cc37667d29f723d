/- A map that a call owns: its making, the look-up, the store. -/
import Derived.Test.YtgfgkbmebdaieaaMp
namespace Go.Ow
set_option linter.unusedSimpArgs false
set_option linter.unusedVariables false
open Go.RowKit Go.MapKept
attribute [local irreducible] wpQuiet

section
variable {α : Type} [Cd α]
def MapP (e : Nat) (hole : Option Int) (b : Nat) (g : List (Int × List α)) (w : World) (fp : List Nat) : Prop :=
  ∃ es clock f, w.heap[b]? = some (.map es clock) ∧ fp = b :: f ∧ Vals e hole w es.toList g f ∧ ((g.map (·.1)).Nodup ∧ Stamped es clock)

def Ds.map [Ty α] (hole : Option Int) (b : Nat) (g : List (Int × List α)) : Ds := .any (MapP (Ty.id α) hole b g)
  (by
    rintro w w' fp ⟨es, clock, f, hb, rfl, hv, hn⟩ hs
    exact ⟨es, clock, f, (hs b (by simp)).trans hb, rfl, hv.loc (fun x hx => hs x (by simp [hx])), hn⟩)
  (by
    rintro w fp ⟨es, clock, f, hb, rfl, hv, hn⟩ x hx
    rcases List.mem_cons.1 hx with rfl | h
    · exact (Array.getElem?_eq_some_iff.1 hb).1
    · exact hv.lt x h)

variable [Ty α] {P : Program} {w W : World} {R : List Ds} {t k e : TypeId} {b : Nat} {g : List (Int × List α)}

theorem Own.mkmap (h : Own W R w) : Own W (.map Option.none w.heap.size ([] : List (Int × List α)) :: R) (w.alloc (.map #[] 0)) :=
  Own.call (Rn := [.map Option.none w.heap.size ([] : List (Int × List α))]) h ⟨(Below.refl _ _).alloc (Nat.le_refl _) _, [w.heap.size], ⟨[w.heap.size], [], rfl, ⟨#[], 0, [], (MapKept.heap_alloc w _).1, rfl, rfl, by simp, stamped_empty 0⟩, rfl⟩, by simp, by simp⟩

/-- The look-up: what is found is taken out. -/
theorem run_take (HS : Own W (.map Option.none b g :: R) w) (ht : P.underlying t = some (.map k e)) (hk : P.underlying k = some (.int .i64)) (hz : (zeroValue e).run P w = .ok (.slice none 0 0) w) (key : Int) :
    ∃ v, (∀ c, (Instr.lookup t (.map (some b)) (.int .i64 key) c).run P w = .ok (if c then .tuple #[v, .bool (mhas g key)] else v) w) ∧ Own W (.own v (mget g key) :: .map (some key) b g :: R) w := by
  obtain ⟨_, fp, ⟨fm, fr, rfl, ⟨es, clock, f, hb, rfl, hv, hn⟩, hR⟩, hnd, hlow⟩ := id HS
  have hks : ∀ x ∈ es.toList, IsKey (.int .i64) x.key := by
    intro x hx
    obtain ⟨j, hj, rfl⟩ := List.getElem_of_mem hx
    have h1 : (es.toList.map (·.key))[j]? = some (es.toList[j].key) := by rw [List.getElem?_map, List.getElem?_eq_getElem hj]; rfl
    rw [hv.keys, List.getElem?_map, Option.map_eq_some_iff] at h1
    obtain ⟨q, _, hq⟩ := h1
    rw [← hq]; exact rfl
  rcases findNow_spec (d := .int .i64) (k := .int .i64 key) rfl es.toList 0 hks with ⟨h1, h2⟩ | ⟨j, m, h1, h2, h3⟩
  · have habs : ∀ p ∈ g, p.1 ≠ key := by
      intro p hp hpk
      obtain ⟨j, hj, rfl⟩ := List.getElem_of_mem hp
      have h3 : (g.map (fun p => Value.int .i64 p.1))[j]? = some (Value.int .i64 key) := by rw [List.getElem?_map, List.getElem?_eq_getElem hj]; simp [hpk]
      rw [← hv.keys, List.getElem?_map, Option.map_eq_some_iff] at h3
      obtain ⟨x, hx, hxk⟩ := h3
      exact h2 x (List.mem_of_getElem? hx) hxk
    have hg : mget g key = [] := by
      unfold mget
      rw [List.find?_eq_none.2 (by intro p hp; simpa using habs p hp)]; rfl
    have hh : mhas g key = false := by unfold mhas; rw [List.any_eq_false]; intro p hp; simpa using habs p hp
    refine ⟨.slice none 0 0, fun c => by
      rw [hh]
      simp [Instr.lookup, run_underlying ht, MapKept.run_getObj_map hb, run_checkKey hk (show IsKey (.int .i64) (.int .i64 key) from rfl) _ 9999, run_findKey hk h1, hz, Result.andThen], ?_⟩
    rw [hg]
    refine Own.upd (R1 := [.map Option.none b g]) (R1' := [.own (.slice none 0 0) [], .map (some key) b g]) HS rfl rfl rfl (Nat.le_refl _) ?_
    rintro fp ⟨f1, f2, rfl, ⟨es', clock', f', hb', rfl, hv', hn'⟩, rfl⟩ hnd'
    exact ⟨fun _ _ _ => rfl, b :: f', ⟨[], _, rfl, .inl ⟨rfl, rfl, rfl⟩, b :: f', [], by simp, ⟨es', clock', f', hb', rfl, (Vals.absent habs).1 hv', hn'⟩, rfl⟩, by simpa using hnd', fun x hx => .inl (by simpa using hx)⟩
  · obtain ⟨f1, f2, hp, hd, hv2, hh⟩ := Vals.take (k := key) hv hn.1 h2 h3
    refine ⟨m.val, fun c => by
      rw [hh]
      simp [Instr.lookup, run_underlying ht, MapKept.run_getObj_map hb, run_checkKey hk (show IsKey (.int .i64) (.int .i64 key) from rfl) _ 9999, run_findKey hk h1, Result.andThen], ?_⟩
    refine Own.upd (R1 := [.map Option.none b g]) (R1' := [.own m.val (mget g key), .map (some key) b g]) HS rfl rfl rfl (Nat.le_refl _) ?_
    rintro fp ⟨f3, f4, rfl, ⟨es', clock', f', hb', rfl, hv', hn'⟩, rfl⟩ hnd'
    rw [hb] at hb'
    injection hb' with hb'
    injection hb' with he hc
    subst he hc
    obtain ⟨f1, f2, hp, hd, hv2, hh⟩ := Vals.take (k := key) hv' hn.1 h2 h3
    have hperm : (f1 ++ (b :: f2 ++ [])).Perm (b :: f' ++ []) := by
      rw [List.append_nil, List.append_nil]
      exact List.perm_middle.trans (hp.cons b)
    exact ⟨fun _ _ _ => rfl, f1 ++ (b :: f2 ++ []), ⟨f1, _, rfl, hd, b :: f2, [], by simp, ⟨es, clock, f2, hb, rfl, hv2, hn⟩, rfl⟩, hperm.nodup_iff.2 hnd', fun x hx => .inl (hperm.mem_iff.1 hx)⟩

theorem look_at {P : Program} {w w' : World} {t k e : TypeId} {b : Nat} {key : Int} {v : Value} {c : Bool} (hb : w'.heap[b]? = w.heap[b]?) (ht : P.underlying t = some (.map k e)) (hk : P.underlying k = some (.int .i64)) (hz : ∀ w, (zeroValue e).run P w = .ok (.slice none 0 0) w) {es : Array MapEntry} {clock : Nat} (hw : w.heap[b]? = some (.map es clock)) (hks : ∀ x ∈ es.toList, IsKey (.int .i64) x.key)
    (h : (Instr.lookup t (.map (some b)) (.int .i64 key) c).run P w = .ok v w) : (Instr.lookup t (.map (some b)) (.int .i64 key) c).run P w' = .ok v w' := by
  have hw' := hb.trans hw
  rcases findNow_spec (d := .int .i64) (k := .int .i64 key) rfl es.toList 0 hks with ⟨h1, h2⟩ | ⟨j, m, h1, h2, h3⟩
  · simp [Instr.lookup, run_underlying ht, MapKept.run_getObj_map hw, run_checkKey hk (show IsKey (.int .i64) (.int .i64 key) from rfl) _ 9999, run_findKey hk h1, hz, Result.andThen] at h
    simp [Instr.lookup, run_underlying ht, MapKept.run_getObj_map hw', run_checkKey hk (show IsKey (.int .i64) (.int .i64 key) from rfl) _ 9999, run_findKey hk h1, hz, Result.andThen, h]
  · simp [Instr.lookup, run_underlying ht, MapKept.run_getObj_map hw, run_checkKey hk (show IsKey (.int .i64) (.int .i64 key) from rfl) _ 9999, run_findKey hk h1, hz, Result.andThen] at h
    simp [Instr.lookup, run_underlying ht, MapKept.run_getObj_map hw', run_checkKey hk (show IsKey (.int .i64) (.int .i64 key) from rfl) _ 9999, run_findKey hk h1, hz, Result.andThen, h]
theorem run_look (HS : Own W (.map Option.none b g :: R) w) (ht : P.underlying t = some (.map k e)) (hk : P.underlying k = some (.int .i64)) (hz : ∀ w, (zeroValue e).run P w = .ok (.slice none 0 0) w) (key : Int) :
    ∃ v, (∀ c w', Below w.heap.size w w' → (Instr.lookup t (.map (some b)) (.int .i64 key) c).run P w' = .ok (if c then .tuple #[v, .bool (mhas g key)] else v) w') ∧ Own W (.own v (mget g key) :: .map (some key) b g :: R) w := by
  obtain ⟨v, hrun, hown⟩ := run_take HS ht hk (hz w) key
  refine ⟨v, fun c w' hb => ?_, hown⟩
  obtain ⟨_, fp, ⟨fm, fr, rfl, ⟨es, clock, f, hb', rfl, hv, hn⟩, hR⟩, hnd, hlow⟩ := id HS
  refine look_at (w := w) (hb.block b (Array.getElem?_eq_some_iff.1 hb').1) ht hk hz hb' ?_ (hrun c)
  intro x hx
  obtain ⟨j, hj, rfl⟩ := List.getElem_of_mem hx
  have h1 : (es.toList.map (·.key))[j]? = some (es.toList[j].key) := by rw [List.getElem?_map, List.getElem?_eq_getElem hj]; rfl
  rw [hv.keys, List.getElem?_map, Option.map_eq_some_iff] at h1
  obtain ⟨q, _, hq⟩ := h1
  rw [← hq]; exact rfl

/-- The store. -/
theorem run_put {v : Value} {xs : List α} {key : Int} (HS : Own W (.own v xs :: .map (some key) b g :: R) w) (ht : P.underlying t = some (.map k e)) (hk : P.underlying k = some (.int .i64)) :
    ∃ w', (Instr.mapUpdate t (.map (some b)) (.int .i64 key) v).run P w = .ok () w' ∧ Own W (.map Option.none b (mput g key xs) :: R) w' := by
  obtain ⟨_, fp, ⟨fv, _, rfl, hdv, ⟨fm, fr, rfl, ⟨es, clock, f, hb, rfl, hv, hn⟩, hR⟩⟩, hnd, hlow⟩ := id HS
  have hdv' : Dp (Ty.id α) w v xs fv := hdv
  have hks : ∀ x ∈ es.toList, IsKey (.int .i64) x.key := by
    intro x hx
    obtain ⟨j, hj, rfl⟩ := List.getElem_of_mem hx
    have h1 : (es.toList.map (·.key))[j]? = some (es.toList[j].key) := by rw [List.getElem?_map, List.getElem?_eq_getElem hj]; rfl
    rw [hv.keys, List.getElem?_map, Option.map_eq_some_iff] at h1
    obtain ⟨q, _, hq⟩ := h1
    rw [← hq]; exact rfl
  have hbl : b < w.heap.size := (Array.getElem?_eq_some_iff.1 hb).1
  have fin : ∀ (es' : Array MapEntry) (clock' : Nat), Stamped es' clock' → (∀ (w' : World) f' fv', Same w w' fv' → Same w w' f' → Vals (Ty.id α) (some key) w es.toList g f' → Dp (Ty.id α) w v xs fv' → ∃ f2, f2.Perm (fv' ++ f') ∧ Vals (Ty.id α) Option.none w' es'.toList (mput g key xs) f2) →
      Own W (.map Option.none b (mput g key xs) :: R) ({ w with heap := w.heap.setIfInBounds b (.map es' clock') } : World) := by
    intro es' clock' hst hf
    refine Own.upd (R1 := [.own v xs, .map (some key) b g]) (R1' := [.map Option.none b (mput g key xs)]) HS rfl rfl rfl (by simp) ?_
    rintro fp ⟨f1, _, rfl, hd1, ⟨f3, f4, rfl, ⟨es2, clock2, f5, hb2, rfl, hv2, hn2⟩, rfl⟩⟩ hnd'
    have hd1' : Dp (Ty.id α) w v xs f1 := hd1
    rw [hb] at hb2
    injection hb2 with hb2
    injection hb2 with he hc
    subst he hc
    have hne : ∀ x ∈ f1 ++ f5, x ≠ b := by
      intro x hx hxb
      subst hxb
      simp only [List.append_nil, List.nodup_append, List.nodup_cons] at hnd'
      rcases List.mem_append.1 hx with h | h
      · exact hnd'.2.2 x h x (by simp) rfl
      · exact hnd'.2.1.1 h
    have hother : ∀ i, i ≠ b → (w.heap.setIfInBounds b (.map es' clock'))[i]? = w.heap[i]? := by
      intro i hi
      simp [Array.getElem?_setIfInBounds, Ne.symm hi]
    obtain ⟨f2, hp, hv3⟩ := hf { w with heap := w.heap.setIfInBounds b (.map es' clock') } f5 f1 (fun x hx => hother x (hne x (by simp [hx]))) (fun x hx => hother x (hne x (by simp [hx]))) hv2 hd1'
    have hperm : (b :: f2).Perm (f1 ++ (b :: f5)) := ((hp.cons b).trans List.perm_middle.symm)
    refine ⟨fun i _ hi => hother i (fun e => hi (by simp [e])), b :: f2 ++ [], ⟨b :: f2, [], rfl, ⟨es', clock', f2, by simp [hbl], rfl, hv3, ⟨(mput_keys key xs g hn2.1).1, hst⟩⟩, rfl⟩, ?_, fun x hx => .inl ?_⟩
    · rw [List.append_nil]; exact hperm.nodup_iff.2 (by simpa using hnd')
    · simpa using hperm.mem_iff.1 (by simpa using hx)
  rcases findNow_spec (d := .int .i64) (k := .int .i64 key) rfl es.toList 0 hks with ⟨h1, h2⟩ | ⟨j, m, h1, h2, h3⟩
  · have habs : ∀ p ∈ g, p.1 ≠ key := by
      intro p hp hpk
      obtain ⟨j, hj, rfl⟩ := List.getElem_of_mem hp
      have h3 : (g.map (fun p => Value.int .i64 p.1))[j]? = some (Value.int .i64 key) := by rw [List.getElem?_map, List.getElem?_eq_getElem hj]; simp [hpk]
      rw [← hv.keys, List.getElem?_map, Option.map_eq_some_iff] at h3
      obtain ⟨x, hx, hxk⟩ := h3
      exact h2 x (List.mem_of_getElem? hx) hxk
    refine ⟨_, by simp [Instr.mapUpdate, run_underlying ht, MapKept.run_getObj_map hb, run_checkKey hk (show IsKey (.int .i64) (.int .i64 key) from rfl) _ 9999, run_findKey hk h1, MapKept.run_setObj_map _ hb, Result.andThen], fin (es.push ⟨.int .i64 key, v, clock⟩) (clock + 1) (stamped_push hn.2 h2) ?_⟩
    intro w' f' fv' hs1 hs2 hv2 hd2
    refine ⟨f' ++ fv', List.perm_append_comm, ?_⟩
    rw [Array.toList_push]
    exact Vals.push (hd2.loc hs1) _ rfl clock ((Vals.absent habs).2 (hv2.loc hs2)) habs
  · have hstay := run_keyThatStays (P := P) (w := w) (d := .int .i64) (k := .int .i64 key) rfl
    have hj : es[j]? = some m := by rw [← Array.getElem?_toList]; exact h2
    refine ⟨_, by simp [Instr.mapUpdate, run_underlying ht, MapKept.run_getObj_map hb, run_checkKey hk (show IsKey (.int .i64) (.int .i64 key) from rfl) _ 9999, run_findKey hk h1, hj, h3, hstay, MapKept.run_setObj_map _ hb, Result.andThen], fin (es.modify j fun e => { e with key := .int .i64 key, val := v }) clock (stamped_modify hn.2 j _ (fun _ _ => rfl) (fun e _ he => by rw [hj] at he; cases he; exact h3.symm)) ?_⟩
    intro w' f' fv' hs1 hs2 hv2 hd2
    obtain ⟨f2, hp, hv3⟩ := Vals.put (hd2.loc hs1) (.int .i64 key) (hv2.loc hs2) hn.1 h2 h3 rfl
    exact ⟨f2, hp, by rw [Array.toList_modify]; exact hv3⟩

theorem Own.mapAt (HS : Own W (.map Option.none b g :: R) w) : ∃ es clock, w.heap[b]? = some (.map es clock) ∧ es.size = g.length := by
  obtain ⟨_, fp, ⟨fm, fr, rfl, ⟨es, clock, f, hb, rfl, hv, hn⟩, hR⟩, hnd, hlow⟩ := id HS
  refine ⟨es, clock, hb, ?_⟩
  have := congrArg List.length hv.keys
  simpa using this
/-! At an operation. -/
variable {ops : Array Oper} {rest : List Oper} {o : Oper} {a : Act} {Q : Exit → Act → World → Prop} {K : Act → World → Prop} {E : Prop}
theorem op_look (m x : Operand) (c : Bool) (hop : o.op = Op.lookup t m x c) (ht : P.underlying t = some (.map k e)) (hk : P.underlying k = some (.int .i64)) (hz : ∀ w, (zeroValue e).run P w = .ok (.slice none 0 0) w)
    (HS : Own W (.map Option.none b g :: R) w) (hm : a.eval m = .map (some b)) (key : Int) (hx : a.eval x = .int .i64 key)
    (h : ∀ v, Own W (.own v (mget g key) :: .map (some key) b g :: R) w → K (a.put o.dst (if c then .tuple #[v, .bool (mhas g key)] else v)) w) : Oper.wp P o a w K Q := by
  obtain ⟨v, hrun, hown⟩ := run_take HS ht hk (hz w) key
  unfold Oper.wp
  simp [execOp, hop, hm, hx, hrun c, Result.andThen]
  exact h v hown
theorem wp_look (hgd : o.guard = none) (m x : Operand) (c : Bool) (hop : o.op = Op.lookup t m x c) (ht : P.underlying t = some (.map k e)) (hk : P.underlying k = some (.int .i64)) (hz : ∀ w, (zeroValue e).run P w = .ok (.slice none 0 0) w)
    (HS : Own W (.map Option.none b g :: R) w) (hm : a.eval m = .map (some b)) (key : Int) (hx : a.eval x = .int .i64 key)
    (h : ∀ v, Own W (.own v (mget g key) :: .map (some key) b g :: R) w → wpList P ops Q rest (a.put o.dst (if c then .tuple #[v, .bool (mhas g key)] else v)) w) : wpList P ops Q (o :: rest) a w :=
  wpList_plain hgd fun _ hK => op_look m x c hop ht hk hz HS hm key hx (fun v hv => hK _ _ (h v hv))
theorem op_mput (m x y : Operand) (hop : o.op = Op.mapUpdate t m x y) (ht : P.underlying t = some (.map k e)) (hk : P.underlying k = some (.int .i64)) {v : Value} {xs : List α} {key : Int}
    (HS : Own W (.own v xs :: .map (some key) b g :: R) w) (hm : a.eval m = .map (some b)) (hx : a.eval x = .int .i64 key) (hy : a.eval y = v)
    (h : ∀ w', Own W (.map Option.none b (mput g key xs) :: R) w' → K (a.put o.dst undef) w') : Oper.wp P o a w K Q := by
  obtain ⟨w', hrun, hown⟩ := run_put HS ht hk
  unfold Oper.wp
  simp [execOp, hop, hm, hx, hy, hrun, Result.andThen]
  exact h w' hown
theorem wp_mput (hgd : o.guard = none) (m x y : Operand) (hop : o.op = Op.mapUpdate t m x y) (ht : P.underlying t = some (.map k e)) (hk : P.underlying k = some (.int .i64)) {v : Value} {xs : List α} {key : Int}
    (HS : Own W (.own v xs :: .map (some key) b g :: R) w) (hm : a.eval m = .map (some b)) (hx : a.eval x = .int .i64 key) (hy : a.eval y = v)
    (h : ∀ w', Own W (.map Option.none b (mput g key xs) :: R) w' → wpList P ops Q rest (a.put o.dst undef) w') : wpList P ops Q (o :: rest) a w :=
  wpList_plain hgd fun _ hK => op_mput m x y hop ht hk HS hm hx hy (fun w' hw => hK _ _ (h w' hw))
theorem wp_maplen (hgd : o.guard = none) (m : Operand) (hop : o.op = Op.call { callee := Callee.builtin Builtin.len, args := #[m], argTypes := #[t] }) (ht : P.underlying t = some (.map k e))
    (HS : Own W (.map Option.none b g :: R) w) (hm : a.eval m = .map (some b)) (h : wpList P ops Q rest (a.put o.dst (.int .i64 (g.length : Int))) w) : wpList P ops Q (o :: rest) a w := by
  obtain ⟨es, clock, hb, hs⟩ := HS.mapAt
  refine wpList_plain hgd fun _ hK => ?_
  have hrun : (Builtin.len_ #[t] o.type #[.map (some b)]).run P w = .ok (.int .i64 (g.length : Int)) w := by
    simp [Builtin.len_, run_underlying ht, MapKept.run_getObj_map hb, hs]; rfl
  unfold Oper.wp
  simp [execOp, hop, resolve, invoke, builtin, hm, hrun, Result.andThen]
  exact hK _ _ h
theorem wp_mkmap (α : Type) [Cd α] [Ty α] (hgd : o.guard = none) (t : TypeId) (hop : o.op = Op.makeMap t none) (HS : Own W R w)
    (h : ∀ w', Own W (.map Option.none w.heap.size ([] : List (Int × List α)) :: R) w' → wpList P ops Q rest (a.put o.dst (.map (some w.heap.size))) w') : wpList P ops Q (o :: rest) a w := by
  refine wpList_plain hgd fun K' hK' => ?_
  have hrun : (Instr.makeMap t none).run P w = .ok (.map (some w.heap.size)) (w.alloc (.map #[] 0)) := rfl
  unfold Oper.wp
  simp [execOp, hop, hrun, Result.andThen]
  exact hK' _ _ (h _ HS.mkmap)
end
end Go.Ow
