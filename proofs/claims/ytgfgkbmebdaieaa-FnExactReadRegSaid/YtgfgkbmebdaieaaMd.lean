/- A map from dots that a call owns: only its keys are told. -/
import Derived.Test.YtgfgkbmebdaieaaMq
import Derived.Laws.StructEq
namespace Go.Ow
set_option linter.unusedSimpArgs false
set_option linter.unusedVariables false
open Go.RowKit Go.MapKept
attribute [local irreducible] wpQuiet
def dotv (d : Int × Int) : Value := .agg #[.int .i64 d.1, .int .i64 d.2]
theorem dotv_inj {a b : Int × Int} : dotv a = dotv b ↔ a = b := by
  cases a; cases b; simp [dotv]
/-- What the look-ups ask of the key's type. -/
structure DotKey (P : Program) (k : TypeId) : Prop where
  wide : ∀ (w : World) (x : Value) (es : List MapEntry), (Instr.findKey k x es).run P w = (Instr.findAsking k x es).run P w
  check : ∀ (w : World) (em : Bool) (d : Int × Int), (Instr.checkKey em 10000 k (dotv d)).run P w = .ok () w
  eq : ∀ (w : World) (a b : Int × Int), (Op.equal k (dotv a) (dotv b)).run P w = .ok (decide (a = b)) w
  stays : ∀ (w : World) (d : Int × Int), (Instr.keyThatStays (dotv d) (dotv d)).run P w = .ok (dotv d) w
theorem run_eq_int {P : Program} {t : TypeId} (ht : P.underlying t = some (.int .i64)) (w : World) (d : Nat) (x y : Int) : (Op.equalIn (d + 1) t (.int .i64 x) (.int .i64 y)).run P w = .ok (x == y) w := by
  simp [Op.equalIn, run_underlying ht, Result.andThen]
theorem run_eq_dot {P : Program} {t i : TypeId} {f1 f2 : Field} (ht : P.underlying t = some (.struct (P.fieldsOf t))) (hp : P.stoodInHeld t = false) (hf : (P.fieldsOf t).toList = [f1, f2]) (t1 : f1.type = i) (t2 : f2.type = i) (o1 : f1.offset = 0) (o2 : f2.offset = 1) (n1 : f1.name = "Rep") (n2 : f2.name = "Seq")
    (hi : P.underlying i = some (.int .i64)) (e1 : ∀ (w : World) (x y : Int), (part i #[Value.int .i64 x, Value.int .i64 y] 0).run P w = .ok (.int .i64 x) w) (e2 : ∀ (w : World) (x y : Int), (part i #[Value.int .i64 x, Value.int .i64 y] 1).run P w = .ok (.int .i64 y) w) (w : World) (a b : Int × Int) :
    (Op.equal t (dotv a) (dotv b)).run P w = .ok (decide (a = b)) w := by
  obtain ⟨a1, a2⟩ := a
  obtain ⟨b1, b2⟩ := b
  have he := run_eq_int hi
  unfold Op.equal
  rw [show Op.maxDepth = 9998 + 1 + 1 from rfl]
  unfold dotv
  rw [run_equalIn_struct _ _ _ _ _ ht hp, hf]
  by_cases h1 : a1 = b1
  · subst h1
    by_cases h2 : a2 = b2
    · subst h2
      simp [Op.eqFields, t1, t2, o1, o2, n1, n2, e1, e2, he, Result.andThen]
    · simp [Op.eqFields, t1, t2, o1, o2, n1, n2, e1, e2, he, Result.andThen, h2]
  · simp [Op.eqFields, t1, t2, o1, o2, n1, n2, e1, e2, he, Result.andThen, h1]
def Keys (es : List MapEntry) (ks : List (Int × Int)) : Prop := es.map (·.key) = ks.map dotv
def Ds.dots (b : Nat) (ks : List (Int × Int)) : Ds := .any (fun w fp => fp = [b] ∧ ∃ es clock, w.heap[b]? = some (.map es clock) ∧ es.toList.map (·.key) = ks.map dotv)
  (by rintro w w' fp ⟨rfl, es, clock, hb, h⟩ hs; exact ⟨rfl, es, clock, (hs b (by simp)).trans hb, h⟩)
  (by rintro w fp ⟨rfl, es, clock, hb, h⟩ x hx; rw [List.mem_singleton] at hx; subst hx; exact (Array.getElem?_eq_some_iff.1 hb).1)
section
variable {P : Program} {w W : World} {R : List Ds} {t k e : TypeId} {b : Nat} {ks : List (Int × Int)}
theorem run_asking (K : DotKey P k) (w : World) (d : Int × Int) : ∀ (es : List MapEntry) (ks : List (Int × Int)) (i : Nat), es.map (·.key) = ks.map dotv →
    (d ∉ ks ∧ (Instr.findAsking k (dotv d) es i).run P w = .ok none w) ∨ (d ∈ ks ∧ ∃ j v, (Instr.findAsking k (dotv d) es i).run P w = .ok (some (j, v)) w)
  | [], [], i, _ => .inl ⟨by simp, by simp [Instr.findAsking]⟩
  | [], _ :: _, _, h => by simp at h
  | _ :: _, [], _, h => by simp at h
  | m :: es, q :: ks, i, h => by
    simp only [List.map_cons, List.cons.injEq] at h
    by_cases hq : d = q
    · right
      exact ⟨by simp [hq], i, m.val, by simp [Instr.findAsking, h.1, K.eq, hq]⟩
    · rcases run_asking K w d es ks (i + 1) h.2 with ⟨h1, h2⟩ | ⟨h1, j, v, h2⟩
      · exact .inl ⟨by simp [hq, h1], by simp [Instr.findAsking, h.1, K.eq, hq, h2]⟩
      · exact .inr ⟨by simp [h1], j, v, by simp [Instr.findAsking, h.1, K.eq, hq, h2]⟩
theorem Own.dotsAt (HS : Own W (.dots b ks :: R) w) : ∃ es clock, w.heap[b]? = some (.map es clock) ∧ es.toList.map (·.key) = ks.map dotv := by
  obtain ⟨_, fp, ⟨fm, fr, rfl, ⟨_, es, clock, hb, h⟩, hR⟩, hnd, hlow⟩ := id HS
  exact ⟨es, clock, hb, h⟩
/-- The look-up with its second result. -/
theorem run_dot (K : DotKey P k) (HS : Own W (.dots b ks :: R) w) (ht : P.underlying t = some (.map k e)) {z : Value} (hz : ∀ w, (zeroValue e).run P w = .ok z w) (d : Int × Int) :
    ∃ v, (Instr.lookup t (.map (some b)) (dotv d) true).run P w = .ok (.tuple #[v, .bool (decide (d ∈ ks))]) w := by
  obtain ⟨es, clock, hb, h⟩ := HS.dotsAt
  rcases run_asking K w d es.toList ks 0 h with ⟨h1, h2⟩ | ⟨h1, j, v, h2⟩
  · exact ⟨z, by simp [Instr.lookup, run_underlying ht, MapKept.run_getObj_map hb, K.check, K.wide, h2, hz, Result.andThen, h1]⟩
  · exact ⟨v, by simp [Instr.lookup, run_underlying ht, MapKept.run_getObj_map hb, K.check, K.wide, h2, Result.andThen, h1]⟩
theorem run_dput (K : DotKey P k) (HS : Own W (.dots b ks :: R) w) (ht : P.underlying t = some (.map k e)) (d : Int × Int) (hd : d ∉ ks) (v : Value) :
    ∃ w', (Instr.mapUpdate t (.map (some b)) (dotv d) v).run P w = .ok () w' ∧ Own W (.dots b (ks ++ [d]) :: R) w' := by
  obtain ⟨es, clock, hb, h⟩ := HS.dotsAt
  rcases run_asking K w d es.toList ks 0 h with ⟨h1, h2⟩ | ⟨h1, _⟩
  · refine ⟨{ w with heap := w.heap.setIfInBounds b (.map (es.push ⟨dotv d, v, clock⟩) (clock + 1)) }, by simp [Instr.mapUpdate, run_underlying ht, MapKept.run_getObj_map hb, K.check, K.wide, h2, MapKept.run_setObj_map _ hb, Result.andThen], ?_⟩
    refine Own.upd (R1 := [.dots b ks]) (R1' := [.dots b (ks ++ [d])]) HS rfl rfl rfl (by simp) ?_
    have hbl : b < w.heap.size := (Array.getElem?_eq_some_iff.1 hb).1
    rintro fp ⟨f1, f2, rfl, ⟨rfl, _⟩, rfl⟩ hnd
    refine ⟨fun i _ hi => ?_, [b] ++ [], ⟨[b], [], rfl, ⟨rfl, _, clock + 1, by simp [hbl]; rfl, by simp [h]⟩, rfl⟩, by simp, fun y hy => .inl (by simpa using hy)⟩
    have : b ≠ i := fun h => hi (by simp [h])
    simp [Array.getElem?_setIfInBounds, this]
  · exact absurd h1 hd
theorem Own.mkdots (h : Own W R w) : Own W (.dots w.heap.size [] :: R) (w.alloc (.map #[] 0)) :=
  Own.call (Rn := [.dots w.heap.size []]) h ⟨(Below.refl _ _).alloc (Nat.le_refl _) _, [w.heap.size], ⟨[w.heap.size], [], rfl, ⟨rfl, #[], 0, (MapKept.heap_alloc w _).1, rfl⟩, rfl⟩, by simp, by simp⟩
variable {ops : Array Oper} {rest : List Oper} {o : Oper} {a : Act} {Q : Exit → Act → World → Prop}
theorem wp_dot (K : DotKey P k) (hgd : o.guard = none) (m x : Operand) (hop : o.op = Op.lookup t m x true) (ht : P.underlying t = some (.map k e)) {z : Value} (hz : ∀ w, (zeroValue e).run P w = .ok z w)
    (HS : Own W (.dots b ks :: R) w) (hm : a.eval m = .map (some b)) (d : Int × Int) (hx : a.eval x = dotv d)
    (h : ∀ v, wpList P ops Q rest (a.put o.dst (.tuple #[v, .bool (decide (d ∈ ks))])) w) : wpList P ops Q (o :: rest) a w := by
  refine wpList_plain hgd fun _ hK => ?_
  obtain ⟨v, hrun⟩ := run_dot K HS ht hz d
  unfold Oper.wp
  simp [execOp, hop, hm, hx, hrun, Result.andThen]
  exact hK _ _ (h v)
theorem wp_dput (K : DotKey P k) (hgd : o.guard = none) (m x y : Operand) (hop : o.op = Op.mapUpdate t m x y) (ht : P.underlying t = some (.map k e)) (HS : Own W (.dots b ks :: R) w) (hm : a.eval m = .map (some b)) (d : Int × Int) (hx : a.eval x = dotv d) (hd : d ∉ ks)
    (h : ∀ w', Own W (.dots b (ks ++ [d]) :: R) w' → wpList P ops Q rest (a.put o.dst undef) w') : wpList P ops Q (o :: rest) a w := by
  refine wpList_plain hgd fun _ hK => ?_
  obtain ⟨w', hrun, hown⟩ := run_dput K HS ht d hd (a.eval y)
  unfold Oper.wp
  simp [execOp, hop, hm, hx, hrun, Result.andThen]
  exact hK _ _ (h w' hown)
theorem wp_mkdots (hgd : o.guard = none) (t : TypeId) (hop : o.op = Op.makeMap t none) (HS : Own W R w)
    (h : ∀ w', Own W (.dots w.heap.size [] :: R) w' → wpList P ops Q rest (a.put o.dst (.map (some w.heap.size))) w') : wpList P ops Q (o :: rest) a w := by
  refine wpList_plain hgd fun K' hK' => ?_
  have hrun : (Instr.makeMap t none).run P w = .ok (.map (some w.heap.size)) (w.alloc (.map #[] 0)) := rfl
  unfold Oper.wp
  simp [execOp, hop, hrun, Result.andThen]
  exact hK' _ _ (h _ HS.mkdots)
end
end Go.Ow
