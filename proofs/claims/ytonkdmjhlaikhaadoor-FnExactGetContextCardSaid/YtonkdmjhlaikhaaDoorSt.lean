/- Strings and bytes: conversions and appends at what a call owns. -/
import Derived.Test.YtonkdmjhlaikhaaDoorPu
import Derived.Lib.AppendStr
namespace Go.Ow
set_option linter.unusedSimpArgs false
set_option linter.unusedVariables false
open Go.RowKit
attribute [local irreducible] wpQuiet

theorem strCells_flat (s : ByteArray) : Go.Lib.strCells s = ((s.data.toList : List UInt8).map Fl.fl).flatten := by
  unfold Go.Lib.strCells
  induction s.data.toList with
  | nil => rfl
  | cons x l ih => simp only [List.map_cons, List.flatten_cons, ih]; rfl
theorem size_list (s : ByteArray) : s.data.toList.length = s.size := by rw [Array.length_toList]; rfl

theorem bytesWorld_below (w : World) (e : TypeId) (s : ByteArray) : Below w.heap.size w (Go.Lib.bytesWorld w e s) :=
  ⟨rfl, rfl, rfl, by rw [Go.Lib.bytesWorld_size]; omega, fun j hj => Go.Lib.bytesWorld_at_old w e s j hj⟩

theorem bytesWorld_rd (w : World) (e : TypeId) (s : ByteArray) (hl : s.size ≤ 140737488355328) :
    Rd (Go.Lib.bytesWorld w e s) (.slice (some ⟨w.heap.size, 0, none⟩) s.size (grownCap w s.size 0 e)) (s.data.toList : List UInt8) := by
  have hz := size_list s
  refine ⟨some ⟨w.heap.size, 0, none⟩, grownCap w s.size 0 e, by rw [hz], by rw [hz]; exact grownCap_ge _ _ _ _, grownCap_le_maxLen _ _ _ _ (by simp only [maxLen]; omega), by omega, fun h => (by cases h), fun i hi => ?_⟩
  refine ⟨_, 0, [.int .u8 ((s.data.toList[i]'hi).toNat : Int)], rfl, rfl, fun j hj => ?_⟩
  have hj0 : j = 0 := by have h1 : j < 1 := hj; omega
  subst hj0
  have e1 : 0 + i * Cd.z UInt8 + 0 = i := by show 0 + i * 1 + 0 = i; omega
  rw [e1, Go.Lib.bytesWorld_cell w e s i (by omega)]
  simp [List.getD, List.getElem?_eq_getElem hi]

section
variable {P : Program} {ops : Array Oper} {rest : List Oper} {o : Oper} {a : Act} {Q : Exit → Act → World → Prop} {w W : World} {R : List Ds}

theorem wp_conv_bytes [Ty UInt8] (hgd : o.guard = none) (x : Operand) (src dst : TypeId) (hop : o.op = Op.convert src dst x) {u : TypeDesc} (hs : P.underlying src = some u) (hd : P.underlying dst = some (.slice (Ty.id UInt8)))
    (he : P.underlying (Ty.id UInt8) = some (.int .u8)) (HS : Own W R w) (s : ByteArray) (hx : a.eval x = .string s) (hl : s.size ≤ 140737488355328)
    (h : ∀ A c w', Own W R w' → Below w.heap.size w w' → Rd w' (.slice (some A) s.size c) (s.data.toList : List UInt8) → wpList P ops Q rest (a.put o.dst (.slice (some A) s.size c)) w') : wpList P ops Q (o :: rest) a w := by
  refine wpList_plain hgd fun K hK => ?_
  have hr := Go.Lib.run_convert_string_bytes (P := P) w src dst (Ty.id UInt8) s hs hd he
  have hb := bytesWorld_below w (Ty.id UInt8) s
  unfold Oper.wp execOp
  simp only [hop, resolve, Sem.run_bind, Sem.run_pure, Result.andThen_ok, hx, hr]
  exact hK _ _ (h _ _ _ (HS.of_below hb) hb (bytesWorld_rd w _ s hl))

theorem wp_app_str [Ty UInt8] [El P UInt8] (hgd : o.guard = none) (sl x : Operand) (t u : TypeId) (ho : o.op = .call { callee := .builtin .append, args := #[sl, x], argTypes := #[t, u] })
    (ht : P.underlying t = some (.slice (Ty.id UInt8))) (hu : P.underlying u = some .string) (hi : (P.info? (Ty.id UInt8)).map (fun i => (i.zero, i.size, i.bytes)) = some (some (.int .u8 0), 1, 1))
    (v : Value) (xs : List UInt8) (HS : Own W (.own v xs :: R) w) (hs : a.eval sl = v) (s : ByteArray) (hx : a.eval x = .string s) (hl : xs.length + s.size ≤ 140737488355328)
    (h : ∀ v' w', Own W (.own v' (xs ++ s.data.toList) :: R) w' → wpList P ops Q rest (a.put o.dst v') w') : wpList P ops Q (o :: rest) a w := by
  obtain ⟨i, hi, he⟩ := Option.map_eq_some_iff.1 hi
  simp only [Prod.mk.injEq] at he
  obtain ⟨h0, h1, h2⟩ := he
  obtain ⟨_, fp, ⟨f, g, hfp, hr, hR⟩, hn, hlow⟩ := id HS
  obtain ⟨hrow, hbig, hf⟩ := Dp.flat (base := 0) hr (fun _ _ => Nat.zero_le _)
  obtain ⟨v', w', hrun, h4, h5, _⟩ := Go.Lib.run_append_own_string (P := P) w 0 t u o.type (Ty.id UInt8) i ht hu hi h0 h1 h2 v xs.length _ hrow s (by simp only [maxLen]; omega) hl (Nat.zero_le _)
  refine wpList_plain hgd fun K hK => ?_
  unfold Oper.wp execOp
  simp only [ho, resolve, invoke, builtin, Sem.run_bind, Sem.run_pure, Result.andThen_ok, List.map_toArray, List.map_cons, List.map_nil, hs, hx, hrun]
  refine hK _ _ (h v' w' (HS.grow (by rw [List.length_append, List.map_append, List.flatten_append, size_list, ← strCells_flat]; exact h4) (by rw [List.length_append, size_list]; exact hl) h5 ?_))
  intro k hk
  rcases hrow.2 with ⟨rfl, he0⟩ | ⟨g, cap, cur, rfl, hbg, hg, hnc, hcm, hcs, htake⟩
  · by_cases hm : s.size = 0
    · have h4' := h4.2
      rcases h4' with ⟨rfl, _⟩ | ⟨g', cap', cur', rfl, _, hg', hnc', _⟩
      · cases hk
      · exfalso
        have hr : (Builtin.append_ #[t, u] o.type #[.slice none 0 0, .string s]).run P w = .ok (.slice none 0 0) w := by
          have hf := Go.Lib.run_firstCells_string (P := P) w 1 s
          have hn : Go.Lib.strCells s = [] := List.eq_nil_of_length_eq_zero (by rw [Go.Lib.strCells_length]; exact hm)
          rw [hm] at hf
          simp [Builtin.append_, run_underlying ht, run_underlying hu, sizeOf, typeInfo, hi, h1, Builtin.lenOf, hm, hf]
        rw [hrun] at hr
        injection hr with hr _
        injection hr with hr _ _
        cases hr
    · have hr := run_append_nil_string (P := P) w t u o.type (Ty.id UInt8) i (.int .u8 0) ht hu hi h0 s (by omega) (by omega) (by rw [h2]; omega)
      rw [hrun] at hr
      injection hr with hr _
      subst hr
      have : w.heap.size = k := by simpa [Value.ownBlock] using hk
      omega
  · by_cases hroom : xs.length + s.size ≤ cap
    · have hcs' : cur.size = cap := by have : cur.size = cap * 1 := hcs; omega
      have hr := Go.Lib.run_append_room_string (P := P) w t u o.type (Ty.id UInt8) i ht hu hi h1 g xs.length cap cur hg s hroom (by omega)
      rw [hrun] at hr
      injection hr with hr _
      subst hr
      exact .inl (by simpa [Value.ownBlock] using hk)
    · have holds : ∀ j u, ((xs.map Fl.fl).flatten)[j]? = some u → w.cell? ((⟨g, 0, none⟩ : Addr).add j) = some u := hrow.cells (g := g) rfl
      have hr := Go.Lib.run_append_grow_string (P := P) w t u o.type (Ty.id UInt8) i (.int .u8 0) ht hu hi h0 ⟨g, 0, none⟩ xs.length cap _ (by rw [h1, len_flat]; rfl) holds s (by omega) (by omega) (by rw [h2]; exact growslice_fits (by omega) (by omega))
      rw [hrun] at hr
      injection hr with hr _
      subst hr
      have : w.heap.size = k := by simpa [Value.ownBlock] using hk
      omega
end
end Go.Ow
