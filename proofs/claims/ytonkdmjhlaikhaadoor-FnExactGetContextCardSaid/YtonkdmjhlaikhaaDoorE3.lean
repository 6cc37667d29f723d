/- Errors: errors.As writes; the code of an error. -/
import Derived.Test.YtonkdmjhlaikhaaDoorE2
namespace Go.Proofs.YtonkdmjhlaikhaaDoor
set_option linter.unusedSimpArgs false
set_option linter.unusedVariables false
open Go.RowKit Go.Ow Go.Extern.Stop Go.Stop Go.Extern
attribute [local irreducible] wpQuiet
set_option maxRecDepth 100000
theorem rls (v x : Value) : ReflectliteValue.set #[v, x] = (do
    let (some (dst, a, fl), some (src, b, _)) := (← ReflectliteValue.parts v, ← ReflectliteValue.parts x)
      | unsupported (.noEntry "extern/(internal/reflectlite.Value).Set.zeroValue")
    if fl / ReflectliteValue.flagAddr % 2 == 0 then unsupported (.noEntry "extern/(internal/reflectlite.Value).Set.unaddressable")
    let val ← loadVar src b
    if ← Rtype.directlyAssignable dst src then storeVar dst a val
    else if ← Rtype.implements dst src then
      if (← Rtype.kind src) == 20 then
        match val with
        | .nilIface => unsupported (.noEntry "extern/reflectlite: a nil value of one interface type handed on as a value of another")
        | _ => storeVar dst a val
      else storeVar dst a (.iface src val)
    else panicString ("reflectlite.Set: value of type " ++ (← Rtype.spelt src) ++ " is not assignable to type " ++ (← Rtype.spelt dst))
    pure (.tuple #[])) := rfl
theorem asDirect (w : World) : (Rtype.directlyAssignable 100 100).run Tryd.prog w = .ok true w := by kernel_rfl
theorem asIsAgg (w : World) : (isAgg 100).run Tryd.prog w = .ok true w := by kernel_rfl
theorem asSizeOf (w : World) : (sizeOf 100).run Tryd.prog w = .ok 1 w := by kernel_rfl
theorem asSet (ta b : Addr) (k : Int) (old : Value) (W : World) (hb : W.cell? b = some (.int .i64 k)) (ht : W.cell? ta = some old) (hf : W.frozen? ta = false) :
    (callFunc 82 #[.agg #[.pointer (some ⟨2, 100, none⟩), .pointer (some ta), .int .u64 409], .agg #[.pointer (some ⟨2, 100, none⟩), .pointer (some b), .int .u64 153]]).run Tryd.prog W
      = .ok (.value (.tuple #[])) (W.setCell ta (.int .i64 k)) := by
  rw [@run_callFunc_extern Tryd.prog 82 _ ReflectliteValue.set Tryd.func82 (by kernel_rfl) (by kernel_rfl) (by kernel_rfl) (by kernel_rfl)]
  rw [rls]
  simp only [Sem.run_bind, asPartsE, asPartsW, Result.andThen]
  simp [ReflectliteValue.flagAddr, loadVar, asIsAgg, asSizeOf, loadCells, loadCellsFrom, hb, Result.andThen, asDirect, storeVar, Value.cells, storeCells, Addr.add]
  rw [run_store Tryd.prog W ta _ _ (by rfl)]
  simp [ht, hf]
set_option maxHeartbeats 4000000 in
theorem asWrong {W : World} {R : List Ds} (k old : Int) (bt : Nat) (w : World) (HS : Own W (.box bt 100 [.int .i64 old] :: R) w) (hg : w.cell? ⟨1, 0, none⟩ = some (.iface 139 (.agg #[.pointer (some ⟨2, 63, none⟩)]))) :
    Calls Tryd.prog 57 #[.iface 100 (.agg #[.int .i64 k]), .iface 103 (.pointer (some ⟨bt, 0, none⟩))] w fun e w' => e = .returned (.bool true) ∧ Own W (.box bt 100 [.int .i64 k] :: R) w' := by
  have F := HS.facts
  simp only [Own.Facts, Own.Cells, Nat.zero_add] at F
  have f1 := asValueOf
  have f2 := asValueOfW
  have f3 := asType
  have f4 := asMethKind
  have f5 := asMethElem
  have f6 := asMethImpl
  have f7 := asMethAss
  have f8 := asKindP
  have f9 := asKindW
  have f10 := asElem
  have f11 := asImpl
  have f12 := asTypeOf
  have f13 := asAss
  have hlt : 1 < w.heap.size := World.block_lt_of_cell? w _ hg
  have HV : ∃ vv : List Value, vv = [.pointer (some ⟨2, 103, none⟩), .pointer (some ⟨w.heap.size, 0, none⟩), .int .u64 150] := ⟨_, rfl⟩
  have H1 := HS.box (b := w.heap.size) [.pointer (some ⟨bt, 0, none⟩)] 103
  have H2 := H1.box (b := w.heap.size + 1) [.pointer (some ⟨2, 103, none⟩), .pointer (some ⟨w.heap.size, 0, none⟩), .int .u64 150] 129
  have H3 := H2.box (b := w.heap.size + 1 + 1) [.pointer (some ⟨2, 103, none⟩), .pointer (some ⟨w.heap.size, 0, none⟩), .int .u64 150] 129
  have H4 := H3.box (b := w.heap.size + 1 + 1 + 1) [.int .i64 k] 100
  have F2 := H2.facts
  have F3 := H3.facts
  have F4 := H4.facts
  simp only [Own.Facts, Own.Cells, Nat.zero_add] at F2 F3 F4
  have f14 := asIsNil ⟨w.heap.size, 0, none⟩ ⟨bt, 0, none⟩ _ F2.2.1.1.1
  have f15 := asElemV ⟨w.heap.size, 0, none⟩ ⟨bt, 0, none⟩ _ F3.2.2.1.1.1
  have f16 := asSet ⟨bt, 0, none⟩ ⟨w.heap.size + 1 + 1 + 1, 0, none⟩ k _ _ F4.1.1.1 F4.2.2.2.2.1.1.1 (F4.2.2.2.2.1.2.1 0)
  have H5 := ((H4.pick 4 rfl).set 0 (.int .i64 k))
  have hg2 := ((((Below.refl w.heap.size w).alloc (Nat.le_refl _) (.cells #[.pointer (some ⟨bt, 0, none⟩)] 103)).alloc (by simp) (.cells #[.pointer (some ⟨2, 103, none⟩), .pointer (some ⟨w.heap.size, 0, none⟩), .int .u64 150] 129)).cell (p := ⟨1, 0, none⟩) hlt).trans hg
  clear F F2 F3 F4 H1 H2 H3 H4 HV
  go_enter Tryd.func57, Tryd.ntmps57
  go_wp2
  refine wp_loop_rounds 1 ?_
  rw [rounds_succ]
  go_wp2
  exact bodyPost_ret (v := .bool true) (by simp [results, Tryd.results57, go_sem, *]) rfl ⟨rfl, (((((((H5.pick 1 rfl).drop).pick 1 rfl).drop).pick 1 rfl).drop).pick 1 rfl).drop⟩
/-- What the package-level variables hold. -/
def Gs (a : Addr) (w : World) : Prop := w.cell? ⟨0, 0, none⟩ = some (.iface 154 (.pointer (some a)))
theorem Gs.bel {a : Addr} {w w' : World} (h : Gs a w) (hb : Below w.heap.size w w') : Gs a w' := (hb.cell (p := ⟨0, 0, none⟩) (World.block_lt_of_cell? w _ h)).trans h
theorem Gs.own {a : Addr} {W w : World} {R : List Ds} (h : Gs a W) (HS : Own W R w) : Gs a w := h.bel HS.below
structure Gl (a : Addr) (w : World) : Prop where
  short : Gs a w
  et : w.cell? ⟨1, 0, none⟩ = some (.iface 139 (.agg #[.pointer (some ⟨2, 63, none⟩)]))
theorem Gl.bel {a : Addr} {w w' : World} (h : Gl a w) (hb : Below w.heap.size w w') : Gl a w' :=
  ⟨h.short.bel hb, (hb.cell (p := ⟨1, 0, none⟩) (World.block_lt_of_cell? w _ h.et)).trans h.et⟩
theorem Gl.own {a : Addr} {W w : World} {R : List Ds} (h : Gl a W) (HS : Own W R w) : Gl a w := h.bel HS.below
theorem codeOf (a : Addr) (code : Nat) (n : Int) (w : World) (hg : Gl a w) (hc : 1 ≤ code) : Calls Tryd.prog 32 #[errV a code n] w fun e w' => e = .returned (.int .i64 code) ∧ Below w.heap.size w w' := by
  have HS := Own.start w
  have h0 : w.cell? ⟨0, 0, none⟩ = some (.iface 154 (.pointer (some a))) := hg.short
  by_cases h1 : code = 1
  · have e1 : errV a code n = .iface 98 (.agg #[.int .i64 n, .iface 154 (.pointer (some a))]) := by unfold errV; rw [if_neg (by omega), if_pos h1]
    rw [e1]
    subst h1
    go_enter Tryd.func32, Tryd.ntmps32
    go_wp2_with fail
    refine (isShort n a w).mono ?_
    rintro e w2 ⟨rfl, hb⟩
    go_wp2
    go_ret
    exact ⟨rfl, hb⟩
  · have e1 : errV a code n = .iface 100 (.agg #[.int .i64 (code : Int)]) := by unfold errV; rw [if_neg (by omega), if_neg h1]
    rw [e1]
    go_enter Tryd.func32, Tryd.ntmps32
    go_wp2_with fail
    refine (isWrong code a w).mono ?_
    rintro e w2 ⟨rfl, hb⟩
    have HB := (HS.of_below hb).box (b := w2.heap.size) [.int .i64 0] 100
    have hg2 := (hg.own HB).et
    go_wp2_with fail
    refine (asWrong code 0 _ _ HB hg2).mono ?_
    rintro e w3 ⟨rfl, H3⟩
    have F := H3.facts
    simp only [Own.Facts, Own.Cells, Nat.zero_add] at F
    go_wp2
    go_ret
    exact ⟨rfl, H3.below⟩
end Go.Proofs.YtonkdmjhlaikhaaDoor
