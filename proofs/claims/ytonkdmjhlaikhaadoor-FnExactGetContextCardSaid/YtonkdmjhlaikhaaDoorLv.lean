/- The laid variables: what the row's condition gives, and a world that meets it. -/
import Derived.Test.YtonkdmjhlaikhaaDoorRows
import Derived.Test.YtonkdmjhlaikhaaDoorE3
import Derived.ChangeSame
import Derived.ChangeVars
import Derived.JoinedOf
import Derived.LaidLaws
import Derived.LaidHandle
import Derived.Stop.LaidErr
namespace Go.Proofs.YtonkdmjhlaikhaaDoor
set_option linter.unusedSimpArgs false
set_option linter.unusedVariables false
open Go.RowKit Go.Ow Go.ChangeShapes Go.WideShapes
set_option maxRecDepth 100000
theorem gShort : Tryd.prog.globalNamed "loop.example/s02772/impl.errShort" = some 0 := by kernel_rfl
theorem gShortType : (Tryd.prog.globals[0]?).map (·.type) = some 63 := by kernel_rfl
theorem gEt : Tryd.prog.globalNamed "errors.errorType" = some 1 := by kernel_rfl
theorem rtypeT : (Tryd.prog.cutTypes.find? (·.1 == "internal/reflectlite.rtype")).map (·.2) = some 139 := by kernel_rfl
theorem oneRow : ((List.range Tryd.prog.types.size).filter fun t => Tryd.prog.rowNamed t [101, 114, 114, 111, 114]) = [63] := by kernel_rfl
theorem rowErr : ∀ u, Tryd.prog.typeName? 3 u = some "*errors.errorString" → u = 154 :=
  typeName_ptr_named (nm := "errors.errorString") (by kernel_rfl) (by kernel_rfl) (by decide)
theorem cellsEs : Tryd.prog.cellsOf 174 = 1 := by kernel_rfl
theorem cellsStr : Tryd.prog.cellsOf 9 = 1 := by kernel_rfl
theorem var?_bel {P : Program} {W W' : World} {n : String} {cs : Array Value} (h : W.var? P n = some cs) (hb : Below W.heap.size W W') : W'.var? P n = some cs := by
  unfold World.var? at h ⊢
  cases hg : P.globalNamed n with
  | none => simp [hg] at h
  | some g =>
    simp only [hg, Option.bind_some] at h ⊢
    have hlt : g < W.heap.size := by
      rcases Nat.lt_or_ge g W.heap.size with h' | h'
      · exact h'
      · simp [Array.getElem?_eq_none h'] at h
    rw [hb.block g hlt]
    exact h
theorem short_of_laid {r : List (String × DataW Unit)} {W : World} (h : laidMet Tryd.prog (("loop.example/s02772/impl.errShort", Rows.laid_loop_example_s02772_impl_errShort) :: r) W) :
    ∃ a, W.var? Tryd.prog "loop.example/s02772/impl.errShort" = some #[.iface 154 (.pointer (some a))] ∧ Gs a W := by
  obtain ⟨a, s, hv, _, _, _⟩ := laid_sentinel h gShort gShortType Tryd.underlying63 rowErr Tryd.underlying154 Tryd.underlying174 rfl rfl Tryd.underlying9 cellsEs cellsStr
  exact ⟨a, hv, by unfold Gs; simpa using World.var?_cell gShort hv 0⟩
theorem et_of_laid {W : World} (h : handlesMet Tryd.prog [("errors.errorType", Rows.laid_errors_errorType)] W) : W.cell? ⟨1, 0, none⟩ = some (.iface 139 (.agg #[.pointer (some ⟨2, 63, none⟩)])) := by
  obtain ⟨name, u, ty, e1, e2, e3, e4, e5⟩ := h _ (List.mem_singleton.2 rfl)
  have en : name = [101, 114, 114, 111, 114] := (Option.some.inj e1).symm
  subst en
  obtain rfl := Option.some.inj (rtypeT.symm.trans e2)
  have hm : ty ∈ (List.range Tryd.prog.types.size).filter fun t => Tryd.prog.rowNamed t [101, 114, 114, 111, 114] := List.mem_filter.2 ⟨List.mem_range.2 e3, e4⟩
  rw [oneRow] at hm
  obtain rfl := List.mem_singleton.1 hm
  have hh : typeHandle Tryd.prog 63 = .pointer (some ⟨2, 63, none⟩) := by kernel_rfl
  rw [hh] at e5
  simpa using World.var?_cell gEt e5 0
theorem gl_of_laid {W : World} (h : laidMetH Tryd.prog [("errors.errorType", Rows.laid_errors_errorType), ("loop.example/s02772/impl.errShort", Rows.laid_loop_example_s02772_impl_errShort)] W) :
    ∃ a, W.var? Tryd.prog "loop.example/s02772/impl.errShort" = some #[.iface 154 (.pointer (some a))] ∧ Gl a W := by
  have h' : laidMet Tryd.prog [("loop.example/s02772/impl.errShort", Rows.laid_loop_example_s02772_impl_errShort)] W ∧ handlesMet Tryd.prog [("errors.errorType", Rows.laid_errors_errorType)] W := h
  obtain ⟨a, hv, hs⟩ := short_of_laid h'.1
  exact ⟨a, hv, hs, et_of_laid h'.2⟩
abbrev shortS : ByteArray := { data := #[116, 104, 101, 32, 98, 121, 116, 101, 115, 32, 101, 110, 100] }
noncomputable def low : Nat := (World.holding Tryd.prog default ⟨#[], #[], []⟩).heap.size
noncomputable def laidWorld (os : Os) : World :=
  let w0 := World.holding Tryd.prog os ⟨#[.cells #[.string shortS] 174], #[], []⟩
  { w0 with heap := (w0.heap.modify 0 fun
      | .cells _ t frozen => .cells #[.iface 154 (.pointer (some ⟨low, 0, none⟩))] t frozen
      | o => o).modify 1 fun
      | .cells _ t frozen => .cells #[.iface 139 (.agg #[.pointer (some ⟨2, 63, none⟩)])] t frozen
      | o => o }
theorem laidWorld_met (os : Os) (args : Array Value) : laidMetH Tryd.prog [("errors.errorType", Rows.laid_errors_errorType), ("loop.example/s02772/impl.errShort", Rows.laid_loop_example_s02772_impl_errShort)] ((laidWorld os).forCall (fun _ _ => 0) ⟨#[], args, []⟩).memory :=
  laidMetH_of_parts (laidMet_of_run (ps := [.cell 0 0, .cell low 0]) 8 (by kernel_rfl) (by kernel_rfl) (by kernel_rfl)) (by kernel_rfl)
theorem laidWorld_met1 (os : Os) (args : Array Value) : laidMetH Tryd.prog [("loop.example/s02772/impl.errShort", Rows.laid_loop_example_s02772_impl_errShort)] ((laidWorld os).forCall (fun _ _ => 0) ⟨#[], args, []⟩).memory :=
  laidMetH_of_parts (laidMet_of_run (ps := [.cell 0 0, .cell low 0]) 8 (by kernel_rfl) (by kernel_rfl) (by kernel_rfl)) (by kernel_rfl)
end Go.Proofs.YtonkdmjhlaikhaaDoor
