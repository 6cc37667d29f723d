/- Join: the program's side. -/
import Derived.Test.YtkafflbakgkpcaaGreatJd
import Derived.Test.YtkafflbakgkpcaaGreatV6
import Derived.Deep.DeepCutAuto
/-FL-/
namespace Go.Proofs.YtkafflbakgkpcaaGreat
set_option linter.unusedSimpArgs false
set_option linter.unusedVariables false
open Go.RowKit Go.Ow Go.MapKept
attribute [local irreducible] wpQuiet
set_option maxRecDepth 100000
theorem zeroLf (w : World) : (zeroValue 57).run Tryz.prog w = .ok (.agg #[.slice none 0 0, .bool false, .int .i64 0, .int .i64 0, .string ⟨#[]⟩]) w := by kernel_rfl
theorem zeroLfE : ∃ e0 e1 e2 e3 e4 : Value, ∀ w, (zeroValue 57).run Tryz.prog w = .ok (.agg #[e0, e1, e2, e3, e4]) w := ⟨_, _, _, _, _, zeroLf⟩
theorem cw_box {P : Program} {c : Code} {Q : Exit → Act → World → Prop} {a : Act} {W w : World} {R : List Ds} {t : TypeId} {vs : List Value} (HS : Own W R w) (h : ∀ w', Own W (.box w.heap.size t vs :: R) w' → Code.wp P c Q a w') : Code.wp P c Q a (w.alloc (.cells vs.toArray t)) := h _ (HS.box vs t)
theorem own_two {W w : World} {r s : Ds} {R : List Ds} (h : Own W (r :: s :: R) w) : Own W [r, s] w := ((h.pick 1 rfl).perm (List.Perm.refl _) |> fun h => by
  obtain ⟨hb, fp, hh, hn, hl⟩ := h
  obtain ⟨f, g, rfl, h1, f2, g2, rfl, h2, h3⟩ := hh
  refine ⟨hb, f2 ++ f, ⟨f2, f, rfl, h2, f, [], by simp, h1, rfl⟩, ?_, ?_⟩
  · have := (List.nodup_append.1 hn)
    have h4 := List.nodup_append.1 this.2.1
    refine List.nodup_append.2 ⟨h4.1, this.1, fun a ha b hb' e => ?_⟩
    exact this.2.2 b hb' a (List.mem_append_left _ ha) e.symm
  · intro x hx
    rcases List.mem_append.1 hx with hx | hx
    · exact hl x (List.mem_append_right _ (List.mem_append_left _ hx))
    · exact hl x (List.mem_append_left _ hx))
theorem size_set (w : World) (a : Addr) (v : Value) : (w.setCell a v).heap.size = w.heap.size := by simp [World.setCell]
theorem meetK {W w : World} {R R' : List Ds} (h : Own W R w) (k : Own W R w → Own W R' w) : Own W R' w := k h
end Go.Proofs.YtkafflbakgkpcaaGreat
