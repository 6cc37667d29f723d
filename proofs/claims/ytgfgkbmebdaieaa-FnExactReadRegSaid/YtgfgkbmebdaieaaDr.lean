/- Regions that draw their order and only read: one walk in the order of the text, whatever blocks the callees lay. -/
import Derived.Test.YtgfgkbmebdaieaaOw
namespace Go.Ow
set_option linter.unusedSimpArgs false
set_option linter.unusedVariables false
open Go.RowKit

/-- A world in which all that stood stands. -/
structure Ext (w : World) where
  to : World
  h : Below w.heap.size w to

instance (w : World) : Inhabited (Ext w) := ⟨⟨w, Below.refl _ _⟩⟩

def Ext.up {w w1 : World} (h : Below w.heap.size w w1) (p : Ext w1) : Ext w := ⟨p.to, h.trans (p.h.mono h.size)⟩
theorem q_call {P : Program} {w : World} {p : Ext w} {f : FuncId} {args : Array Value} {v : Value}
    (h : Calls P f args p.to fun e w'' => e = .returned v ∧ Below p.to.heap.size p.to w'') : Calls P f args p.to fun e w'' => e = .returned v ∧ ∃ q : Ext w, w'' = q.to :=
  h.mono fun _ w'' ⟨h1, h2⟩ => ⟨h1, ⟨w'', p.h.trans (h2.mono p.h.size)⟩, rfl⟩

theorem wp_region_ext {P : Program} {id : Nat} {Q : Exit → Act → World → Prop} {a : Act} {w : World} {l : List Oper} (hm : P.follows .mixedOrders = true) (hB : Region.lexB .any l.toArray = true)
    (h : wpQuiet P l.toArray (fun w' => ∃ p : Ext w, w' = p.to) (fun a' => ∀ w', (∃ p : Ext w, w' = p.to) → Q .normal a' w') l a) : (Code.region id l.toArray true).wp P Q a w :=
  wp_region_quiet (C := fun w' => ∃ p : Ext w, w' = p.to) hm hB ⟨⟨w.drew, ⟨rfl, rfl, rfl, Nat.le_refl _, fun _ _ => rfl⟩⟩, rfl⟩ (by simpa using h)

theorem i64w {n m : Int} (h : n = m) (h1 : -9223372036854775808 ≤ n) (h2 : n ≤ 9223372036854775807) : IntKind.i64.wrap n = m := by
  subst h; simp only [IntKind.wrap, IntKind.bits, IntKind.signed]; simp; omega
end Go.Ow
