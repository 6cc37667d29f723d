/- FnExactStateOk: for every state the law returns true, and the state reads behind the call as it read before. No condition. -/
import Derived.Test.YtkafflbakgkpcaaGreatRows
import Derived.Test.YtkafflbakgkpcaaGreatJ4
import Derived.Test.YtkafflbakgkpcaaGreatJ5
import Derived.Test.YtkafflbakgkpcaaGreatFf
import Derived.Test.YtkafflbakgkpcaaGreatL1
namespace Go.Proofs.YtkafflbakgkpcaaGreat
set_option linter.unusedSimpArgs false
set_option linter.unusedVariables false
open Go.RowKit Go.Ow
attribute [local irreducible] wpQuiet
set_option maxRecDepth 100000
theorem DcF.map {P : Program} {α β : Type} [Cd α] [Cd β] [Wf α] [Wf β] {g : α → β} (hz : Cd.z β = Cd.z α) (hrd : ∀ w a cs, Cd.rd w a cs → Cd.rd w (g a) cs) (hok : ∀ a, Wf.ok a → Wf.ok (g a)) {fs : List Field} {off : Nat} (h : DcF P α fs off) : DcF P β fs off :=
  ⟨fun hl htr hw hlen => by obtain ⟨y, hy, ho⟩ := h.dcf hl htr hw (by rw [hlen, hz]); exact ⟨g y, hrd _ _ _ hy, hok _ ho⟩⟩
instance : Wf Rn := Wf.iso (fun r : Rn => (r.r, r.f, r.t))
instance : Wf Lf := Wf.iso (fun x : Lf => (x.p, x.fl, x.dr, x.ds, x.v))
instance : Wf St := Wf.iso (fun x : St => (x.l, x.c))
theorem dcInt : Dc Tryz.prog Int 3 := Dc.int Tryz.underlying3
theorem dcStr : Dc Tryz.prog ByteArray 9 := Dc.str Tryz.underlying9
theorem dcBool : Dc Tryz.prog Bool 4 := Dc.bool Tryz.underlying4
set_option maxRecDepth 100000 in
theorem dcRun : Dc Tryz.prog Rn 113 := Dc.struct (DcF.iso (f := fun r : Rn => (r.r, r.f, r.t)) (g := fun p => ⟨p.1, p.2.1, p.2.2⟩) (fun _ => rfl) (DcF.cons dcInt rfl (by kernel_rfl) rfl (DcF.cons dcInt rfl (by kernel_rfl) rfl (DcF.one dcInt rfl (by kernel_rfl))))) Tryz.underlying113 (by kernel_rfl)
set_option maxRecDepth 100000 in
theorem dcContext : Dc Tryz.prog (List Rn) 25 := Dc.struct (DcF.one (Dc.list dcRun Tryz.underlying23 (by kernel_rfl) (of_decide_eq_true (by kernel_rfl))) rfl (by kernel_rfl)) Tryz.underlying25 (by kernel_rfl)
theorem dcDot : Dc Tryz.prog (Int × Int) 70 := Dc.struct (DcF.cons dcInt rfl (by kernel_rfl) rfl (DcF.one dcInt rfl (by kernel_rfl))) Tryz.underlying70 (by kernel_rfl)
theorem dcPath : Dc Tryz.prog (List ByteArray) 28 := Dc.list dcStr Tryz.underlying28 (by kernel_rfl) (of_decide_eq_true (by kernel_rfl))
theorem leaf_rd (w : World) (a : List ByteArray × Bool × (Int × Int) × ByteArray) (cs : List Value) (h : Cd.rd w a cs) : Cd.rd w (⟨a.1, a.2.1, a.2.2.1.1, a.2.2.1.2, a.2.2.2⟩ : Lf) cs := by
  obtain ⟨A, _, rfl, hA, C, _, rfl, hC, _, F, rfl, ⟨E1, E2, rfl, h1, h2⟩, hF⟩ := h
  exact ⟨A, _, rfl, hA, C, _, rfl, hC, E1, E2 ++ F, List.append_assoc _ _ _, h1, E2, F, rfl, h2, hF⟩
theorem leaf_ok (a : List ByteArray × Bool × (Int × Int) × ByteArray) (h : Wf.ok a) : Wf.ok (⟨a.1, a.2.1, a.2.2.1.1, a.2.2.1.2, a.2.2.2⟩ : Lf) := by
  obtain ⟨h1, h2, ⟨h3, h4⟩, h5⟩ := h
  exact ⟨h1, h2, h3, h4, h5⟩
set_option maxRecDepth 100000 in
theorem dcLeaf : Dc Tryz.prog Lf 72 := Dc.struct (DcF.map (g := fun a : List ByteArray × Bool × (Int × Int) × ByteArray => (⟨a.1, a.2.1, a.2.2.1.1, a.2.2.1.2, a.2.2.2⟩ : Lf)) rfl leaf_rd leaf_ok
  (DcF.cons dcPath rfl (by kernel_rfl) rfl (DcF.cons dcBool rfl (by kernel_rfl) rfl (DcF.cons dcDot rfl (by kernel_rfl) rfl (DcF.one dcStr rfl (by kernel_rfl)))))) Tryz.underlying72 (by kernel_rfl)
set_option maxRecDepth 100000 in
theorem dcState : Dc Tryz.prog St 27 := Dc.struct (DcF.iso (f := fun x : St => (x.l, x.c)) (g := fun p => ⟨p.1, p.2⟩) (fun _ => rfl) (DcF.cons (Dc.list dcLeaf Tryz.underlying22 (by kernel_rfl) (of_decide_eq_true (by kernel_rfl))) rfl (by kernel_rfl) rfl (DcF.one dcContext rfl (by kernel_rfl)))) Tryz.underlying27 (by kernel_rfl)
theorem lfW_ok {s : St} (h : Wf.ok s) : ∀ y ∈ s.l, LfW y := by
  intro y hy
  obtain ⟨h1, h2, h3, h4, h5⟩ := (show Wf.ok y from h.1.2 y hy)
  exact ⟨fun x hx => h1.2 x hx, h5, h4.2⟩
end Go.Proofs.YtkafflbakgkpcaaGreat
