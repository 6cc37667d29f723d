/- PutState: the program's tree of bytes, at every depth. -/
import Derived.Test.YtbcgbkeldcaalaaY5
namespace Go.Proofs.Ytbcgbkeldcaalaa
set_option linter.unusedSimpArgs false
set_option linter.unusedVariables false
open Go.RowKit Go.Ow
attribute [local irreducible] wpQuiet
set_option maxRecDepth 100000
theorem writeMap (f : Nat) : ∀ (d : Nat), f + d = 7 → ∀ (W : World) (R : List Ds) (out : List UInt8) (vo : Value) (zs : List Pf) (A : Option Addr) (c : Nat) (w : World), Own W (.own vo out :: R) w → (∀ (X : List Ds) (w' : World), Own W (X ++ R) w' → Rd w' (.slice A zs.length c) zs ∧ ∀ z ∈ zs, Pf.at_ w' z) → (∀ z ∈ zs, LfG d z.l) → zs.length ≤ 1000 → out.length + 1000000 * (f + 1) ≤ 1000000000 →
    Calls Try.prog 49 #[vo, .slice A zs.length c, .int .i64 d] w fun e w' => ∃ A c q, e = .returned (.slice A q.length c) ∧ Hid (q = out ++ treeB (f + 1) d (zs.map (·.l))) ∧ Own W (.own (.slice A q.length c) q :: R) w' := by
  induction f with
  | zero =>
    intro d hd W R out vo zs A c w hs hv hg hn ho
    refine writeMapStep 0 d (by omega) (by omega) (fun W R out vo gs A c w _ _ h0 hg' _ _ => ?_) out vo zs A c w hs hv hg hn ho
    obtain ⟨x, t, rfl⟩ := List.exists_cons_of_length_pos h0
    have := hg' x (by simp)
    have h1 := this.1
    have h2 := this.2.1
    omega
  | succ f ih =>
    intro d hd W R out vo zs A c w hs hv hg hn ho
    exact writeMapStep (f + 1) d (by omega) (by omega) (fun W R out vo gs A c w hs hv _ hg' hn' ho' => ih (d + 1) (by omega) W R out vo gs A c w hs hv hg' hn' ho') out vo zs A c w hs hv hg hn ho
end Go.Proofs.Ytbcgbkeldcaalaa
