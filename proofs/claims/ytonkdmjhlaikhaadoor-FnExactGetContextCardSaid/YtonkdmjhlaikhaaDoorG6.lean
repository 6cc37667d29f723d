/- GetContext: the program's side. -/
import Derived.Test.YtonkdmjhlaikhaaDoorG5
namespace Go.Proofs.YtonkdmjhlaikhaaDoor
set_option linter.unusedSimpArgs false
set_option linter.unusedVariables false
open Go.RowKit Go.Ow
attribute [local irreducible] wpQuiet
set_option maxRecDepth 100000
def cxG (pos : Int) : Option (List Rn × Nat) → List Rn × Int × Nat
  | some (xs, q) => (xs, (q : Int), 0)
  | none => ([], pos, 1)
def getCtx (bs : List UInt8) (pos : Int) : List Rn × Int × Nat :=
  if pos < 0 ∨ (bs.length : Int) < pos then ([], pos, 1) else cxG pos (ctxI bs pos.toNat)
def cxV (v : Value) (g : List Rn × Int × Nat) : Value := .tuple #[.agg #[v], .int .i64 g.2.1, .int .i64 g.2.2]
set_option maxHeartbeats 1000000 in
theorem implGetContext (a : Addr) (bs : List UInt8) (pos : Int) (v : Value) (w : World) (hv : Rd w v bs) (hg : Gs a w) :
    Calls Tryd.prog 15 #[v, .int .i64 pos] w fun e w' => ∃ v', e = .returned (cxV v' (getCtx bs pos)) ∧ Own w [.own v' (getCtx bs pos).1] w' := by
  obtain ⟨A, c, rfl, hc, hl⟩ := hv.val
  have HS := ((Own.start w).nil (α := Rn)).box (b := w.heap.size) [.slice none 0 0] 34
  have F := HS.facts
  simp only [Own.Facts, Own.Cells, Nat.zero_add] at F
  by_cases h01 : pos < 0 ∨ (bs.length : Int) < pos
  · have HX := Lib.hid (show getCtx bs pos = ([], pos, 1) by unfold getCtx; rw [if_pos h01])
    rcases (show pos < 0 ∨ (0 ≤ pos ∧ (bs.length : Int) < pos) by omega) with h | ⟨h, h'⟩
    all_goals
      clear h01
      go_enter Tryd.func15, Tryd.ntmps15
      go_wp2
      rw [HX.out]
      exact bodyPost_ret (v := .tuple #[.agg #[.slice none 0 0], .int .i64 pos, .int .i64 1]) (by simp [results, Tryd.results15, go_sem, *]) rfl ⟨_, rfl, HS.drop⟩
  · obtain ⟨p, rfl⟩ : ∃ p : Nat, pos = p := ⟨pos.toNat, by omega⟩
    have hp : p ≤ bs.length := by omega
    obtain ⟨o, ho⟩ : ∃ o, ctxI bs p = o := ⟨_, rfl⟩
    have HX := Lib.hid (show getCtx bs (p : Int) = cxG p o by unfold getCtx; rw [if_neg (by omega), Int.toNat_natCast, ho])
    have HO := Lib.hid ho
    clear ho h01
    have HB := HS.box (b := w.heap.size + 1) [.slice A bs.length c, .int .i64 p] 61
    go_enter Tryd.func15, Tryd.ntmps15
    go_wp2_with fail
    refine (context a bs p _ _ _ HB hv hg hp).mono ?_
    rw [HO.out]
    clear HS F HB
    cases o with
    | none =>
      rintro e w1 ⟨t, u, n, v', ys, rfl, H1⟩
      obtain ⟨A1, c1, rfl, _, _⟩ := (H1.rd 1 rfl).val
      have H2 := (H1.pick 2 rfl).box (b := w1.heap.size) [.slice A1 ys.length c1] 34
      have F := H2.facts
      simp only [Own.Facts, Own.Cells, List.eraseIdx_cons_succ, List.eraseIdx_cons_zero, Nat.zero_add] at F
      have H3 := (H2.pick 1 rfl).set 0 (.slice none 0 0)
      have F3 := H3.facts
      simp only [Own.Facts, Own.Cells, List.set_cons_zero, List.eraseIdx_cons_succ, List.eraseIdx_cons_zero, Nat.zero_add] at F3
      go_wp2
      rw [HX.out]
      exact bodyPost_ret (v := .tuple #[.agg #[.slice none 0 0], .int .i64 p, .int .i64 1]) (by simp [results, Tryd.results15, go_sem, *]) rfl ⟨_, rfl, H3.drop.drop.drop.drop⟩
    | some xq =>
      obtain ⟨xs, q⟩ := xq
      rintro e w1 ⟨v', rfl, H1⟩
      obtain ⟨A1, c1, rfl, _, _⟩ := (H1.rd 1 rfl).val
      have H2 := (H1.pick 2 rfl).box (b := w1.heap.size) [.slice A1 xs.length c1] 34
      have F := H2.facts
      simp only [Own.Facts, Own.Cells, List.eraseIdx_cons_succ, List.eraseIdx_cons_zero, Nat.zero_add] at F
      have H3 := ((H2.pick 1 rfl).set 0 (.slice A1 xs.length c1)).drew
      have FD := H2.drew.facts
      simp only [Own.Facts, Own.Cells, List.eraseIdx_cons_succ, List.eraseIdx_cons_zero, Nat.zero_add] at FD
      have F3 := H3.facts
      simp only [Own.Facts, Own.Cells, List.set_cons_zero, List.eraseIdx_cons_succ, List.eraseIdx_cons_zero, Nat.zero_add] at F3
      go_wp2
      go_region_held3 (fun w' => w'.cell? ⟨w1.heap.size, 0, none⟩ = some (.slice A1 xs.length c1) ∧ w'.cell? ⟨w.heap.size + 1, 1, none⟩ = some (.int .i64 (q : Int))) (first | go_keep | exact ⟨F3.2.1.1.1, F3.2.2.1.1.2.1⟩) (fail)
      all_goals
        go_wp2
        rw [HX.out]
        exact bodyPost_ret (v := .tuple #[.agg #[.slice A1 xs.length c1], .int .i64 (q : Int), .int .i64 0]) (by simp [results, Tryd.results15, go_sem, *]) rfl ⟨_, rfl, (H3.drop.drop.drop.pick 1 rfl).drop⟩
end Go.Proofs.YtonkdmjhlaikhaaDoor
