/- The reference's check of a context. -/
import Derived.Test.YtbcgbkeldcaalaaTy
import Derived.Outline
namespace Go.Proofs.Ytbcgbkeldcaalaa
set_option linter.unusedSimpArgs false
set_option linter.unusedVariables false
open Go.RowKit Go.Ow
attribute [local irreducible] wpQuiet

theorem l2RunOk (x : Rn) (w : World) : Calls Try.prog 95 #[.agg #[.int .i64 x.r, .int .i64 x.f, .int .i64 x.t]] w fun e w' => e = .returned (.bool (runOk x)) ∧ Below w.heap.size w w' := by
  go_enter Try.func95, Try.ntmps95
  go_wp2
  all_goals
    go_ret
    exact ⟨by simp [runOk, *] <;> omega, (Below.refl _ _).alloc (Nat.le_refl _) _⟩
theorem l2Apart (x y : Rn) (w : World) : Calls Try.prog 96 #[.agg #[.int .i64 x.r, .int .i64 x.f, .int .i64 x.t], .agg #[.int .i64 y.r, .int .i64 y.f, .int .i64 y.t]] w fun e w' => e = .returned (.bool (apart x y)) ∧ Below w.heap.size w w' := by
  go_enter Try.func96, Try.ntmps96
  go_wp2
  all_goals
    go_ret
    exact ⟨by simp [apart, *] <;> omega, ((Below.refl _ _).alloc (Nat.le_refl _) _).alloc (by simp) _⟩
set_option maxRecDepth 100000 in
set_option maxHeartbeats 1000000 in
theorem specCtxOk (xs : List Rn) (v : Value) (w : World) (hv : Rd w v xs) : Calls Try.prog 70 #[.agg #[v]] w fun e w' => e = .returned (.bool (ctxOk xs)) ∧ Below w.heap.size w w' := by
  obtain ⟨A, c, rfl, hc, hl⟩ := hv.val
  have HS := (Own.start w).box [.slice A xs.length c] 35
  go_enter Try.func70, Try.ntmps70
  go_wp2
  go_loopw [3] (fun i wr => ∃ k : Nat, k ≤ xs.length ∧ i = .int .i64 k ∧ Own w [.box w.heap.size 35 [.slice A xs.length c]] wr ∧ okPre none xs = okPre (prev xs k) (xs.drop k)) (fun i _ => xs.length - (intOf i).toNat)
  case atStart => exact ⟨0, by omega, rfl, HS, rfl⟩
  case round =>
    obtain ⟨k, hk, rfl, HS', hok⟩ := hrel
    have HOK := Lib.hid hok
    clear hok
    have F := HS'.facts
    simp only [Own.Facts, Own.Cells] at F
    by_cases hlt : k < xs.length
    · obtain ⟨b, o, rfl⟩ := hv.fix (by omega)
      have hF : ∀ p : Ext wr, (p.to.cell? ⟨w.heap.size, 0, none⟩ = some (.slice (some ⟨b, o, none⟩) xs.length c)) ∧ (∀ i (h : i < xs.length), p.to.cell? ⟨b, o + i * 3, none⟩ = some (.int .i64 xs[i].r) ∧ p.to.cell? ⟨b, o + i * 3 + 1, none⟩ = some (.int .i64 xs[i].f) ∧ p.to.cell? ⟨b, o + i * 3 + 2, none⟩ = some (.int .i64 xs[i].t)) := by
        intro p
        have F := (HS'.of_below p.h).facts
        have hR := (HS'.of_below p.h).old hv
        exact ⟨F.1.1.1, fun i hi => ⟨hR.get i hi 0 (by decide), hR.get i hi 1 (by decide), hR.get i hi 2 (by decide)⟩⟩
      have HD := Lib.hid (show xs.drop k = xs[k] :: xs.drop (k + 1) from List.drop_eq_getElem_cons hlt)
      have e1 : 0 < k → IntKind.i64.wrap ((k : Int) - 1) = ((k - 1 : Nat) : Int) := fun h => i64w (by omega) (by omega) (by omega)
      have e2 : k - 1 < xs.length := by omega
      have fin : ∀ (b : Bool), b = (runOk xs[k] && (match prev xs k with | none => true | some q => apart q xs[k])) → okPre none xs = (b && okPre (prev xs (k + 1)) (xs.drop (k + 1))) := by
        rintro b rfl; rw [HOK.out, HD.out, prev_succ hlt]; rfl
      have hp : 0 < k → prev xs k = some xs[k - 1] := fun h => by rw [prev, if_neg (by omega), List.getElem?_eq_getElem (by omega)]
      cases h1 : runOk xs[k]
      · go_wp2
        (refine wp_region_ext (by kernel_rfl) (by kernel_rfl) ?_; (repeat (quiet_step (first | exact q_call (l2RunOk _ _)))); refine wpQuiet_nil ?_; rintro _ ⟨⟨w1, hw1⟩, rfl⟩)
        have HF := fin false (by rw [h1]; rfl)
        go_wp2
        go_ret
        exact ⟨by simp [ctxOk, HF], (HS'.of_below hw1).below⟩
      · by_cases h2 : 0 < k
        · replace e1 := e1 h2
          replace hp := Lib.hid (hp h2)
          cases h3 : apart xs[k - 1] xs[k]
          all_goals
            go_wp2
            (refine wp_region_ext (by kernel_rfl) (by kernel_rfl) ?_; (repeat (quiet_step (first | exact q_call (l2RunOk _ _) | exact q_call (l2Apart _ _ _)))); refine wpQuiet_nil ?_; rintro _ ⟨⟨w1, hw1⟩, rfl⟩)
            have HS2 := HS'.of_below hw1
            have HF := Lib.hid (fin _ rfl)
            clear hF e1 fin
            go_wp2
          · go_ret
            exact ⟨by simp [ctxOk, HF.out, h1, hp.out, h3], HS2.below⟩
          · go_roundw
            case rel => exact ⟨k + 1, by omega, by go_num, HS2, by rw [HF.out, h1, hp.out]; simp [h3]⟩
            case measure => simp [intOf]; omega
        · have hp0 := Lib.hid (show prev xs k = none by rw [prev, if_pos (by omega)])
          go_wp2
          (refine wp_region_ext (by kernel_rfl) (by kernel_rfl) ?_; (repeat (quiet_step (first | exact q_call (l2RunOk _ _)))); refine wpQuiet_nil ?_; rintro _ ⟨⟨w1, hw1⟩, rfl⟩)
          have HS2 := HS'.of_below hw1
          have HF := Lib.hid (fin _ rfl)
          clear hF e1 fin
          go_wp2
          go_roundw
          case rel => exact ⟨k + 1, by omega, by go_num, HS2, by rw [HF.out, h1, hp0.out]; rfl⟩
          case measure => simp [intOf]; omega
    · go_wp2
      go_ret
      obtain rfl : k = xs.length := by omega
      exact ⟨by simp [ctxOk, HOK.out, okPre]; omega, HS'.below⟩
end Go.Proofs.Ytbcgbkeldcaalaa
