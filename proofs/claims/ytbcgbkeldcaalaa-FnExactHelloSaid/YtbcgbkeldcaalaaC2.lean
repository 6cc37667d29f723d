/- Contexts: the program's check, equality of runs. -/
import Derived.Test.YtbcgbkeldcaalaaC1
import Derived.Test.YtbcgbkeldcaalaaS1
namespace Go.Proofs.Ytbcgbkeldcaalaa
set_option linter.unusedSimpArgs false
set_option linter.unusedVariables false
open Go.RowKit Go.Ow
attribute [local irreducible] wpQuiet
theorem implRunOk (x : Rn) (w : World) : Calls Try.prog 104 #[.agg #[.int .i64 x.r, .int .i64 x.f, .int .i64 x.t]] w fun e w' => e = .returned (.bool (runOk x)) ∧ Below w.heap.size w w' := by
  go_enter Try.func104, Try.ntmps104
  go_wp2
  all_goals
    go_ret
    exact ⟨by simp [runOk, *] <;> omega, ((Own.start w).alloc _).below⟩
theorem eqRun (x y : Rn) (w : World) : Calls Try.prog 110 #[.agg #[.int .i64 x.r, .int .i64 x.f, .int .i64 x.t], .agg #[.int .i64 y.r, .int .i64 y.f, .int .i64 y.t]] w fun e w' => e = .returned (.bool (decide (x = y))) ∧ Below w.heap.size w w' := by
  have he : decide (x = y) = (x.r == y.r && (x.f == y.f && x.t == y.t)) := by cases x; cases y; simp [Bool.decide_and]; rfl
  rw [he]
  go_enter Try.func110, Try.ntmps110
  go_wp2
  all_goals
    go_ret
    exact ⟨by simp at *; first | omega | simp [*], (((Own.start w).alloc _).alloc _).below⟩
set_option maxRecDepth 100000 in
theorem implCtxOk (xs : List Rn) (v : Value) (w : World) (hv : Rd w v xs) : Calls Try.prog 77 #[.agg #[v]] w fun e w' => e = .returned (.bool (ctxOk xs)) ∧ Below w.heap.size w w' := by
  obtain ⟨A, c, rfl, hc, hl⟩ := hv.val
  have HS := (Own.start w).box [.slice A xs.length c] 35
  go_enter Try.func77, Try.ntmps77
  by_cases hn : xs.length ≤ 1000
  · go_wp2
    go_loopw [13] (fun i wr => ∃ k : Nat, k ≤ xs.length ∧ i = .int .i64 k ∧ Own w [.box w.heap.size 35 [.slice A xs.length c]] wr ∧ okPre none xs = okPre (prev xs k) (xs.drop k)) (fun i _ => xs.length - (intOf i).toNat)
    case atStart => exact ⟨0, by omega, rfl, HS, rfl⟩
    case round =>
      obtain ⟨k, hk, rfl, HS', hok⟩ := hrel
      have HOK := Lib.hid hok
      clear hok
      by_cases hlt : k < xs.length
      · obtain ⟨b, o, rfl⟩ := hv.fix (by omega)
        have F := HS'.facts
        simp only [Own.Facts, Own.Cells] at F
        have r0 := Rn.rd (HS'.old hv) k hlt
        have HD := Lib.hid (show xs.drop k = xs[k] :: xs.drop (k + 1) from List.drop_eq_getElem_cons hlt)
        have H1 := HS'.box (b := wr.heap.size) [.int .i64 xs[k].r, .int .i64 xs[k].f, .int .i64 xs[k].t] 139
        have fin : ∀ (b : Bool), b = (runOk xs[k] && (match prev xs k with | none => true | some q => apart q xs[k])) → okPre none xs = (b && okPre (prev xs (k + 1)) (xs.drop (k + 1))) := by
          rintro b rfl; rw [HOK.out, HD.out, prev_succ hlt]; rfl
        cases h1 : runOk xs[k]
        · have HF := Lib.hid (fin false (by rw [h1]; rfl))
          clear fin
          go_wp2_with (go_at_call 104; refine (implRunOk xs[k] _).mono ?_; rintro e w2 ⟨rfl, hb⟩; have H2 := H1.of_below hb; have F2 := H2.facts; simp only [Own.Facts, Own.Cells] at F2)
          go_ret
          exact ⟨by simp [ctxOk, HF.out], H2.below⟩
        · by_cases h2 : 0 < k
          · have hp := Lib.hid (show prev xs k = some xs[k - 1] by rw [prev, if_neg (by omega), List.getElem?_eq_getElem (by omega)])
            have HF := Lib.hid (fin _ rfl)
            clear fin
            go_wp2_with (go_at_call 104; refine (implRunOk xs[k] _).mono ?_; rintro e w2 ⟨rfl, hb⟩; have H2 := H1.of_below hb; have F2 := H2.facts; simp only [Own.Facts, Own.Cells] at F2; have r2 := Rn.rd (H2.old hv) (k - 1) (by omega))
            all_goals first
              | (go_ret; exact ⟨by have ha : apart xs[k - 1] xs[k] = false := (by simp [apart]; omega); simp [ctxOk, HF.out, hp.out, ha], (H2.alloc _).below⟩)
              | (go_roundw; (case rel => exact ⟨k + 1, by omega, by go_num, H2.drop.alloc _, by rw [HF.out, h1, hp.out]; have ha : apart xs[k - 1] xs[k] = true := (by simp [apart]; omega); simp [ha]⟩); (case measure => simp [intOf]; omega))
          · have hp0 := Lib.hid (show prev xs k = none by rw [prev, if_pos (by omega)])
            have HF := Lib.hid (fin _ rfl)
            clear fin
            go_wp2_with (go_at_call 104; refine (implRunOk xs[k] _).mono ?_; rintro e w2 ⟨rfl, hb⟩; have H2 := H1.of_below hb; have F2 := H2.facts; simp only [Own.Facts, Own.Cells] at F2)
            go_roundw
            case rel => exact ⟨k + 1, by omega, by go_num, H2.drop, by rw [HF.out, h1, hp0.out]; rfl⟩
            case measure => simp [intOf]; omega
      · go_wp2
        go_ret
        obtain rfl : k = xs.length := by omega
        exact ⟨by simp [ctxOk, HOK.out, okPre, hn], HS'.below⟩
  · go_wp2
    go_ret
    exact ⟨by simp [ctxOk, hn], HS.below⟩
end Go.Proofs.Ytbcgbkeldcaalaa
