/- Contexts: the law's own helpers and the two checks. The reference's check of a context. Contexts: the program's check, equality of runs. Contexts: equality, the law, the row. -/
import Derived.Test.YtkafflbakgkpcaaGreatTy
import Derived.Outline
namespace Go.Proofs.YtkafflbakgkpcaaGreat
set_option linter.unusedSimpArgs false
set_option linter.unusedVariables false
open Go.RowKit Go.Ow
attribute [local irreducible] wpQuiet

def szL (n : Nat) (left : Int) : Int := if wrap64 (left - n) < 0 then -1 else wrap64 (left - n)
theorem szRunS (xs : List Rn) (v : Value) (left : Int) (w : World) (hv : Rd w v xs) : Calls Tryz.prog 44 #[v, .int .i64 left] w fun e w' => e = .returned (.int .i64 (szL xs.length left)) ∧ Below w.heap.size w w' := by
  obtain ⟨A, c, rfl, hc, hl⟩ := hv.val
  go_enter Tryz.func44, Tryz.ntmps44
  go_wp2
  all_goals
    go_ret
    exact ⟨by simp only [szL]; split <;> first | rfl | omega, Below.refl _ _⟩
theorem szContext (xs : List Rn) (v : Value) (left : Int) (w : World) (hv : Rd w v xs) : Calls Tryz.prog 22 #[.agg #[v], .int .i64 left] w fun e w' => e = .returned (.int .i64 (szL xs.length left)) ∧ Below w.heap.size w w' := by
  obtain ⟨A, c, rfl, hc, hl⟩ := hv.val
  go_enter Tryz.func22, Tryz.ntmps22
  go_wp2_with (go_at_call 44; refine (szRunS xs _ left _ (hv.alloc _)).mono ?_; rintro e w1 ⟨rfl, hb⟩)
  all_goals
    go_ret
    exact ⟨by simp only [szL] at *; first | (simp; done) | (simp; omega), ((Below.refl _ _).alloc (Nat.le_refl _) _).trans (hb.mono (by simp))⟩
theorem toRun (x : Rn) (w : World) : Calls Tryz.prog 80 #[.agg #[.int .i64 x.r, .int .i64 x.f, .int .i64 x.t]] w fun e w' => e = .returned (.agg #[.int .i64 x.r, .int .i64 x.f, .int .i64 x.t]) ∧ Below w.heap.size w w' := by
  go_enter Tryz.func80, Tryz.ntmps80
  go_wp2
  exact bodyPost_ret (v := .agg #[.int .i64 x.r, .int .i64 x.f, .int .i64 x.t]) (by simp [results, Tryz.results80, go_sem, *]) rfl ⟨rfl, ((((Own.start w).alloc _).alloc _).alloc _).below⟩
theorem toRunS (xs : List Rn) (v : Value) (w : World) (hv : Rd w v xs) (hn : xs.length ≤ 1048576) : Calls Tryz.prog 55 #[v] w fun e w' => ∃ v', e = .returned v' ∧ Own w [.own v' xs] w' := by
  obtain ⟨A, c, rfl, hc, hl⟩ := hv.val
  have HS := Own.start w
  go_enter Tryz.func55, Tryz.ntmps55
  go_wp2_with (refine wp_make (α := Rn) rfl _ _ 32 rfl (by kernel_rfl) HS _ _ _ _ xs.length rfl rfl rfl rfl (by show 24 * _ ≤ _; omega) hl ?_; clear HS; intro w1 HS)
  go_loopw [4] (fun i wr => ∃ k : Nat, k ≤ xs.length ∧ i = .int .i64 k ∧ Own w [.own (.slice (some ⟨w.heap.size, 0, none⟩) xs.length xs.length) (xs.take k ++ List.replicate (xs.length - k) (⟨0, 0, 0⟩ : Rn))] wr) (fun i _ => xs.length - (intOf i).toNat)
  case atStart => exact ⟨0, by omega, rfl, by simpa using (show Own w [.own _ (List.replicate xs.length (⟨0, 0, 0⟩ : Rn))] w1 from HS)⟩
  case round =>
    obtain ⟨k, hk, rfl, HS'⟩ := hrel
    by_cases hlt : k < xs.length
    · obtain ⟨b, o, rfl⟩ := hv.fix (by omega)
      have r0 := Rn.rd (HS'.old hv) k hlt
      have hl2 : (xs.take k ++ List.replicate (xs.length - k) (⟨0, 0, 0⟩ : Rn)).length = xs.length := by simp; omega
      go_wp2_with (go_at_call 80; refine (toRun xs[k] _).mono ?_; rintro e w2 ⟨rfl, hb⟩; have HS2 := HS'.of_below hb; have hr := Rn.row HS2 k (by omega))
      go_roundw
      case rel => exact ⟨k + 1, by omega, by go_num, by rw [← fill_set xs _ k hlt]; exact Rn.put HS2 k (by omega) xs[k]⟩
      case measure => simp [intOf]; omega
    · go_wp2
      go_ret
      obtain rfl : k = xs.length := by omega
      exact ⟨_, rfl, by simpa using HS'⟩
theorem toContext (xs : List Rn) (v : Value) (w : World) (hv : Rd w v xs) (hn : xs.length ≤ 1048576) : Calls Tryz.prog 28 #[.agg #[v]] w fun e w' => ∃ v', e = .returned (.agg #[v']) ∧ Own w [.own v' xs] w' := by
  obtain ⟨A, c, rfl, hc, hl⟩ := hv.val
  have HS := (((Own.start w).alloc (.cells #[.slice A xs.length c] 25)).box (b := w.heap.size + 1) [.slice none 0 0] 34).box (b := w.heap.size + 1 + 1) [.slice none 0 0] 34
  go_enter Tryz.func28, Tryz.ntmps28
  go_wp2_with (go_at_call 55; refine (toRunS xs _ _ (by repeat (first | exact hv | refine Rd.alloc ?_ _)) hn).mono ?_; rintro e w1 ⟨v', rfl, hs⟩; obtain ⟨A', c', rfl, _, _⟩ := (hs.rd 0 rfl).val; have F := bcell hs.below)
  have H2 := (((((HS.call hs).pick 1 rfl).set 0 (.slice A' xs.length c')).drop.pick 1 rfl).set 0 (.slice A' xs.length c')).drop
  have F2 := (((HS.call hs).pick 1 rfl).set 0 (.slice A' xs.length c')).facts
  exact bodyPost_ret (v := .agg #[.slice A' xs.length c']) (by simp [results, Tryz.results28, go_sem, *]) rfl ⟨_, rfl, H2⟩
end Go.Proofs.YtkafflbakgkpcaaGreat
namespace Go.Proofs.YtkafflbakgkpcaaGreat
set_option linter.unusedSimpArgs false
set_option linter.unusedVariables false
open Go.RowKit Go.Ow
attribute [local irreducible] wpQuiet

theorem l2RunOk (x : Rn) (w : World) : Calls Tryz.prog 76 #[.agg #[.int .i64 x.r, .int .i64 x.f, .int .i64 x.t]] w fun e w' => e = .returned (.bool (runOk x)) ∧ Below w.heap.size w w' := by
  go_enter Tryz.func76, Tryz.ntmps76
  go_wp2
  all_goals
    go_ret
    exact ⟨by simp [runOk, *] <;> omega, (Below.refl _ _).alloc (Nat.le_refl _) _⟩
theorem l2Apart (x y : Rn) (w : World) : Calls Tryz.prog 77 #[.agg #[.int .i64 x.r, .int .i64 x.f, .int .i64 x.t], .agg #[.int .i64 y.r, .int .i64 y.f, .int .i64 y.t]] w fun e w' => e = .returned (.bool (apart x y)) ∧ Below w.heap.size w w' := by
  go_enter Tryz.func77, Tryz.ntmps77
  go_wp2
  all_goals
    go_ret
    exact ⟨by simp [apart, *] <;> omega, ((Below.refl _ _).alloc (Nat.le_refl _) _).alloc (by simp) _⟩
set_option maxRecDepth 100000 in
set_option maxHeartbeats 1000000 in
theorem specCtxOk (xs : List Rn) (v : Value) (w : World) (hv : Rd w v xs) : Calls Tryz.prog 45 #[.agg #[v]] w fun e w' => e = .returned (.bool (ctxOk xs)) ∧ Below w.heap.size w w' := by
  obtain ⟨A, c, rfl, hc, hl⟩ := hv.val
  have HS := (Own.start w).box [.slice A xs.length c] 34
  go_enter Tryz.func45, Tryz.ntmps45
  go_wp2
  go_loopw [3] (fun i wr => ∃ k : Nat, k ≤ xs.length ∧ i = .int .i64 k ∧ Own w [.box w.heap.size 34 [.slice A xs.length c]] wr ∧ okPre none xs = okPre (prev xs k) (xs.drop k)) (fun i _ => xs.length - (intOf i).toNat)
  case atStart => exact ⟨0, by omega, rfl, HS, rfl⟩
  case round =>
    obtain ⟨k, hk, rfl, HS', hok⟩ := hrel
    have HOK := Lib.hid hok
    clear hok
    have F := HS'.facts
    simp only [Own.Facts, Own.Cells] at F
    by_cases hlt : k < xs.length
    · obtain ⟨b, o, rfl⟩ := hv.fix (by omega)
      have hF : ∀ p : Ext wr, (p.to.cell? ⟨w.heap.size, 0, none⟩ = some (.slice (some ⟨b, o, none⟩) xs.length c)) ∧ (∀ i (h : i < xs.length), p.to.cell? ⟨b, o + i * 3, none⟩ = some (.int .i64 xs[i].r) ∧ p.to.cell? ⟨b, o + i * 3 + 1, none⟩ = some (.int .i64 xs[i].f) ∧ p.to.cell? ⟨b, o + i * 3 + 2, none⟩ = some (.int .i64 xs[i].t)) := by
        intro p
        have F := (HS'.of_below p.h).facts
        have hR := (HS'.of_below p.h).old hv
        exact ⟨F.1.1.1, fun i hi => ⟨hR.get i hi 0 (by decide), hR.get i hi 1 (by decide), hR.get i hi 2 (by decide)⟩⟩
      have HD := Lib.hid (show xs.drop k = xs[k] :: xs.drop (k + 1) from List.drop_eq_getElem_cons hlt)
      have e1 : 0 < k → IntKind.i64.wrap ((k : Int) - 1) = ((k - 1 : Nat) : Int) := fun h => i64w (by omega) (by omega) (by omega)
      have e2 : k - 1 < xs.length := by omega
      have fin : ∀ (b : Bool), b = (runOk xs[k] && (match prev xs k with | none => true | some q => apart q xs[k])) → okPre none xs = (b && okPre (prev xs (k + 1)) (xs.drop (k + 1))) := by
        rintro b rfl; rw [HOK.out, HD.out, prev_succ hlt]; rfl
      have hp : 0 < k → prev xs k = some xs[k - 1] := fun h => by rw [prev, if_neg (by omega), List.getElem?_eq_getElem (by omega)]
      cases h1 : runOk xs[k]
      · go_wp2
        (refine wp_region_ext (by kernel_rfl) (by kernel_rfl) ?_; (repeat (quiet_step (first | exact q_call (l2RunOk _ _)))); refine wpQuiet_nil ?_; rintro _ ⟨⟨w1, hw1⟩, rfl⟩)
        have HF := fin false (by rw [h1]; rfl)
        go_wp2
        go_ret
        exact ⟨by simp [ctxOk, HF], (HS'.of_below hw1).below⟩
      · by_cases h2 : 0 < k
        · replace e1 := e1 h2
          replace hp := Lib.hid (hp h2)
          cases h3 : apart xs[k - 1] xs[k]
          all_goals
            go_wp2
            (refine wp_region_ext (by kernel_rfl) (by kernel_rfl) ?_; (repeat (quiet_step (first | exact q_call (l2RunOk _ _) | exact q_call (l2Apart _ _ _)))); refine wpQuiet_nil ?_; rintro _ ⟨⟨w1, hw1⟩, rfl⟩)
            have HS2 := HS'.of_below hw1
            have HF := Lib.hid (fin _ rfl)
            clear hF e1 fin
            go_wp2
          · go_ret
            exact ⟨by simp [ctxOk, HF.out, h1, hp.out, h3], HS2.below⟩
          · go_roundw
            case rel => exact ⟨k + 1, by omega, by go_num, HS2, by rw [HF.out, h1, hp.out]; simp [h3]⟩
            case measure => simp [intOf]; omega
        · have hp0 := Lib.hid (show prev xs k = none by rw [prev, if_pos (by omega)])
          go_wp2
          (refine wp_region_ext (by kernel_rfl) (by kernel_rfl) ?_; (repeat (quiet_step (first | exact q_call (l2RunOk _ _)))); refine wpQuiet_nil ?_; rintro _ ⟨⟨w1, hw1⟩, rfl⟩)
          have HS2 := HS'.of_below hw1
          have HF := Lib.hid (fin _ rfl)
          clear hF e1 fin
          go_wp2
          go_roundw
          case rel => exact ⟨k + 1, by omega, by go_num, HS2, by rw [HF.out, h1, hp0.out]; rfl⟩
          case measure => simp [intOf]; omega
    · go_wp2
      go_ret
      obtain rfl : k = xs.length := by omega
      exact ⟨by simp [ctxOk, HOK.out, okPre]; omega, HS'.below⟩
end Go.Proofs.YtkafflbakgkpcaaGreat
namespace Go.Proofs.YtkafflbakgkpcaaGreat
set_option linter.unusedSimpArgs false
set_option linter.unusedVariables false
open Go.RowKit Go.Ow
attribute [local irreducible] wpQuiet
theorem implRunOk (x : Rn) (w : World) : Calls Tryz.prog 81 #[.agg #[.int .i64 x.r, .int .i64 x.f, .int .i64 x.t]] w fun e w' => e = .returned (.bool (runOk x)) ∧ Below w.heap.size w w' := by
  go_enter Tryz.func81, Tryz.ntmps81
  go_wp2
  all_goals
    go_ret
    exact ⟨by simp [runOk, *] <;> omega, ((Own.start w).alloc _).below⟩
theorem eqRun (x y : Rn) (w : World) : Calls Tryz.prog 92 #[.agg #[.int .i64 x.r, .int .i64 x.f, .int .i64 x.t], .agg #[.int .i64 y.r, .int .i64 y.f, .int .i64 y.t]] w fun e w' => e = .returned (.bool (decide (x = y))) ∧ Below w.heap.size w w' := by
  have he : decide (x = y) = (x.r == y.r && (x.f == y.f && x.t == y.t)) := by cases x; cases y; simp [Bool.decide_and]; rfl
  rw [he]
  go_enter Tryz.func92, Tryz.ntmps92
  go_wp2
  all_goals
    go_ret
    exact ⟨by simp at *; first | omega | simp [*], (((Own.start w).alloc _).alloc _).below⟩
set_option maxRecDepth 100000 in
theorem implCtxOk (xs : List Rn) (v : Value) (w : World) (hv : Rd w v xs) : Calls Tryz.prog 56 #[.agg #[v]] w fun e w' => e = .returned (.bool (ctxOk xs)) ∧ Below w.heap.size w w' := by
  obtain ⟨A, c, rfl, hc, hl⟩ := hv.val
  have HS := (Own.start w).box [.slice A xs.length c] 34
  go_enter Tryz.func56, Tryz.ntmps56
  by_cases hn : xs.length ≤ 1000
  · go_wp2
    go_loopw [13] (fun i wr => ∃ k : Nat, k ≤ xs.length ∧ i = .int .i64 k ∧ Own w [.box w.heap.size 34 [.slice A xs.length c]] wr ∧ okPre none xs = okPre (prev xs k) (xs.drop k)) (fun i _ => xs.length - (intOf i).toNat)
    case atStart => exact ⟨0, by omega, rfl, HS, rfl⟩
    case round =>
      obtain ⟨k, hk, rfl, HS', hok⟩ := hrel
      have HOK := Lib.hid hok
      clear hok
      by_cases hlt : k < xs.length
      · obtain ⟨b, o, rfl⟩ := hv.fix (by omega)
        have F := HS'.facts
        simp only [Own.Facts, Own.Cells] at F
        have r0 := Rn.rd (HS'.old hv) k hlt
        have HD := Lib.hid (show xs.drop k = xs[k] :: xs.drop (k + 1) from List.drop_eq_getElem_cons hlt)
        have H1 := HS'.box (b := wr.heap.size) [.int .i64 xs[k].r, .int .i64 xs[k].f, .int .i64 xs[k].t] 81
        have fin : ∀ (b : Bool), b = (runOk xs[k] && (match prev xs k with | none => true | some q => apart q xs[k])) → okPre none xs = (b && okPre (prev xs (k + 1)) (xs.drop (k + 1))) := by
          rintro b rfl; rw [HOK.out, HD.out, prev_succ hlt]; rfl
        cases h1 : runOk xs[k]
        · have HF := Lib.hid (fin false (by rw [h1]; rfl))
          clear fin
          go_wp2_with (go_at_call 81; refine (implRunOk xs[k] _).mono ?_; rintro e w2 ⟨rfl, hb⟩; have H2 := H1.of_below hb; have F2 := H2.facts; simp only [Own.Facts, Own.Cells] at F2)
          go_ret
          exact ⟨by simp [ctxOk, HF.out], H2.below⟩
        · by_cases h2 : 0 < k
          · have hp := Lib.hid (show prev xs k = some xs[k - 1] by rw [prev, if_neg (by omega), List.getElem?_eq_getElem (by omega)])
            have HF := Lib.hid (fin _ rfl)
            clear fin
            go_wp2_with (go_at_call 81; refine (implRunOk xs[k] _).mono ?_; rintro e w2 ⟨rfl, hb⟩; have H2 := H1.of_below hb; have F2 := H2.facts; simp only [Own.Facts, Own.Cells] at F2; have r2 := Rn.rd (H2.old hv) (k - 1) (by omega))
            all_goals first
              | (go_ret; exact ⟨by have ha : apart xs[k - 1] xs[k] = false := (by simp [apart]; omega); simp [ctxOk, HF.out, hp.out, ha], (H2.alloc _).below⟩)
              | (go_roundw; (case rel => exact ⟨k + 1, by omega, by go_num, H2.drop.alloc _, by rw [HF.out, h1, hp.out]; have ha : apart xs[k - 1] xs[k] = true := (by simp [apart]; omega); simp [ha]⟩); (case measure => simp [intOf]; omega))
          · have hp0 := Lib.hid (show prev xs k = none by rw [prev, if_pos (by omega)])
            have HF := Lib.hid (fin _ rfl)
            clear fin
            go_wp2_with (go_at_call 81; refine (implRunOk xs[k] _).mono ?_; rintro e w2 ⟨rfl, hb⟩; have H2 := H1.of_below hb; have F2 := H2.facts; simp only [Own.Facts, Own.Cells] at F2)
            go_roundw
            case rel => exact ⟨k + 1, by omega, by go_num, H2.drop, by rw [HF.out, h1, hp0.out]; rfl⟩
            case measure => simp [intOf]; omega
      · go_wp2
        go_ret
        obtain rfl : k = xs.length := by omega
        exact ⟨by simp [ctxOk, HOK.out, okPre, hn], HS'.below⟩
  · go_wp2
    go_ret
    exact ⟨by simp [ctxOk, hn], HS.below⟩
end Go.Proofs.YtkafflbakgkpcaaGreat
namespace Go.Proofs.YtkafflbakgkpcaaGreat
set_option linter.unusedSimpArgs false
set_option linter.unusedVariables false
open Go.RowKit Go.Ow
attribute [local irreducible] wpQuiet
set_option linter.unusedSimpArgs false
set_option maxRecDepth 100000 in
theorem eqRunS (xs ys : List Rn) (v u : Value) (w : World) (hv : Rd w v xs) (hu : Rd w u ys) : Calls Tryz.prog 69 #[v, u] w fun e w' => e = .returned (.bool (decide (xs = ys))) ∧ Below w.heap.size w w' := by
  obtain ⟨A, c, rfl, hc, hl⟩ := hv.val
  obtain ⟨B, d, rfl, hd, hm⟩ := hu.val
  have HS := Own.start w
  by_cases hn : xs.length = ys.length
  · have HN := Lib.hid hn
    have hb1 : (xs.length == ys.length) = true := by simp [hn]
    have hb2 : ((xs.length : Int) != (ys.length : Int)) = false := by simp [hn]
    have hb3 : ((xs.length : Int) == (ys.length : Int)) = true := by simp [hn]
    clear hn
    go_enter Tryz.func69, Tryz.ntmps69
    go_wp2
    go_loopw [5] (fun i wr => ∃ k : Nat, k ≤ xs.length ∧ i = .int .i64 k ∧ Own w [] wr ∧ xs.take k = ys.take k) (fun i _ => xs.length - (intOf i).toNat)
    case atStart => exact ⟨0, by omega, rfl, HS, rfl⟩
    case round =>
      obtain ⟨k, hk, rfl, HS', hok⟩ := hrel
      have HOK := Lib.hid hok
      clear hok
      by_cases hlt : k < xs.length
      · have hlt2 : k < ys.length := by have := HN.out; omega
        obtain ⟨b, o, rfl⟩ := hv.fix (by omega)
        obtain ⟨b2, o2, rfl⟩ := hu.fix (by omega)
        have hF : ∀ p : Ext wr, _ := fun p => Rn.rd ((HS'.of_below p.h).old hv) k hlt
        have hG : ∀ p : Ext wr, _ := fun p => Rn.rd ((HS'.of_below p.h).old hu) k hlt2
        by_cases h1 : xs[k] = ys[k]
        · have h1b : decide (xs[k] = ys[k]) = true := by simp [h1]
          have H1 := Lib.hid h1
          clear h1
          go_wp2
          (refine wp_region_ext (by kernel_rfl) (by kernel_rfl) ?_; (repeat (quiet_step (first | exact q_call (eqRun _ _ _)))); refine wpQuiet_nil ?_; rintro _ ⟨⟨w1, hw1⟩, rfl⟩)
          have H2 := HS'.of_below hw1
          clear hF hG
          go_wp2
          go_roundw
          case rel => exact ⟨k + 1, by omega, by go_num, H2, by rw [List.take_succ_eq_append_getElem hlt, List.take_succ_eq_append_getElem hlt2, HOK.out, H1.out]⟩
          case measure => simp [intOf]; omega
        · have h1b : decide (xs[k] = ys[k]) = false := by simp [h1]
          have hne : xs ≠ ys := fun h => h1 (by simp [h])
          have H1 := Lib.hid hne
          clear h1 hne
          go_wp2
          (refine wp_region_ext (by kernel_rfl) (by kernel_rfl) ?_; (repeat (quiet_step (first | exact q_call (eqRun _ _ _)))); refine wpQuiet_nil ?_; rintro _ ⟨⟨w1, hw1⟩, rfl⟩)
          have H2 := HS'.of_below hw1
          clear hF hG
          go_wp2
          go_ret
          exact ⟨by simp [H1.out], H2.below⟩
      · go_wp2
        go_ret
        obtain rfl : k = xs.length := by omega
        have h := HOK.out
        rw [List.take_length, HN.out, List.take_length] at h
        exact ⟨by simp [h], HS'.below⟩
  · have hb1 : (xs.length == ys.length) = false := by simp [hn]
    have hb2 : ((xs.length : Int) != (ys.length : Int)) = true := by simp; omega
    have hb3 : ((xs.length : Int) == (ys.length : Int)) = false := by simp; omega
    have hne : xs ≠ ys := fun h => hn (by rw [h])
    have H1 := Lib.hid hne
    clear hne
    go_enter Tryz.func69, Tryz.ntmps69
    go_wp2
    go_ret
    exact ⟨by simp [H1.out], HS.below⟩
theorem eqContext (xs ys : List Rn) (v u : Value) (w : World) (hv : Rd w v xs) (hu : Rd w u ys) : Calls Tryz.prog 35 #[.agg #[v], .agg #[u]] w fun e w' => e = .returned (.bool (decide (xs = ys))) ∧ Below w.heap.size w w' := by
  obtain ⟨A, c, rfl, hc, hl⟩ := hv.val
  obtain ⟨B, d, rfl, hd, hm⟩ := hu.val
  cases h1 : decide (xs = ys)
  all_goals
    go_enter Tryz.func35, Tryz.ntmps35
    go_wp2_with (go_at_call 69; refine (eqRunS xs ys _ _ _ ((hv.alloc _).alloc _) ((hu.alloc _).alloc _)).mono ?_; rintro e w1 ⟨rfl, hb⟩)
    go_ret
    exact ⟨rfl, (((Own.start w).alloc _).alloc _ |>.of_below hb).below⟩

end Go.Proofs.YtkafflbakgkpcaaGreat
