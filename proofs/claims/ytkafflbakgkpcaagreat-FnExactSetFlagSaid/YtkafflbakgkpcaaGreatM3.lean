/- NextDot: the reference. -/
import Derived.Test.YtkafflbakgkpcaaGreatM2
/-FM-/
namespace Go.Proofs.YtkafflbakgkpcaaGreat
set_option linter.unusedSimpArgs false
set_option linter.unusedVariables false
open Go.RowKit Go.Ow
attribute [local irreducible] wpQuiet
set_option maxRecDepth 100000
theorem specNextDot (xs : List Rn) (rep : Int) (v : Value) (w : World) (hv : Rd w v xs) :
    Calls Tryz.prog 73 #[.agg #[v], .int .i64 rep] w fun e w' => e = .returned (.tuple #[.agg #[.int .i64 (nextDot xs rep).1, .int .i64 (nextDot xs rep).2.1], .bool (nextDot xs rep).2.2]) ∧ Below w.heap.size w w' := by
  obtain ⟨A, c, rfl, hc, hl⟩ := hv.val
  have HS := ((Own.start w).box [.slice A xs.length c] 34).box (b := w.heap.size + 1) [.int .i64 0, .int .i64 0] 55
  go_enter Tryz.func73, Tryz.ntmps73
  go_wp2
  go_loopw [6, 7] (fun top i wr => ∃ (k : Nat) (m : Int), k ≤ xs.length ∧ i = .int .i64 k ∧ top = .int .i64 m ∧ Own w [.box (w.heap.size + 1) 55 [.int .i64 0, .int .i64 0], .box w.heap.size 34 [.slice A xs.length c]] wr ∧ topOf rep xs 0 = topOf rep (xs.drop k) m) (fun _ i _ => xs.length - (intOf i).toNat)
  case atStart => exact ⟨0, 0, by omega, rfl, rfl, HS, rfl⟩
  case round =>
    obtain ⟨k, m, hk, rfl, rfl, HS', he⟩ := hrel
    have HE := Lib.hid he
    clear he HS
    have F := HS'.facts
    simp only [Own.Facts, Ds.map, Own.Cells, Nat.zero_add] at F
    by_cases hlt : k < xs.length
    · obtain ⟨b, o, rfl⟩ := hv.fix (by omega)
      have r0 := Rn.rd (HS'.old hv) k hlt
      have HD := Lib.hid (show xs.drop k = xs[k] :: xs.drop (k + 1) from List.drop_eq_getElem_cons hlt)
      obtain ⟨x, hx⟩ : ∃ x, xs[k] = x := ⟨_, rfl⟩
      rw [hx] at r0 HD
      clear hx
      by_cases h1 : x.r = rep
      · by_cases h2 : m < x.t
        · go_wp2
          go_roundw
          case rel => exact ⟨k + 1, x.t, by omega, by go_num, rfl, HS', by rw [HE.out, HD.out, topOf, if_pos ⟨h1, h2⟩]⟩
          case measure => simp [intOf]; omega
        · go_wp2
          go_roundw
          case rel => exact ⟨k + 1, m, by omega, by go_num, rfl, HS', by rw [HE.out, HD.out, topOf, if_neg (fun hc => h2 hc.2)]⟩
          case measure => simp [intOf]; omega
      · go_wp2
        go_roundw
        case rel => exact ⟨k + 1, m, by omega, by go_num, rfl, HS', by rw [HE.out, HD.out, topOf, if_neg (fun hc => h1 hc.1)]⟩
        case measure => simp [intOf]; omega
    · obtain rfl : k = xs.length := by omega
      rw [List.drop_length] at HE
      have HM : topOf rep xs 0 = m := HE.out
      cases h1 : ctxOk xs
      · have HN := Lib.hid (show nextDot xs rep = (0, 0, false) by unfold nextDot; rw [if_neg (fun hc => by rw [h1] at hc; exact absurd hc.1 (by simp))])
        go_wp2_with fail
        have HS := HS'.box (b := wr.heap.size) [.int .i64 rep, .int .i64 (wrap64 (m + 1))] 55
        refine (specCtxOk xs _ _ (by repeat (first | exact HS.old hv | exact HS.rd 0 rfl | exact HS.rd 1 rfl | exact HS.rd 2 rfl | exact HS.rd 3 rfl | exact HS.rd 4 rfl | exact HS.rd 5 rfl | exact HS.drew.old hv | exact HS.drew.rd 0 rfl | exact HS.drew.rd 1 rfl | exact HS.drew.rd 2 rfl | exact HS.drew.rd 3 rfl | exact HS.drew.rd 4 rfl | exact HS.drew.rd 5 rfl | refine Rd.alloc ?_ _))).mono ?_; rintro e w1 ⟨rfl, hb⟩; (first | have H' := HS.of_below hb | have H' := HS.drew.of_below hb | have H' := (HS.box0 [_] _).of_below hb | have H' := ((HS.box0 [_] _).box0 [_] _).of_below hb | have H' := (HS.alloc _).of_below hb | have H' := ((HS.alloc _).alloc _).of_below hb); clear HS; have HS := H'; clear H'; have F := HS.facts; simp only [Own.Facts, Ds.map, Own.Cells, World.size_alloc, List.cons_append, List.nil_append, List.eraseIdx_cons_succ, List.eraseIdx_cons_zero, List.eraseIdx_zero, List.tail_cons, Nat.zero_add] at F
        go_wp2
        exact bodyPost_ret (v := .tuple #[.agg #[.int .i64 0, .int .i64 0], .bool false]) (by simp [results, Tryz.results73, go_sem, *]) rfl ⟨by rw [HN.out], ((HS.pick 1 rfl).set 0 (.int .i64 0)).set 1 (.int .i64 0) |>.below⟩
      · have hm : 0 ≤ m ∧ m ≤ 1000000000 := by
          rw [← HM, topOf_last xs rep h1]
          unfold lastTo
          split
          · omega
          · rename_i s hs
            obtain ⟨r, hr, rfl⟩ := List.mem_map.1 (List.mem_of_getLast? hs)
            have := okPre_bound xs none (by unfold ctxOk at h1; simp at h1; exact h1.1) r (List.mem_filter.1 hr).1
            simp only; omega
        have hw : wrap64 (m + 1) = m + 1 := by unfold wrap64; omega
        cases h2 : runOk ⟨rep, m + 1, m + 1⟩
        · have HN := Lib.hid (show nextDot xs rep = (0, 0, false) by
            unfold nextDot; rw [if_neg]; rintro ⟨_, ha, hb, hc⟩; rw [HM] at hc; simp [runOk] at h2; have := h2 ha hb (by omega); omega)
          go_wp2_with fail
          have HS := HS'.box (b := wr.heap.size) [.int .i64 rep, .int .i64 (m + 1)] 55
          refine (specCtxOk xs _ _ (by repeat (first | exact HS.old hv | exact HS.rd 0 rfl | exact HS.rd 1 rfl | exact HS.rd 2 rfl | exact HS.rd 3 rfl | exact HS.rd 4 rfl | exact HS.rd 5 rfl | exact HS.drew.old hv | exact HS.drew.rd 0 rfl | exact HS.drew.rd 1 rfl | exact HS.drew.rd 2 rfl | exact HS.drew.rd 3 rfl | exact HS.drew.rd 4 rfl | exact HS.drew.rd 5 rfl | refine Rd.alloc ?_ _))).mono ?_; rintro e w1 ⟨rfl, hb⟩; (first | have H' := HS.of_below hb | have H' := HS.drew.of_below hb | have H' := (HS.box0 [_] _).of_below hb | have H' := ((HS.box0 [_] _).box0 [_] _).of_below hb | have H' := (HS.alloc _).of_below hb | have H' := ((HS.alloc _).alloc _).of_below hb); clear HS; have HS := H'; clear H'; have F := HS.facts; simp only [Own.Facts, Ds.map, Own.Cells, World.size_alloc, List.cons_append, List.nil_append, List.eraseIdx_cons_succ, List.eraseIdx_cons_zero, List.eraseIdx_zero, List.tail_cons, Nat.zero_add] at F
          go_wp2_with fail
          refine (l2DotOk rep (m + 1) _).mono ?_; rintro e w2 ⟨rfl, hb⟩; (first | have H' := HS.of_below hb | have H' := HS.drew.of_below hb | have H' := (HS.box0 [_] _).of_below hb | have H' := ((HS.box0 [_] _).box0 [_] _).of_below hb | have H' := (HS.alloc _).of_below hb | have H' := ((HS.alloc _).alloc _).of_below hb); clear HS; have HS := H'; clear H'; have F := HS.facts; simp only [Own.Facts, Ds.map, Own.Cells, World.size_alloc, List.cons_append, List.nil_append, List.eraseIdx_cons_succ, List.eraseIdx_cons_zero, List.eraseIdx_zero, List.tail_cons, Nat.zero_add] at F
          go_wp2
          exact bodyPost_ret (v := .tuple #[.agg #[.int .i64 0, .int .i64 0], .bool false]) (by simp [results, Tryz.results73, go_sem, *]) rfl ⟨by rw [HN.out], ((HS.pick 1 rfl).set 0 (.int .i64 0)).set 1 (.int .i64 0) |>.below⟩
        · have HN := Lib.hid (show nextDot xs rep = (rep, m + 1, true) by
            unfold nextDot; rw [HM]; simp [runOk] at h2; rw [if_pos ⟨h1, by omega, by omega, by omega⟩])
          go_wp2_with fail
          have HS := HS'.box (b := wr.heap.size) [.int .i64 rep, .int .i64 (m + 1)] 55
          refine (specCtxOk xs _ _ (by repeat (first | exact HS.old hv | exact HS.rd 0 rfl | exact HS.rd 1 rfl | exact HS.rd 2 rfl | exact HS.rd 3 rfl | exact HS.rd 4 rfl | exact HS.rd 5 rfl | exact HS.drew.old hv | exact HS.drew.rd 0 rfl | exact HS.drew.rd 1 rfl | exact HS.drew.rd 2 rfl | exact HS.drew.rd 3 rfl | exact HS.drew.rd 4 rfl | exact HS.drew.rd 5 rfl | refine Rd.alloc ?_ _))).mono ?_; rintro e w1 ⟨rfl, hb⟩; (first | have H' := HS.of_below hb | have H' := HS.drew.of_below hb | have H' := (HS.box0 [_] _).of_below hb | have H' := ((HS.box0 [_] _).box0 [_] _).of_below hb | have H' := (HS.alloc _).of_below hb | have H' := ((HS.alloc _).alloc _).of_below hb); clear HS; have HS := H'; clear H'; have F := HS.facts; simp only [Own.Facts, Ds.map, Own.Cells, World.size_alloc, List.cons_append, List.nil_append, List.eraseIdx_cons_succ, List.eraseIdx_cons_zero, List.eraseIdx_zero, List.tail_cons, Nat.zero_add] at F
          go_wp2_with fail
          refine (l2DotOk rep (m + 1) _).mono ?_; rintro e w2 ⟨rfl, hb⟩; (first | have H' := HS.of_below hb | have H' := HS.drew.of_below hb | have H' := (HS.box0 [_] _).of_below hb | have H' := ((HS.box0 [_] _).box0 [_] _).of_below hb | have H' := (HS.alloc _).of_below hb | have H' := ((HS.alloc _).alloc _).of_below hb); clear HS; have HS := H'; clear H'; have F := HS.facts; simp only [Own.Facts, Ds.map, Own.Cells, World.size_alloc, List.cons_append, List.nil_append, List.eraseIdx_cons_succ, List.eraseIdx_cons_zero, List.eraseIdx_zero, List.tail_cons, Nat.zero_add] at F
          go_wp2
          exact bodyPost_ret (v := .tuple #[.agg #[.int .i64 rep, .int .i64 (m + 1)], .bool true]) (by simp [results, Tryz.results73, go_sem, *]) rfl ⟨by rw [HN.out], ((HS.pick 1 rfl).set 0 (.int .i64 rep)).set 1 (.int .i64 (m + 1)) |>.below⟩
end Go.Proofs.YtkafflbakgkpcaaGreat
