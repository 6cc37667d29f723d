/- Dots: helpers, and NextDot on both sides. -/
import Derived.Test.YtkafflbakgkpcaaGreatM1
import Derived.Test.YtkafflbakgkpcaaGreatHa
/-FM-/
namespace Go.Proofs.YtkafflbakgkpcaaGreat
set_option linter.unusedSimpArgs false
set_option linter.unusedVariables false
open Go.RowKit Go.Ow
attribute [local irreducible] wpQuiet
set_option maxRecDepth 100000
theorem l2DotOk (r s : Int) (w : World) : Calls Tryz.prog 93 #[.agg #[.int .i64 r, .int .i64 s]] w fun e w' => e = .returned (.bool (runOk ⟨r, s, s⟩)) ∧ Below w.heap.size w w' := by
  have HS := (Own.start w).box [.int .i64 r, .int .i64 s] 55
  go_enter Tryz.func93, Tryz.ntmps93
  go_wp2_with fail
  refine (l2RunOk ⟨r, s, s⟩ _).mono ?_
  rintro e w1 ⟨rfl, hb⟩
  go_wp2
  go_ret
  exact ⟨rfl, (HS.of_below hb).below⟩
def nextDot (xs : List Rn) (rep : Int) : Int × Int × Bool :=
  if ctxOk xs = true ∧ 0 ≤ rep ∧ rep < 8 ∧ topOf rep xs 0 ≠ 1000000000 then (rep, topOf rep xs 0 + 1, true) else (0, 0, false)
theorem implNextDot (xs : List Rn) (rep : Int) (v : Value) (w : World) (hv : Rd w v xs) (hn : xs.length ≤ 1048576) :
    Calls Tryz.prog 74 #[.agg #[v], .int .i64 rep] w fun e w' => e = .returned (.tuple #[.agg #[.int .i64 (nextDot xs rep).1, .int .i64 (nextDot xs rep).2.1], .bool (nextDot xs rep).2.2]) ∧ Below w.heap.size w w' := by
  obtain ⟨A, c, rfl, hc, hl⟩ := hv.val
  have HS := ((Own.start w).box [.slice A xs.length c] 34).box (b := w.heap.size + 1) [.int .i64 0, .int .i64 0] 55
  by_cases h : ctxOk xs = true ∧ 0 ≤ rep ∧ rep < 8
  · obtain ⟨h1, h2, h3⟩ := h
    have HT := Lib.hid (topOf_last xs rep h1)
    have HM := Lib.hid (mget_cloud0 xs rep)
    have hmx : ∀ s ∈ spansOf xs rep, 1 ≤ s.t ∧ s.t ≤ 1000000000 := by
      intro s hs
      obtain ⟨r, hr, rfl⟩ := List.mem_map.1 hs
      have := okPre_bound xs none (by unfold ctxOk at h1; simp at h1; exact h1.1) r ((List.mem_filter.1 hr).1)
      simp only; omega
    obtain ⟨l, hll⟩ : ∃ l, spansOf xs rep = l := ⟨_, rfl⟩
    rw [hll] at HM HT hmx
    clear hll
    by_cases hlen : 0 < l.length
    · have hlast : lastTo l = l[l.length - 1].t := by unfold lastTo; rw [List.getLast?_eq_getElem?, List.getElem?_eq_getElem (by omega)]
      have hb := hmx _ (List.getElem_mem (l := l) (n := l.length - 1) (by omega))
      by_cases htop : l[l.length - 1].t = 1000000000
      · have HN := Lib.hid (show nextDot xs rep = (0, 0, false) by unfold nextDot; rw [if_neg (fun hc => hc.2.2.2 (by rw [HT.out, hlast, htop]))])
        have HLA := Lib.hid hlast
        clear hlast hmx
        go_enter Tryz.func74, Tryz.ntmps74
        go_wp2_with fail
        refine (implCtxOk xs _ _ (by repeat (first | exact HS.old hv | exact HS.rd 0 rfl | exact HS.rd 1 rfl | exact HS.rd 2 rfl | exact HS.rd 3 rfl | exact HS.rd 4 rfl | exact HS.rd 5 rfl | exact HS.drew.old hv | exact HS.drew.rd 0 rfl | exact HS.drew.rd 1 rfl | exact HS.drew.rd 2 rfl | exact HS.drew.rd 3 rfl | exact HS.drew.rd 4 rfl | exact HS.drew.rd 5 rfl | refine Rd.alloc ?_ _))).mono ?_; rintro e w1 ⟨rfl, hb⟩; (first | have H' := HS.of_below hb | have H' := HS.drew.of_below hb | have H' := (HS.box0 [_] _).of_below hb | have H' := ((HS.box0 [_] _).box0 [_] _).of_below hb | have H' := (HS.alloc _).of_below hb | have H' := ((HS.alloc _).alloc _).of_below hb); clear HS; have HS := H'; clear H'; have F := HS.facts; simp only [Own.Facts, Ds.map, Own.Cells, World.size_alloc, List.cons_append, List.nil_append, List.eraseIdx_cons_succ, List.eraseIdx_cons_zero, List.eraseIdx_zero, List.tail_cons, Nat.zero_add] at F
        go_wp2_with fail
        refine (cloudOf xs _ _ (by repeat (first | exact HS.old hv | exact HS.rd 0 rfl | exact HS.rd 1 rfl | exact HS.rd 2 rfl | exact HS.rd 3 rfl | exact HS.rd 4 rfl | exact HS.rd 5 rfl | exact HS.drew.old hv | exact HS.drew.rd 0 rfl | exact HS.drew.rd 1 rfl | exact HS.drew.rd 2 rfl | exact HS.drew.rd 3 rfl | exact HS.drew.rd 4 rfl | exact HS.drew.rd 5 rfl | refine Rd.alloc ?_ _)) hn).mono ?_; rintro e w2 ⟨b2, rfl, hs⟩; (first | have H' := HS.call1 hs | have H' := HS.drew.call1 hs | have H' := (HS.box0 [_] _).call1 hs | have H' := ((HS.box0 [_] _).box0 [_] _).call1 hs | have H' := (HS.alloc _).call1 hs | have H' := ((HS.alloc _).alloc _).call1 hs); clear HS; have HS := H'; clear H'; have F := HS.facts; simp only [Own.Facts, Ds.map, Own.Cells, World.size_alloc, List.cons_append, List.nil_append, List.eraseIdx_cons_succ, List.eraseIdx_cons_zero, List.eraseIdx_zero, List.tail_cons, Nat.zero_add] at F
        go_wp2_with (refine wp_look rfl _ _ false (by rfl) Tryz.underlying87 Tryz.underlying3 zeroSpans HS rfl rep rfl ?_; intro v3 HS3; rw [HM.out] at HS3; obtain ⟨A3, c3, rfl, _, hl3⟩ := (HS3.rd 0 rfl).val; obtain ⟨b3, rfl⟩ := HS3.fix hlen; have r3 := HS3.rowc.1 (l.length - 1) (by omega) 1 (by decide); have e3 := i64w (show (l.length : Int) - 1 = ((l.length - 1 : Nat) : Int) by omega) (by omega) (by omega); have r4 : w2.cell? ⟨b3, (l.length - 1) * 2 + 1, none⟩ = some (.int .i64 l[l.length - 1].t) := r3; clear r3)
        exact bodyPost_ret (v := .tuple #[.agg #[.int .i64 0, .int .i64 0], .bool false]) (by simp [results, Tryz.results74, go_sem, *]) rfl ⟨by rw [HN.out], ((HS.pick 1 rfl).set 0 (.int .i64 0)).set 1 (.int .i64 0) |>.below⟩
      · have HN := Lib.hid (show nextDot xs rep = (rep, l[l.length - 1].t + 1, true) by unfold nextDot; rw [if_pos ⟨h1, h2, h3, by rw [HT.out, hlast]; exact htop⟩, HT.out, hlast])
        have HLA := Lib.hid hlast
        clear hlast hmx
        go_enter Tryz.func74, Tryz.ntmps74
        go_wp2_with fail
        refine (implCtxOk xs _ _ (by repeat (first | exact HS.old hv | exact HS.rd 0 rfl | exact HS.rd 1 rfl | exact HS.rd 2 rfl | exact HS.rd 3 rfl | exact HS.rd 4 rfl | exact HS.rd 5 rfl | exact HS.drew.old hv | exact HS.drew.rd 0 rfl | exact HS.drew.rd 1 rfl | exact HS.drew.rd 2 rfl | exact HS.drew.rd 3 rfl | exact HS.drew.rd 4 rfl | exact HS.drew.rd 5 rfl | refine Rd.alloc ?_ _))).mono ?_; rintro e w1 ⟨rfl, hb⟩; (first | have H' := HS.of_below hb | have H' := HS.drew.of_below hb | have H' := (HS.box0 [_] _).of_below hb | have H' := ((HS.box0 [_] _).box0 [_] _).of_below hb | have H' := (HS.alloc _).of_below hb | have H' := ((HS.alloc _).alloc _).of_below hb); clear HS; have HS := H'; clear H'; have F := HS.facts; simp only [Own.Facts, Ds.map, Own.Cells, World.size_alloc, List.cons_append, List.nil_append, List.eraseIdx_cons_succ, List.eraseIdx_cons_zero, List.eraseIdx_zero, List.tail_cons, Nat.zero_add] at F
        go_wp2_with fail
        refine (cloudOf xs _ _ (by repeat (first | exact HS.old hv | exact HS.rd 0 rfl | exact HS.rd 1 rfl | exact HS.rd 2 rfl | exact HS.rd 3 rfl | exact HS.rd 4 rfl | exact HS.rd 5 rfl | exact HS.drew.old hv | exact HS.drew.rd 0 rfl | exact HS.drew.rd 1 rfl | exact HS.drew.rd 2 rfl | exact HS.drew.rd 3 rfl | exact HS.drew.rd 4 rfl | exact HS.drew.rd 5 rfl | refine Rd.alloc ?_ _)) hn).mono ?_; rintro e w2 ⟨b2, rfl, hs⟩; (first | have H' := HS.call1 hs | have H' := HS.drew.call1 hs | have H' := (HS.box0 [_] _).call1 hs | have H' := ((HS.box0 [_] _).box0 [_] _).call1 hs | have H' := (HS.alloc _).call1 hs | have H' := ((HS.alloc _).alloc _).call1 hs); clear HS; have HS := H'; clear H'; have F := HS.facts; simp only [Own.Facts, Ds.map, Own.Cells, World.size_alloc, List.cons_append, List.nil_append, List.eraseIdx_cons_succ, List.eraseIdx_cons_zero, List.eraseIdx_zero, List.tail_cons, Nat.zero_add] at F
        go_wp2_with (refine wp_look rfl _ _ false (by rfl) Tryz.underlying87 Tryz.underlying3 zeroSpans HS rfl rep rfl ?_; intro v3 HS3; rw [HM.out] at HS3; obtain ⟨A3, c3, rfl, _, hl3⟩ := (HS3.rd 0 rfl).val; obtain ⟨b3, rfl⟩ := HS3.fix hlen; have r3 := HS3.rowc.1 (l.length - 1) (by omega) 1 (by decide); have e3 := i64w (show (l.length : Int) - 1 = ((l.length - 1 : Nat) : Int) by omega) (by omega) (by omega); have r4 : w2.cell? ⟨b3, (l.length - 1) * 2 + 1, none⟩ = some (.int .i64 l[l.length - 1].t) := r3; clear r3)
        exact bodyPost_ret (v := .tuple #[.agg #[.int .i64 rep, .int .i64 (l[l.length - 1].t + 1)], .bool true]) (by simp [results, Tryz.results74, go_sem, *]) rfl ⟨by rw [HN.out], ((HS.pick 1 rfl).set 0 (.int .i64 rep)).set 1 (.int .i64 (l[l.length - 1].t + 1)) |>.below⟩
    · have hl0 : l = [] := List.eq_nil_of_length_eq_zero (by omega)
      have HN := Lib.hid (show nextDot xs rep = (rep, 1, true) by unfold nextDot; rw [if_pos ⟨h1, h2, h3, by rw [HT.out, hl0]; decide⟩, HT.out, hl0]; rfl)
      have hl1 : l.length = 0 := by omega
      clear hl0 hmx
      go_enter Tryz.func74, Tryz.ntmps74
      go_wp2_with fail
      refine (implCtxOk xs _ _ (by repeat (first | exact HS.old hv | exact HS.rd 0 rfl | exact HS.rd 1 rfl | exact HS.rd 2 rfl | exact HS.rd 3 rfl | exact HS.rd 4 rfl | exact HS.rd 5 rfl | exact HS.drew.old hv | exact HS.drew.rd 0 rfl | exact HS.drew.rd 1 rfl | exact HS.drew.rd 2 rfl | exact HS.drew.rd 3 rfl | exact HS.drew.rd 4 rfl | exact HS.drew.rd 5 rfl | refine Rd.alloc ?_ _))).mono ?_; rintro e w1 ⟨rfl, hb⟩; (first | have H' := HS.of_below hb | have H' := HS.drew.of_below hb | have H' := (HS.box0 [_] _).of_below hb | have H' := ((HS.box0 [_] _).box0 [_] _).of_below hb | have H' := (HS.alloc _).of_below hb | have H' := ((HS.alloc _).alloc _).of_below hb); clear HS; have HS := H'; clear H'; have F := HS.facts; simp only [Own.Facts, Ds.map, Own.Cells, World.size_alloc, List.cons_append, List.nil_append, List.eraseIdx_cons_succ, List.eraseIdx_cons_zero, List.eraseIdx_zero, List.tail_cons, Nat.zero_add] at F
      go_wp2_with fail
      refine (cloudOf xs _ _ (by repeat (first | exact HS.old hv | exact HS.rd 0 rfl | exact HS.rd 1 rfl | exact HS.rd 2 rfl | exact HS.rd 3 rfl | exact HS.rd 4 rfl | exact HS.rd 5 rfl | exact HS.drew.old hv | exact HS.drew.rd 0 rfl | exact HS.drew.rd 1 rfl | exact HS.drew.rd 2 rfl | exact HS.drew.rd 3 rfl | exact HS.drew.rd 4 rfl | exact HS.drew.rd 5 rfl | refine Rd.alloc ?_ _)) hn).mono ?_; rintro e w2 ⟨b2, rfl, hs⟩; (first | have H' := HS.call1 hs | have H' := HS.drew.call1 hs | have H' := (HS.box0 [_] _).call1 hs | have H' := ((HS.box0 [_] _).box0 [_] _).call1 hs | have H' := (HS.alloc _).call1 hs | have H' := ((HS.alloc _).alloc _).call1 hs); clear HS; have HS := H'; clear H'; have F := HS.facts; simp only [Own.Facts, Ds.map, Own.Cells, World.size_alloc, List.cons_append, List.nil_append, List.eraseIdx_cons_succ, List.eraseIdx_cons_zero, List.eraseIdx_zero, List.tail_cons, Nat.zero_add] at F
      go_wp2_with (refine wp_look rfl _ _ false (by rfl) Tryz.underlying87 Tryz.underlying3 zeroSpans HS rfl rep rfl ?_; intro v3 HS3; rw [HM.out] at HS3; obtain ⟨A3, c3, rfl, _, hl3⟩ := (HS3.rd 0 rfl).val; skip)
      exact bodyPost_ret (v := .tuple #[.agg #[.int .i64 rep, .int .i64 1], .bool true]) (by simp [results, Tryz.results74, go_sem, *]) rfl ⟨by rw [HN.out], ((HS.pick 1 rfl).set 0 (.int .i64 rep)).set 1 (.int .i64 1) |>.below⟩
  · have HN := Lib.hid (show nextDot xs rep = (0, 0, false) by unfold nextDot; rw [if_neg (fun hc => h ⟨hc.1, hc.2.1, hc.2.2.1⟩)])
    cases h1 : ctxOk xs
    · go_enter Tryz.func74, Tryz.ntmps74
      go_wp2_with fail
      refine (implCtxOk xs _ _ (by repeat (first | exact HS.old hv | exact HS.rd 0 rfl | exact HS.rd 1 rfl | exact HS.rd 2 rfl | exact HS.rd 3 rfl | exact HS.rd 4 rfl | exact HS.rd 5 rfl | exact HS.drew.old hv | exact HS.drew.rd 0 rfl | exact HS.drew.rd 1 rfl | exact HS.drew.rd 2 rfl | exact HS.drew.rd 3 rfl | exact HS.drew.rd 4 rfl | exact HS.drew.rd 5 rfl | refine Rd.alloc ?_ _))).mono ?_; rintro e w1 ⟨rfl, hb⟩; (first | have H' := HS.of_below hb | have H' := HS.drew.of_below hb | have H' := (HS.box0 [_] _).of_below hb | have H' := ((HS.box0 [_] _).box0 [_] _).of_below hb | have H' := (HS.alloc _).of_below hb | have H' := ((HS.alloc _).alloc _).of_below hb); clear HS; have HS := H'; clear H'; have F := HS.facts; simp only [Own.Facts, Ds.map, Own.Cells, World.size_alloc, List.cons_append, List.nil_append, List.eraseIdx_cons_succ, List.eraseIdx_cons_zero, List.eraseIdx_zero, List.tail_cons, Nat.zero_add] at F
      go_wp2
      exact bodyPost_ret (v := .tuple #[.agg #[.int .i64 0, .int .i64 0], .bool false]) (by simp [results, Tryz.results74, go_sem, *]) rfl ⟨by rw [HN.out], ((HS.set 0 (.int .i64 0)).set 1 (.int .i64 0)).below⟩
    · have h4 : rep < 0 ∨ 8 ≤ rep := by
        rcases Int.lt_or_le rep 0 with h5 | h5
        · exact .inl h5
        · exact .inr (by rcases Int.lt_or_le rep 8 with h6 | h6; exact absurd ⟨h1, h5, h6⟩ h; exact h6)
      have HH := Lib.hid h
      clear h
      rcases h4 with h4 | h4
      all_goals
        go_enter Tryz.func74, Tryz.ntmps74
        go_wp2_with fail
        refine (implCtxOk xs _ _ (by repeat (first | exact HS.old hv | exact HS.rd 0 rfl | exact HS.rd 1 rfl | exact HS.rd 2 rfl | exact HS.rd 3 rfl | exact HS.rd 4 rfl | exact HS.rd 5 rfl | exact HS.drew.old hv | exact HS.drew.rd 0 rfl | exact HS.drew.rd 1 rfl | exact HS.drew.rd 2 rfl | exact HS.drew.rd 3 rfl | exact HS.drew.rd 4 rfl | exact HS.drew.rd 5 rfl | refine Rd.alloc ?_ _))).mono ?_; rintro e w1 ⟨rfl, hb⟩; (first | have H' := HS.of_below hb | have H' := HS.drew.of_below hb | have H' := (HS.box0 [_] _).of_below hb | have H' := ((HS.box0 [_] _).box0 [_] _).of_below hb | have H' := (HS.alloc _).of_below hb | have H' := ((HS.alloc _).alloc _).of_below hb); clear HS; have HS := H'; clear H'; have F := HS.facts; simp only [Own.Facts, Ds.map, Own.Cells, World.size_alloc, List.cons_append, List.nil_append, List.eraseIdx_cons_succ, List.eraseIdx_cons_zero, List.eraseIdx_zero, List.tail_cons, Nat.zero_add] at F
        go_wp2
        exact bodyPost_ret (v := .tuple #[.agg #[.int .i64 0, .int .i64 0], .bool false]) (by simp [results, Tryz.results74, go_sem, *]) rfl ⟨by rw [HN.out], ((HS.set 0 (.int .i64 0)).set 1 (.int .i64 0)).below⟩
end Go.Proofs.YtkafflbakgkpcaaGreat
