/- AddDot: both sides. -/
import Derived.Test.YtgfgkbmebdaieaaV6
import Derived.Test.YtgfgkbmebdaieaaV7
namespace Go.Proofs.Ytgfgkbmebdaieaa
set_option linter.unusedSimpArgs false
set_option linter.unusedVariables false
open Go.RowKit Go.Ow
attribute [local irreducible] wpQuiet
set_option maxRecDepth 100000
theorem implAddDot (xs : List Rn) (rep seq : Int) (v : Value) (w : World) (hv : Rd w v xs) (hn : xs.length ≤ 1048576) :
    Calls Try.prog 32 #[.agg #[v], .agg #[.int .i64 rep, .int .i64 seq]] w fun e w' => ∃ vr, e = .returned (.tuple #[.agg #[vr], .bool (uniOk xs [⟨rep, seq, seq⟩])]) ∧ Own w [.own vr (uniR xs [⟨rep, seq, seq⟩])] w' := by
  obtain ⟨A, c, rfl, _, _⟩ := hv.val
  have HS := (((Own.start w).box [.slice A xs.length c] 33).box (b := w.heap.size + 1) [.int .i64 rep, .int .i64 seq] 55).box (b := w.heap.size + 1 + 1) [.slice none 0 0] 33
  have HL := (HS.lit [(⟨rep, seq, seq⟩ : Rn)] #[.int .i64 rep, .int .i64 seq, .int .i64 seq] 96 rfl rfl (by simp))
  simp only [World.size_alloc] at HL
  obtain ⟨zs, hzs⟩ : ∃ zs, uniR xs [⟨rep, seq, seq⟩] = zs := ⟨_, rfl⟩
  obtain ⟨ok, hok⟩ : ∃ ok, uniOk xs [⟨rep, seq, seq⟩] = ok := ⟨_, rfl⟩
  have hcall := implUnion xs [⟨rep, seq, seq⟩] _ _ _ (HL.old hv) (HL.rd 0 rfl) hn (by simp)
  rw [hzs, hok] at hcall ⊢
  have HC := Lib.hid hcall
  clear hcall hzs hok
  go_enter Try.func32, Try.ntmps32
  go_wp2_with fail
  refine HC.out.mono ?_
  rintro e w2 ⟨vr, rfl, hs⟩
  obtain ⟨A3, c3, rfl, _, _⟩ := (hs.rd 0 rfl).val
  have HS2 := HL.call1 hs
  clear HS HL HC
  have HS := HS2
  have F := HS.facts; simp only [Own.Facts, Own.Cells, World.size_alloc, List.cons_append, List.nil_append, List.eraseIdx_cons_succ, List.eraseIdx_cons_zero, List.eraseIdx_zero, List.tail_cons, Nat.zero_add] at F
  go_wp2
  have H3 := ((HS.pick 2 rfl).set 0 (.slice A3 zs.length c3))
  have F3 := H3.facts
  simp only [Own.Facts, Own.Cells, List.set_cons_zero] at F3
  exact bodyPost_ret (v := .tuple #[.agg #[.slice A3 zs.length c3], .bool ok]) (by simp [results, Try.results32, go_sem, *]) rfl ⟨_, rfl, H3.drop.only⟩
theorem specAddDot (xs : List Rn) (rep seq : Int) (v : Value) (w : World) (hv : Rd w v xs) :
    Calls Try.prog 30 #[.agg #[v], .agg #[.int .i64 rep, .int .i64 seq]] w fun e w' => ∃ vr, e = .returned (.tuple #[.agg #[vr], .bool (uniOk xs [⟨rep, seq, seq⟩])]) ∧ Own w [.own vr (uniR xs [⟨rep, seq, seq⟩])] w' := by
  obtain ⟨A, c, rfl, _, _⟩ := hv.val
  have HS := (((Own.start w).box [.slice A xs.length c] 33).box (b := w.heap.size + 1) [.int .i64 rep, .int .i64 seq] 55).box (b := w.heap.size + 1 + 1) [.slice none 0 0] 33
  have HL := (HS.lit [(⟨rep, seq, seq⟩ : Rn)] #[.int .i64 rep, .int .i64 seq, .int .i64 seq] 96 rfl rfl (by simp))
  simp only [World.size_alloc] at HL
  obtain ⟨zs, hzs⟩ : ∃ zs, uniR xs [⟨rep, seq, seq⟩] = zs := ⟨_, rfl⟩
  obtain ⟨ok, hok⟩ : ∃ ok, uniOk xs [⟨rep, seq, seq⟩] = ok := ⟨_, rfl⟩
  have hcall := specUnion xs [⟨rep, seq, seq⟩] _ _ _ (HL.old hv) (HL.rd 0 rfl)
  rw [hzs, hok] at hcall ⊢
  have HC := Lib.hid hcall
  clear hcall hzs hok
  go_enter Try.func30, Try.ntmps30
  go_wp2_with fail
  refine HC.out.mono ?_
  rintro e w2 ⟨vr, rfl, hs⟩
  obtain ⟨A3, c3, rfl, _, _⟩ := (hs.rd 0 rfl).val
  have HS2 := HL.call1 hs
  clear HS HL HC
  have HS := HS2
  have F := HS.facts; simp only [Own.Facts, Own.Cells, World.size_alloc, List.cons_append, List.nil_append, List.eraseIdx_cons_succ, List.eraseIdx_cons_zero, List.eraseIdx_zero, List.tail_cons, Nat.zero_add] at F
  go_wp2
  have H3 := ((HS.pick 2 rfl).set 0 (.slice A3 zs.length c3))
  have F3 := H3.facts
  simp only [Own.Facts, Own.Cells, List.set_cons_zero] at F3
  exact bodyPost_ret (v := .tuple #[.agg #[.slice A3 zs.length c3], .bool ok]) (by simp [results, Try.results30, go_sem, *]) rfl ⟨_, rfl, H3.drop.only⟩
end Go.Proofs.Ytgfgkbmebdaieaa
