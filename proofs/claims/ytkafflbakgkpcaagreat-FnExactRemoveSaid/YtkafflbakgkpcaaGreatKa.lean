/- One dot put into a live context; paths under paths; a live state's leaves cloned. -/
import Derived.Test.YtkafflbakgkpcaaGreatVa
import Derived.Test.YtkafflbakgkpcaaGreatM1
import Derived.Test.YtkafflbakgkpcaaGreatJ3
import Derived.Test.YtkafflbakgkpcaaGreatL1
import Derived.Test.YtkafflbakgkpcaaGreatL2
/-FM-/
namespace Go.Proofs.YtkafflbakgkpcaaGreat
set_option linter.unusedSimpArgs false
set_option linter.unusedVariables false
open Go.RowKit Go.Ow Go.MapKept
attribute [local irreducible] wpQuiet
set_option maxRecDepth 100000
set_option maxHeartbeats 2000000 in
theorem addDot {W0 : World} {R : List Ds} (g : List (Int × List Sp)) (b : Nat) (r q : Int) (w : World) (HS0 : Own W0 (.map none b g :: R) w) (hg : ∀ k, Ns (mget g k) ∧ (mget g k).length ≤ 1048576) (hq : 1 ≤ q ∧ q ≤ 1000000000) :
    Calls Tryz.prog 64 #[.map (some b), .agg #[.int .i64 r, .int .i64 q]] w fun e w' => e = .returned (.tuple #[]) ∧ ∃ g', Own W0 (.map none b g' :: R) w' ∧ (∀ k, Ns (mget g' k) ∧ (∀ p, SpIn (mget g' k) p ↔ SpIn (mget g k) p ∨ (r = k ∧ q = p)) ∧ (mget g' k).length ≤ (mget g k).length + 1) := by
  have HG := Lib.hid hg
  clear hg
  have HB := (HS0.box (b := w.heap.size) [.int .i64 r, .int .i64 q] 55).pick 1 rfl
  obtain ⟨v, hl, HT⟩ := run_look HB Tryz.underlying87 Tryz.underlying3 zeroSpans r
  have hl1 := hl false _ (Below.refl _ _).drew
  have hl2 := hl false _ ((Below.refl _ _).alloc (Nat.le_refl _) (.cells #[.int .i64 q, .int .i64 q] 116)).drew
  clear hl
  have HL : Own W0 (.own v (mget g r) :: .own (.slice (some ⟨w.heap.size + 1, 0, none⟩) 1 1) [(⟨q, q⟩ : Sp)] :: .map (some r) b g :: .box w.heap.size 55 [.int .i64 r, .int .i64 q] :: R)
      ((w.alloc (.cells #[.int .i64 r, .int .i64 q] 55)).alloc (.cells #[.int .i64 q, .int .i64 q] 116)).drew := by
    have := ((HT.lit [(⟨q, q⟩ : Sp)] #[.int .i64 q, .int .i64 q] 116 rfl rfl (by simp)).drew).pick 1 rfl
    simp only [World.size_alloc] at this
    exact this
  have hgl := (HG.out r).2
  have HS := HL
  have F := HS.facts; simp only [Own.Facts, Ds.map, Own.Cells, World.size_alloc, List.cons_append, List.nil_append, List.eraseIdx_cons_succ, List.eraseIdx_cons_zero, List.eraseIdx_zero, List.tail_cons, Nat.zero_add] at F
  go_enter Tryz.func64, Tryz.ntmps64
  go_wp2
  go_region_held3 (fun w' => w'.cell? ⟨w.heap.size, 0, none⟩ = some (.int .i64 r) ∧ w'.cell? ⟨w.heap.size, 1, none⟩ = some (.int .i64 q)) (first | go_keep | (trace_state; fail)) (first | (go_at_call 87; refine (mergedSp (mget g r) [(⟨q, q⟩ : Sp)] _ _ _ (HL.rd 0 rfl) (HL.rd 1 rfl) (HG.out r).1 ⟨by simp, by simp [Vs]; omega⟩ (by simp) (by simp only [List.length_cons, List.length_nil]; omega)).mono ?_; rintro e w3 ⟨v5, out, rfl, hs, n1, n2, n3⟩; have H3 := (((HL.call1 hs).pick 1 rfl).drop.pick 1 rfl).drop; obtain ⟨w4, hput, HS4⟩ := run_put H3 Tryz.underlying87 Tryz.underlying3; have HS := H3; have F := HS.facts; simp only [Own.Facts, Ds.map, Own.Cells, World.size_alloc, List.cons_append, List.nil_append, List.eraseIdx_cons_succ, List.eraseIdx_cons_zero, List.eraseIdx_zero, List.tail_cons, Nat.zero_add] at F; have F3 := F; clear F; have HS := HS4; have F := HS.facts; simp only [Own.Facts, Ds.map, Own.Cells, World.size_alloc, List.cons_append, List.nil_append, List.eraseIdx_cons_succ, List.eraseIdx_cons_zero, List.eraseIdx_zero, List.tail_cons, Nat.zero_add] at F) | (trace_state; fail))
  all_goals
    have HN := Lib.hid (And.intro n1 (And.intro n2 n3))
    clear F F3 hput hl1 hl2 HL n1 n2 n3
    have HS5 := (HS4.pick 1 rfl).drop
    go_wp2
    go_end0
    refine ⟨rfl, _, HS5, fun k => ?_⟩
    rw [mget_mput]
    by_cases hk : k = r
    · subst hk
      rw [if_pos rfl]
      obtain ⟨n1, n2, n3⟩ := HN.out
      refine ⟨n1, fun p => ?_, by simpa using n3⟩
      rw [n2, spIn_one]
      constructor
      · rintro (h | h)
        · exact .inl h
        · exact .inr ⟨rfl, by simp only at h; omega⟩
      · rintro (h | ⟨_, h⟩)
        · exact .inl h
        · exact .inr (by simp only; omega)
    · rw [if_neg hk]
      refine ⟨(HG.out k).1, fun p => ?_, by omega⟩
      constructor
      · exact .inl
      · rintro (h | ⟨h, _⟩)
        · exact h
        · exact absurd h.symm hk
end Go.Proofs.YtkafflbakgkpcaaGreat
