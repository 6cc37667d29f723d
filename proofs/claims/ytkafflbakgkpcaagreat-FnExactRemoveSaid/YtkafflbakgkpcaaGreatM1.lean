/- Live contexts: the spans of each replica. -/
import Derived.Test.YtkafflbakgkpcaaGreatCa
import Derived.Test.YtkafflbakgkpcaaGreatL1
import Derived.Test.YtkafflbakgkpcaaGreatL2
import Derived.Outline
/-FM-/
namespace Go.Proofs.YtkafflbakgkpcaaGreat
set_option linter.unusedSimpArgs false
set_option linter.unusedVariables false
open Go.RowKit Go.Ow
attribute [local irreducible] wpQuiet
set_option maxRecDepth 100000
instance : Ty Sp := ⟨116⟩
instance : ElZ Tryz.prog Sp := { bytes := 16, info := El.of (by kernel_rfl), zero := ⟨0, 0⟩, infoz := ElZ.of (by kernel_rfl) }
theorem Sp.rd {w : World} {b o n c : Nat} {xs : List Sp} (h : Rd w (.slice (some ⟨b, o, none⟩) n c) xs) (i : Nat) (hi : i < xs.length) :
    w.cell? ⟨b, o + i * 2, none⟩ = some (.int .i64 xs[i].f) ∧ w.cell? ⟨b, o + i * 2 + 1, none⟩ = some (.int .i64 xs[i].t) :=
  ⟨h.get i hi 0 (by decide), h.get i hi 1 (by decide)⟩
theorem zeroSpans (w : World) : (zeroValue 114).run Tryz.prog w = .ok (.slice none 0 0) w := by kernel_rfl
theorem cloudOf (xs : List Rn) (v : Value) (w : World) (hv : Rd w v xs) (hn : xs.length ≤ 1048576) : Calls Tryz.prog 57 #[.agg #[v]] w fun e w' => ∃ b, e = .returned (.map (some b)) ∧ Own w [.map none b (cloud [] xs)] w' := by
  obtain ⟨A, c, rfl, hc, hl⟩ := hv.val
  have HS := ((Own.start w).box [.slice A xs.length c] 34)
  go_enter Tryz.func57, Tryz.ntmps57
  go_wp2_with (refine wp_mkmap Sp rfl _ (by rfl) HS ?_; clear HS; intro w1 HS; have F := HS.facts; simp only [Own.Facts, Ds.map, Own.Cells, World.size_alloc, List.cons_append, List.nil_append, List.eraseIdx_cons_succ, List.eraseIdx_cons_zero, List.eraseIdx_zero, List.tail_cons, Nat.zero_add] at F; simp only [World.size_alloc] at HS)
  go_loopw [10] (fun i wr => ∃ (k : Nat) (g : List (Int × List Sp)), k ≤ xs.length ∧ i = .int .i64 k ∧ Own w [.map none (w.heap.size + 1) g, .box w.heap.size 34 [.slice A xs.length c]] wr ∧ cloud [] xs = cloud g (xs.drop k) ∧ ∀ key, (mget g key).length ≤ k) (fun i _ => xs.length - (intOf i).toNat)
  case atStart => exact ⟨0, [], by omega, rfl, HS, rfl, fun _ => by simp [mget]⟩
  case round =>
    obtain ⟨k, g, hk, rfl, HS', he, hg⟩ := hrel
    have HE := Lib.hid he
    have HG := Lib.hid hg
    clear he hg HS F
    by_cases hlt : k < xs.length
    · obtain ⟨b, o, rfl⟩ := hv.fix (by omega)
      have r0 := Rn.rd (HS'.old hv) k hlt
      have HD := Lib.hid (show xs.drop k = xs[k] :: xs.drop (k + 1) from List.drop_eq_getElem_cons hlt)
      obtain ⟨x, hx⟩ : ∃ x, xs[k] = x := ⟨_, rfl⟩
      rw [hx] at r0 HD
      clear hx
      have HB := (HS'.box (b := wr.heap.size) [.int .i64 x.r, .int .i64 x.f, .int .i64 x.t] 81).pick 1 rfl
      obtain ⟨v, hl, HT⟩ := run_look HB Tryz.underlying87 Tryz.underlying3 zeroSpans x.r
      have hl1 := hl false _ (Below.refl _ _).drew
      have hl2 := hl false _ ((Below.refl _ _).alloc (Nat.le_refl _) (.cells #[.int .i64 x.f, .int .i64 x.t] 116)).drew
      clear hl
      have HL : Own w (.own v (mget g x.r) :: .own (.slice (some ⟨wr.heap.size + 1, 0, none⟩) 1 1) [(⟨x.f, x.t⟩ : Sp)] :: .map (some x.r) (w.heap.size + 1) g :: [.box wr.heap.size 81 [.int .i64 x.r, .int .i64 x.f, .int .i64 x.t], .box w.heap.size 34 [.slice (some ⟨b, o, none⟩) xs.length c]])
          ((wr.alloc (.cells #[.int .i64 x.r, .int .i64 x.f, .int .i64 x.t] 81)).alloc (.cells #[.int .i64 x.f, .int .i64 x.t] 116)).drew := by
        have := ((HT.lit [(⟨x.f, x.t⟩ : Sp)] #[.int .i64 x.f, .int .i64 x.t] 116 rfl rfl (by simp)).drew).pick 1 rfl
        simp only [World.size_alloc] at this
        exact this
      have hgl := HG.out x.r
      have HS := HL
      have F := HS.facts; simp only [Own.Facts, Ds.map, Own.Cells, World.size_alloc, List.cons_append, List.nil_append, List.eraseIdx_cons_succ, List.eraseIdx_cons_zero, List.eraseIdx_zero, List.tail_cons, Nat.zero_add] at F
      go_wp2
      go_region_held3 (fun w' => w'.cell? ⟨wr.heap.size, 0, none⟩ = some (.int .i64 x.r) ∧ w'.cell? ⟨wr.heap.size, 1, none⟩ = some (.int .i64 x.f) ∧ w'.cell? ⟨wr.heap.size, 2, none⟩ = some (.int .i64 x.t)) (first | go_keep | (trace_state; fail)) (first | (refine hp_app (α := Sp) _ _ 114 rfl (by rfl) (by kernel_rfl) _ _ HL rfl _ _ rfl (HL.rd 1 rfl) (by show (_ + 1) * 16 ≤ _; omega) (by show _ + 1 ≤ _; omega) ?_; intro v3 w3 HS3; obtain ⟨w4, hput, HS4⟩ := run_put ((HS3.pick 1 rfl).drop) Tryz.underlying87 Tryz.underlying3; have HS := HS3; have F := HS.facts; simp only [Own.Facts, Ds.map, Own.Cells, World.size_alloc, List.cons_append, List.nil_append, List.eraseIdx_cons_succ, List.eraseIdx_cons_zero, List.eraseIdx_zero, List.tail_cons, Nat.zero_add] at F; have F3 := F; clear F; have HS := HS4; have F := HS.facts; simp only [Own.Facts, Ds.map, Own.Cells, World.size_alloc, List.cons_append, List.nil_append, List.eraseIdx_cons_succ, List.eraseIdx_cons_zero, List.eraseIdx_zero, List.tail_cons, Nat.zero_add] at F) | (trace_state; fail))
      all_goals
        clear F F3 hput hl1 hl2 HL
        have HS5 := (HS4.pick 1 rfl).drop
        go_wp2
        go_roundw
        case rel => exact ⟨k + 1, _, by omega, by go_num, HS5, by rw [HE.out, HD.out]; rfl, fun key => by have := HG.out key; rw [mget_mput]; split <;> simp <;> omega⟩
        case measure => simp [intOf]; omega
    · go_wp2
      go_ret
      obtain rfl : k = xs.length := by omega
      exact ⟨_, rfl, by rw [HE.out, List.drop_length]; exact (HS'.pick 1 rfl).drop⟩
end Go.Proofs.YtkafflbakgkpcaaGreat
