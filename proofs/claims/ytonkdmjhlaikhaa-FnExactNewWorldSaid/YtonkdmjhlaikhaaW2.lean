/- NewWorld: the program's side. -/
import Derived.Test.YtonkdmjhlaikhaaW1
namespace Go.Proofs.Ytonkdmjhlaikhaa
set_option linter.unusedSimpArgs false
set_option linter.unusedVariables false
open Go.RowKit Go.Ow
attribute [local irreducible] wpQuiet
set_option maxRecDepth 100000
set_option maxHeartbeats 4000000 in
theorem implNewWorld (n : Int) (w : World) : Calls Try.prog 34 #[.int .i64 n] w (WldPost w n) := by
  have HS := ((((Own.start w).nil (α := Pz)).nil (α := Rz)).box (b := w.heap.size) [.slice none 0 0, .slice none 0 0] 65)
  have F := HS.facts
  simp only [Own.Facts, Own.Cells, List.set_cons_zero, List.set_cons_succ, List.cons_append, List.nil_append, List.eraseIdx_cons_succ, List.eraseIdx_cons_zero, Nat.zero_add] at F
  by_cases h : 1 ≤ n ∧ n ≤ 8
  · obtain ⟨N, rfl⟩ : ∃ N : Nat, n = N := ⟨n.toNat, by omega⟩
    have HI := Lib.hid (show wldOk (N : Int) = true by unfold wldOk; simp; omega)
    have HJ := Lib.hid (show wldN (N : Int) = N by unfold wldN; rw [HI.out]; simp)
    obtain ⟨h1, h2⟩ := h
    have HB := (((HS.pick 2 rfl).pick 2 rfl).box (b := w.heap.size + 1) [.slice none 0 0, .slice none 0 0] 65)
    go_enter Try.func34, Try.ntmps34
    go_wp2
    go_loopw [16] (fun x wr => ∃ (a : Nat) (v1 v2 : Value) (rs : List Rz) (ps : List Pz), x = .int .i64 a ∧ a ≤ N ∧ Hid (rs.map (·.i) = idsU a) ∧ Hid (ps.map Pz.key = keysU N a) ∧ rs.length ≤ a ∧ ps.length ≤ 8 * a ∧ Own w [.box (w.heap.size + 1) 65 [v1, v2], .own v1 rs, .own v2 ps, .box w.heap.size 65 [.slice none 0 0, .slice none 0 0]] wr) (fun x _ => 9 - (intOf x).toNat)
    case atStart => exact ⟨0, _, _, [], [], rfl, by omega, Lib.hid rfl, Lib.hid rfl, by simp, by simp, HB⟩
    case round =>
      obtain ⟨a, v1, v2, rs, ps, rfl, ha, hrs, hps, hrl, hpl, H1⟩ := hrel
      clear HS HB F
      by_cases hlt : a < N
      · have HL := (H1.lit [(⟨a, ⟨none⟩, ⟨none⟩, ⟨none⟩, ⟨none⟩⟩ : Rz)] #[.int .i64 a, .slice none 0 0, .slice none 0 0, .slice none 0 0, .slice none 0 0] 48 rfl rfl (by simp)).pick 2 rfl
        have F := H1.facts
        simp only [Own.Facts, Own.Cells, List.set_cons_zero, List.set_cons_succ, List.cons_append, List.nil_append, List.eraseIdx_cons_succ, List.eraseIdx_cons_zero, Nat.zero_add] at F
        clear H1
        go_wp2_with (refine wp_app2 (α := Rz) rfl _ _ 62 rfl (by kernel_rfl) _ _ HL rfl _ _ rfl (HL.rd 1 rfl) (by show (_ + 1) * 104 ≤ _; omega) (by show _ + 1 ≤ _; omega) ?_; clear HL F; intro v5 q5 w5 hq5 hl5 H5; obtain ⟨A5, c5, rfl, _, _⟩ := (H5.rd 0 rfl).val; have F := H5.facts; simp only [Own.Facts, Own.Cells, List.set_cons_zero, List.set_cons_succ, List.cons_append, List.nil_append, List.eraseIdx_cons_succ, List.eraseIdx_cons_zero, Nat.zero_add] at F)
        have H6 := ((H5.pick 1 rfl).drop.pick 1 rfl).set 0 (.slice A5 q5.length c5)
        replace hl5 : q5.length ≤ rs.length + 1 := hl5
        have HQ := Lib.hid hl5
        have HQ5 := Lib.hid (show q5.map (·.i) = idsU (a + 1) by rw [hq5.out, List.map_append, hrs.out, idsU_succ]; rfl)
        clear hl5 F H5
        go_loopw [27] (fun x wr => ∃ (b : Nat) (v2 : Value) (ps : List Pz), x = .int .i64 b ∧ b ≤ N ∧ Hid (ps.map Pz.key = keysU N a ++ rowU a b) ∧ ps.length ≤ 8 * a + b ∧ Own w [.box (w.heap.size + 1) 65 [.slice A5 q5.length c5, v2], .own (.slice A5 q5.length c5) q5, .own v2 ps, .box w.heap.size 65 [.slice none 0 0, .slice none 0 0]] wr) (fun x _ => 9 - (intOf x).toNat)
        case atStart => exact ⟨0, _, ps, rfl, by omega, Lib.hid (by rw [hps.out]; simp [rowU]), by omega, H6⟩
        case round =>
          obtain ⟨b, v2, ps, rfl, hb, hps2, hpl2, H1⟩ := hrel
          clear H6
          by_cases hlt2 : b < N
          · by_cases hab : b = a
            · have hd : ((a : Int) != (b : Int)) = false := by simp; omega
              have HP := Lib.hid (show ps.map Pz.key = keysU N a ++ rowU a (b + 1) by rw [hps2.out, rowU_succ, if_pos hab, List.append_nil])
              clear hab
              go_wp2
              go_roundw
              case rel => exact ⟨b + 1, _, ps, by go_num, by omega, HP, by omega, H1⟩
              case measure => simp [intOf]; omega
            · have hd : ((a : Int) != (b : Int)) = true := by simp; omega
              have HP := Lib.hid (show rowU a (b + 1) = rowU a b ++ [((a : Int), (b : Int), 0, 0)] by rw [rowU_succ, if_neg hab])
              clear hab
              have HL := (H1.lit [(⟨a, b, ⟨none⟩, ⟨none⟩, 0, 0⟩ : Pz)] #[.int .i64 a, .int .i64 b, .slice none 0 0, .slice none 0 0, .int .i64 0, .int .i64 0] 113 rfl rfl (by simp)).pick 3 rfl
              have F := H1.facts
              simp only [Own.Facts, Own.Cells, List.set_cons_zero, List.set_cons_succ, List.cons_append, List.nil_append, List.eraseIdx_cons_succ, List.eraseIdx_cons_zero, Nat.zero_add] at F
              clear H1
              go_wp2_with (refine wp_app2 (α := Pz) rfl _ _ 63 rfl (by kernel_rfl) _ _ HL rfl _ _ rfl (HL.rd 1 rfl) (by show (_ + 1) * 80 ≤ _; omega) (by show _ + 1 ≤ _; omega) ?_; clear HL F; intro v7 q7 w7 hq7 hl7 H7; obtain ⟨A7, c7, rfl, _, _⟩ := (H7.rd 0 rfl).val; have F := H7.facts; simp only [Own.Facts, Own.Cells, List.set_cons_zero, List.set_cons_succ, List.cons_append, List.nil_append, List.eraseIdx_cons_succ, List.eraseIdx_cons_zero, Nat.zero_add] at F)
              have H8 := (((H7.pick 1 rfl).drop.pick 1 rfl).set 1 (.slice A7 q7.length c7))
              have H9 := (H8.pick 2 rfl).pick 1 rfl
              replace hl7 : q7.length ≤ ps.length + 1 := hl7
              have HQ7 := Lib.hid hl7
              clear hl7 F H7
              go_roundw
              case rel => exact ⟨b + 1, _, q7, by go_num, by omega, Lib.hid (by rw [hq7.out, List.map_append, hps2.out, HP.out, List.append_assoc]; rfl), by have := HQ7.out; omega, H9⟩
              case measure => simp [intOf]; omega
          · obtain rfl : b = N := by omega
            go_wp2
            go_roundw
            case rel => exact ⟨a + 1, _, _, q5, ps, by go_num, by omega, HQ5, Lib.hid (by rw [hps2.out, keysU_succ]), by have := HQ.out; omega, by omega, H1⟩
            case measure => simp [intOf]; omega
      · obtain rfl : a = N := by omega
        obtain ⟨A1, c1, rfl, _, _⟩ := (H1.rd 1 rfl).val
        obtain ⟨A2, c2, rfl, _, _⟩ := (H1.rd 2 rfl).val
        have F := H1.facts
        simp only [Own.Facts, Own.Cells, List.set_cons_zero, List.set_cons_succ, List.cons_append, List.nil_append, List.eraseIdx_cons_succ, List.eraseIdx_cons_zero, Nat.zero_add] at F
        have H3 := ((H1.pick 3 rfl).set 0 (.slice A1 rs.length c1)).set 1 (.slice A2 ps.length c2)
        have F3 := H3.facts
        simp only [Own.Facts, Own.Cells, List.set_cons_zero, List.set_cons_succ, List.cons_append, List.nil_append, List.eraseIdx_cons_succ, List.eraseIdx_cons_zero, Nat.zero_add] at F3
        go_wp2
        exact bodyPost_ret (v := .tuple #[.agg #[.slice A1 rs.length c1, .slice A2 ps.length c2], .bool true]) (by simp [results, Try.results34, go_sem, *]) rfl ⟨_, _, rs, ps, by rw [HI.out], by rw [HJ.out]; exact hrs.out, by rw [HJ.out]; exact hps.out, H3.drop.drop⟩
  · have HI := Lib.hid (show wldOk n = false by unfold wldOk; simp; omega)
    have HJ := Lib.hid (show wldN n = 0 by unfold wldN; rw [HI.out]; rfl)
    rcases (show n < 1 ∨ (1 ≤ n ∧ 8 < n) by omega) with h | ⟨h, h'⟩
    all_goals
      go_enter Try.func34, Try.ntmps34
      go_wp2
      exact bodyPost_ret (v := .tuple #[.agg #[.slice none 0 0, .slice none 0 0], .bool false]) (by simp [results, Try.results34, go_sem, *]) rfl ⟨_, _, [], [], by rw [HI.out], by rw [HJ.out]; rfl, by rw [HJ.out]; rfl, (HS.drop)⟩
end Go.Proofs.Ytonkdmjhlaikhaa
