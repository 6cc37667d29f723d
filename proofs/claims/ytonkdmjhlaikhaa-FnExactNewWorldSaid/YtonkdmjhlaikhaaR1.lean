/- NewReplica: states without leaves and runs. -/
import Derived.Test.YtonkdmjhlaikhaaC3
import Derived.Test.YtonkdmjhlaikhaaC5
import Derived.Test.YtonkdmjhlaikhaaCv
import Derived.Outline
namespace Go.Proofs.Ytonkdmjhlaikhaa
set_option linter.unusedSimpArgs false
set_option linter.unusedVariables false
open Go.RowKit Go.Ow
attribute [local irreducible] wpQuiet
set_option maxRecDepth 100000
theorem rd0 {α : Type} [Cd α] (w : World) (A : Option Addr) : Rd w (.slice A 0 0) ([] : List α) := rd_none (by decide) (fun _ => rfl)
theorem eqLeafS0 (A B : Option Addr) (w : World) : Calls Try.prog 69 #[.slice A 0 0, .slice B 0 0] w fun e w' => e = .returned (.bool true) ∧ Below w.heap.size w w' := by
  have HS := Own.start w
  go_enter Try.func69, Try.ntmps69
  go_wp2
  go_loopw [5] (fun i wr => i = .int .i64 0 ∧ Own w [] wr) (fun _ _ => 0)
  case atStart => exact ⟨rfl, HS⟩
  case round =>
    obtain ⟨rfl, HS'⟩ := hrel
    go_wp2
    go_ret
    exact ⟨rfl, HS'.below⟩
theorem markLeafS0 (A : Option Addr) (k : Nat) (w : World) (hk : k ≤ 1000) : Calls Try.prog 94 #[.slice A 0 0, .int .i64 k] w fun e w' => e = .returned (.int .i64 k) ∧ Below w.heap.size w w' := by
  have HS := Own.start w
  go_enter Try.func94, Try.ntmps94
  go_wp2
  go_loopw [1, 5] (fun kk i wr => kk = .int .i64 k ∧ i = .int .i64 0 ∧ Own w [] wr) (fun _ _ _ => 0)
  case atStart => exact ⟨rfl, rfl, HS⟩
  case round =>
    obtain ⟨rfl, rfl, HS'⟩ := hrel
    go_wp2
    go_ret
    exact ⟨rfl, HS'.below⟩
theorem heldLeafS0 (A : Option Addr) (k : Nat) (w : World) (hk : k ≤ 1000) : Calls Try.prog 95 #[.slice A 0 0, .int .i64 k] w fun e w' => e = .returned (.int .i64 k) ∧ Below w.heap.size w w' := by
  have HS := Own.start w
  go_enter Try.func95, Try.ntmps95
  go_wp2
  go_loopw [1, 5] (fun kk i wr => kk = .int .i64 k ∧ i = .int .i64 0 ∧ Own w [] wr) (fun _ _ _ => 0)
  case atStart => exact ⟨rfl, rfl, HS⟩
  case round =>
    obtain ⟨rfl, rfl, HS'⟩ := hrel
    go_wp2
    go_ret
    exact ⟨rfl, HS'.below⟩
theorem eqState0 (A B C D : Option Addr) (w : World) : Calls Try.prog 32 #[.agg #[.slice A 0 0, .slice B 0 0], .agg #[.slice C 0 0, .slice D 0 0]] w fun e w' => e = .returned (.bool true) ∧ Below w.heap.size w w' := by
  have HS := ((Own.start w).box [.slice A 0 0, .slice B 0 0] 46).box (b := w.heap.size + 1) [.slice C 0 0, .slice D 0 0] 46
  have hd : decide (([] : List Rn) = []) = true := by simp
  go_enter Try.func32, Try.ntmps32
  go_wp2_with fail
  refine (eqLeafS0 _ _ _).mono ?_; rintro e w1 ⟨rfl, hb⟩; (first | have H' := HS.of_below hb | have H' := HS.drew.of_below hb | have H' := (HS.box0 [_] _).of_below hb | have H' := ((HS.box0 [_] _).box0 [_] _).of_below hb | have H' := (HS.alloc _).of_below hb | have H' := ((HS.alloc _).alloc _).of_below hb); clear HS; have HS := H'; clear H'; have F := HS.facts; simp only [Own.Facts, Own.Cells, World.size_alloc, List.cons_append, List.nil_append, List.eraseIdx_cons_succ, List.eraseIdx_cons_zero, List.eraseIdx_zero, List.tail_cons, Nat.zero_add] at F
  go_wp2_with fail
  refine (eqContext [] [] _ _ _ (rd0 _ _) (rd0 _ _)).mono ?_; rintro e w2 ⟨rfl, hb⟩; (first | have H' := HS.of_below hb | have H' := HS.drew.of_below hb | have H' := (HS.box0 [_] _).of_below hb | have H' := ((HS.box0 [_] _).box0 [_] _).of_below hb | have H' := (HS.alloc _).of_below hb | have H' := ((HS.alloc _).alloc _).of_below hb); clear HS; have HS := H'; clear H'; have F := HS.facts; simp only [Own.Facts, Own.Cells, World.size_alloc, List.cons_append, List.nil_append, List.eraseIdx_cons_succ, List.eraseIdx_cons_zero, List.eraseIdx_zero, List.tail_cons, Nat.zero_add] at F
  go_wp2
  go_ret
  exact ⟨rfl, HS.below⟩
theorem markState0 (A : Option Addr) (k : Nat) (w : World) (hk : k ≤ 1000) : Calls Try.prog 61 #[.agg #[.slice A 0 0, .slice none 0 0], .int .i64 k] w fun e w' => e = .returned (.int .i64 k) ∧ Below w.heap.size w w' := by
  have HS := (Own.start w).box [.slice A 0 0, .slice none 0 0] 46
  go_enter Try.func61, Try.ntmps61
  go_wp2_with fail
  refine (markLeafS0 _ k _ hk).mono ?_; rintro e w1 ⟨rfl, hb⟩; (first | have H' := HS.of_below hb | have H' := HS.drew.of_below hb | have H' := (HS.box0 [_] _).of_below hb | have H' := ((HS.box0 [_] _).box0 [_] _).of_below hb | have H' := (HS.alloc _).of_below hb | have H' := ((HS.alloc _).alloc _).of_below hb); clear HS; have HS := H'; clear H'; have F := HS.facts; simp only [Own.Facts, Own.Cells, World.size_alloc, List.cons_append, List.nil_append, List.eraseIdx_cons_succ, List.eraseIdx_cons_zero, List.eraseIdx_zero, List.tail_cons, Nat.zero_add] at F
  go_wp2_with fail
  refine (markContext ([] : List Rn) _ k _ (HS.nil) (by omega)).mono ?_
  rintro e w2 ⟨rfl, H2⟩
  go_wp2
  go_ret
  exact ⟨rfl, H2.below⟩
theorem heldState0 (A : Option Addr) (k : Nat) (w : World) (hk : k ≤ 1000) : Calls Try.prog 62 #[.agg #[.slice A 0 0, .slice none 0 0], .int .i64 k] w fun e w' => e = .returned (.int .i64 k) ∧ Below w.heap.size w w' := by
  have HS := (Own.start w).box [.slice A 0 0, .slice none 0 0] 46
  go_enter Try.func62, Try.ntmps62
  go_wp2_with fail
  refine (heldLeafS0 _ k _ hk).mono ?_; rintro e w1 ⟨rfl, hb⟩; (first | have H' := HS.of_below hb | have H' := HS.drew.of_below hb | have H' := (HS.box0 [_] _).of_below hb | have H' := ((HS.box0 [_] _).box0 [_] _).of_below hb | have H' := (HS.alloc _).of_below hb | have H' := ((HS.alloc _).alloc _).of_below hb); clear HS; have HS := H'; clear H'; have F := HS.facts; simp only [Own.Facts, Own.Cells, World.size_alloc, List.cons_append, List.nil_append, List.eraseIdx_cons_succ, List.eraseIdx_cons_zero, List.eraseIdx_zero, List.tail_cons, Nat.zero_add] at F
  go_wp2_with fail
  refine (heldContext ([] : List Rn) _ k _ (HS.nil) (by omega) (by simp)).mono ?_; rintro e w2 ⟨rfl, hb⟩; (first | have H' := HS.of_below hb | have H' := HS.drew.of_below hb | have H' := (HS.box0 [_] _).of_below hb | have H' := ((HS.box0 [_] _).box0 [_] _).of_below hb | have H' := (HS.alloc _).of_below hb | have H' := ((HS.alloc _).alloc _).of_below hb); clear HS; have HS := H'; clear H'; have F := HS.facts; simp only [Own.Facts, Own.Cells, World.size_alloc, List.cons_append, List.nil_append, List.eraseIdx_cons_succ, List.eraseIdx_cons_zero, List.eraseIdx_zero, List.tail_cons, Nat.zero_add] at F
  go_wp2
  go_ret
  exact ⟨rfl, HS.below⟩
/-- A replica without leaves and runs. -/
abbrev rep0 (id : Int) (A B C D : Option Addr) : Value := .agg #[.int .i64 id, .slice A 0 0, .slice B 0 0, .slice C 0 0, .slice D 0 0]
theorem eqReplica0 (id : Int) (A B C D A' B' C' D' : Option Addr) (w : World) : Calls Try.prog 25 #[rep0 id A B C D, rep0 id A' B' C' D'] w fun e w' => e = .returned (.bool true) ∧ Below w.heap.size w w' := by
  have HS := ((Own.start w).box [.int .i64 id, .slice A 0 0, .slice B 0 0, .slice C 0 0, .slice D 0 0] 48).box (b := w.heap.size + 1) [.int .i64 id, .slice A' 0 0, .slice B' 0 0, .slice C' 0 0, .slice D' 0 0] 48
  go_enter Try.func25, Try.ntmps25
  go_wp2_with fail
  refine (eqState0 _ _ _ _ _).mono ?_; rintro e w1 ⟨rfl, hb⟩; (first | have H' := HS.of_below hb | have H' := HS.drew.of_below hb | have H' := (HS.box0 [_] _).of_below hb | have H' := ((HS.box0 [_] _).box0 [_] _).of_below hb | have H' := (HS.alloc _).of_below hb | have H' := ((HS.alloc _).alloc _).of_below hb); clear HS; have HS := H'; clear H'; have F := HS.facts; simp only [Own.Facts, Own.Cells, World.size_alloc, List.cons_append, List.nil_append, List.eraseIdx_cons_succ, List.eraseIdx_cons_zero, List.eraseIdx_zero, List.tail_cons, Nat.zero_add] at F
  go_wp2_with fail
  refine (eqState0 _ _ _ _ _).mono ?_; rintro e w2 ⟨rfl, hb⟩; (first | have H' := HS.of_below hb | have H' := HS.drew.of_below hb | have H' := (HS.box0 [_] _).of_below hb | have H' := ((HS.box0 [_] _).box0 [_] _).of_below hb | have H' := (HS.alloc _).of_below hb | have H' := ((HS.alloc _).alloc _).of_below hb); clear HS; have HS := H'; clear H'; have F := HS.facts; simp only [Own.Facts, Own.Cells, World.size_alloc, List.cons_append, List.nil_append, List.eraseIdx_cons_succ, List.eraseIdx_cons_zero, List.eraseIdx_zero, List.tail_cons, Nat.zero_add] at F
  go_wp2
  go_ret
  exact ⟨rfl, HS.below⟩
theorem markReplica0 (id : Int) (w : World) : Calls Try.prog 26 #[rep0 id none none none none, .int .i64 1] w fun e w' => e = .returned (.int .i64 1) ∧ Below w.heap.size w w' := by
  have HS := (Own.start w).box [.int .i64 id, .slice none 0 0, .slice none 0 0, .slice none 0 0, .slice none 0 0] 48
  go_enter Try.func26, Try.ntmps26
  go_wp2_with fail
  refine (markState0 _ 1 _ (by omega)).mono ?_; rintro e w1 ⟨rfl, hb⟩; (first | have H' := HS.of_below hb | have H' := HS.drew.of_below hb | have H' := (HS.box0 [_] _).of_below hb | have H' := ((HS.box0 [_] _).box0 [_] _).of_below hb | have H' := (HS.alloc _).of_below hb | have H' := ((HS.alloc _).alloc _).of_below hb); clear HS; have HS := H'; clear H'; have F := HS.facts; simp only [Own.Facts, Own.Cells, World.size_alloc, List.cons_append, List.nil_append, List.eraseIdx_cons_succ, List.eraseIdx_cons_zero, List.eraseIdx_zero, List.tail_cons, Nat.zero_add] at F
  go_wp2_with fail
  refine (markState0 _ 1 _ (by omega)).mono ?_; rintro e w2 ⟨rfl, hb⟩; (first | have H' := HS.of_below hb | have H' := HS.drew.of_below hb | have H' := (HS.box0 [_] _).of_below hb | have H' := ((HS.box0 [_] _).box0 [_] _).of_below hb | have H' := (HS.alloc _).of_below hb | have H' := ((HS.alloc _).alloc _).of_below hb); clear HS; have HS := H'; clear H'; have F := HS.facts; simp only [Own.Facts, Own.Cells, World.size_alloc, List.cons_append, List.nil_append, List.eraseIdx_cons_succ, List.eraseIdx_cons_zero, List.eraseIdx_zero, List.tail_cons, Nat.zero_add] at F
  go_wp2
  go_ret
  exact ⟨rfl, HS.below⟩
theorem heldReplica0 (id : Int) (w : World) : Calls Try.prog 27 #[rep0 id none none none none, .int .i64 1] w fun e w' => e = .returned (.int .i64 1) ∧ Below w.heap.size w w' := by
  have HS := (Own.start w).box [.int .i64 id, .slice none 0 0, .slice none 0 0, .slice none 0 0, .slice none 0 0] 48
  go_enter Try.func27, Try.ntmps27
  go_wp2_with fail
  refine (heldState0 _ 1 _ (by omega)).mono ?_; rintro e w1 ⟨rfl, hb⟩; (first | have H' := HS.of_below hb | have H' := HS.drew.of_below hb | have H' := (HS.box0 [_] _).of_below hb | have H' := ((HS.box0 [_] _).box0 [_] _).of_below hb | have H' := (HS.alloc _).of_below hb | have H' := ((HS.alloc _).alloc _).of_below hb); clear HS; have HS := H'; clear H'; have F := HS.facts; simp only [Own.Facts, Own.Cells, World.size_alloc, List.cons_append, List.nil_append, List.eraseIdx_cons_succ, List.eraseIdx_cons_zero, List.eraseIdx_zero, List.tail_cons, Nat.zero_add] at F
  go_wp2_with fail
  refine (heldState0 _ 1 _ (by omega)).mono ?_; rintro e w2 ⟨rfl, hb⟩; (first | have H' := HS.of_below hb | have H' := HS.drew.of_below hb | have H' := (HS.box0 [_] _).of_below hb | have H' := ((HS.box0 [_] _).box0 [_] _).of_below hb | have H' := (HS.alloc _).of_below hb | have H' := ((HS.alloc _).alloc _).of_below hb); clear HS; have HS := H'; clear H'; have F := HS.facts; simp only [Own.Facts, Own.Cells, World.size_alloc, List.cons_append, List.nil_append, List.eraseIdx_cons_succ, List.eraseIdx_cons_zero, List.eraseIdx_zero, List.tail_cons, Nat.zero_add] at F
  go_wp2
  go_ret
  exact ⟨rfl, HS.below⟩
def idOk (id : Int) : Bool := decide (0 ≤ id) && decide (id < 8)
def idOf (id : Int) : Int := if idOk id then id else 0
theorem implNewReplica (id : Int) (w : World) : Calls Try.prog 24 #[.int .i64 id] w fun e w' => e = .returned (.tuple #[rep0 (idOf id) none none none none, .bool (idOk id)]) ∧ Below w.heap.size w w' := by
  have HS := (Own.start w).box [.int .i64 0, .slice none 0 0, .slice none 0 0, .slice none 0 0, .slice none 0 0] 48
  have F := HS.facts
  simp only [Own.Facts, Own.Cells, Nat.zero_add] at F
  by_cases h : 0 ≤ id ∧ id < 8
  · have HI := Lib.hid (show idOk id = true by unfold idOk; simp; exact h)
    have HJ := Lib.hid (show idOf id = id by unfold idOf; rw [HI.out, if_pos rfl])
    obtain ⟨h1, h2⟩ := h
    have H2 := (Own.start w).box [.int .i64 id, .slice none 0 0, .slice none 0 0, .slice none 0 0, .slice none 0 0] 48
    have F2 := H2.facts
    simp only [Own.Facts, Own.Cells, Nat.zero_add] at F2
    go_enter Try.func24, Try.ntmps24
    go_wp2
    rw [HI.out, HJ.out]
    exact bodyPost_ret (v := .tuple #[rep0 id none none none none, .bool true]) (by simp [results, Try.results24, go_sem, *]) rfl ⟨rfl, H2.below⟩
  · have HI := Lib.hid (show idOk id = false by unfold idOk; simp; omega)
    have HJ := Lib.hid (show idOf id = 0 by unfold idOf; rw [HI.out]; rfl)
    rcases (show id < 0 ∨ (0 ≤ id ∧ 8 ≤ id) by omega) with h | ⟨h, h'⟩
    all_goals
      go_enter Try.func24, Try.ntmps24
      go_wp2
      rw [HI.out, HJ.out]
      exact bodyPost_ret (v := .tuple #[rep0 0 none none none none, .bool false]) (by simp [results, Try.results24, go_sem, *]) rfl ⟨rfl, HS.below⟩
theorem l6Empty (w : World) : Calls Try.prog 60 #[] w fun e w' => ∃ A B : Option Addr, e = .returned (.agg #[.slice A 0 0, .slice B 0 0]) ∧ Below w.heap.size w w' := by
  have HS := (((Own.start w).box0 [.slice (some ⟨w.heap.size + 1, 0, none⟩) 0 0, .slice (some ⟨w.heap.size + 1 + 1, 0, none⟩) 0 0] 46).alloc (.cells #[] 101)).alloc (.cells #[] 90)
  have F := HS.facts
  simp only [Own.Facts, Own.Cells, Nat.zero_add] at F
  go_enter Try.func60, Try.ntmps60
  go_wp2
  exact bodyPost_ret (v := .agg #[.slice (some ⟨w.heap.size + 1, 0, none⟩) 0 0, .slice (some ⟨w.heap.size + 1 + 1, 0, none⟩) 0 0]) (by simp [results, Try.results60, go_sem, *]) rfl ⟨_, _, rfl, HS.below⟩
theorem specNewReplica (id : Int) (w : World) : Calls Try.prog 23 #[.int .i64 id] w fun e w' => ∃ A B C D : Option Addr, e = .returned (.tuple #[rep0 (idOf id) A B C D, .bool (idOk id)]) ∧ Below w.heap.size w w' := by
  have HS := (Own.start w).box [.int .i64 0, .slice none 0 0, .slice none 0 0, .slice none 0 0, .slice none 0 0] 48
  have F := HS.facts
  simp only [Own.Facts, Own.Cells, Nat.zero_add] at F
  by_cases h : 0 ≤ id ∧ id < 8
  · have HI := Lib.hid (show idOk id = true by unfold idOk; simp; exact h)
    have HJ := Lib.hid (show idOf id = id by unfold idOf; rw [HI.out, if_pos rfl])
    obtain ⟨h1, h2⟩ := h
    go_enter Try.func23, Try.ntmps23
    go_wp2_with fail
    refine (l6Empty _).mono ?_
    rintro e w1 ⟨A, B, rfl, hb1⟩
    have H1 := HS.of_below hb1
    go_wp2_with fail
    refine (l6Empty _).mono ?_
    rintro e w2 ⟨C, D, rfl, hb2⟩
    have H2 := H1.of_below hb2
    clear H1 F HS
    have F2 := H2.facts
    simp only [Own.Facts, Own.Cells, Nat.zero_add] at F2
    have H3 := ((((H2.set 0 (.int .i64 id)).set 1 (.slice A 0 0)).set 2 (.slice B 0 0)).set 3 (.slice C 0 0)).set 4 (.slice D 0 0)
    have F3 := H3.facts
    simp only [Own.Facts, Own.Cells, List.set_cons_zero, List.set_cons_succ, Nat.zero_add] at F3
    go_wp2
    rw [HI.out, HJ.out]
    exact bodyPost_ret (v := .tuple #[rep0 id A B C D, .bool true]) (by simp [results, Try.results23, go_sem, *]) rfl ⟨A, B, C, D, rfl, H3.below⟩
  · have HI := Lib.hid (show idOk id = false by unfold idOk; simp; omega)
    have HJ := Lib.hid (show idOf id = 0 by unfold idOf; rw [HI.out]; rfl)
    rcases (show id < 0 ∨ (0 ≤ id ∧ 8 ≤ id) by omega) with h | ⟨h, h'⟩
    all_goals
      go_enter Try.func23, Try.ntmps23
      go_wp2
      rw [HI.out, HJ.out]
      exact bodyPost_ret (v := .tuple #[rep0 0 none none none none, .bool false]) (by simp [results, Try.results23, go_sem, *]) rfl ⟨none, none, none, none, rfl, HS.below⟩
end Go.Proofs.Ytonkdmjhlaikhaa
