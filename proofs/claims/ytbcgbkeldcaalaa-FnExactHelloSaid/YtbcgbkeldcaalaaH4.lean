/- States handed in: leaves and states made anew. -/
import Derived.Test.YtbcgbkeldcaalaaH3
import Derived.Test.YtbcgbkeldcaalaaL1
namespace Go.Proofs.Ytbcgbkeldcaalaa
set_option linter.unusedSimpArgs false
set_option linter.unusedVariables false
open Go.RowKit Go.Ow
attribute [local irreducible] wpQuiet
set_option maxRecDepth 100000
instance : ElZ Try.prog ByteArray := { bytes := 16, info := El.of (by kernel_rfl), zero := ByteArray.empty, infoz := ElZ.of (by kernel_rfl) }
theorem Sg.put {W w : World} {R : List Ds} {g n cap : Nat} {xs : List ByteArray} (h : Own W (.own (.slice (some ⟨g, 0, none⟩) n cap) xs :: R) w) (i : Nat) (hi : i < xs.length) (x : ByteArray) : Own W (.own (.slice (some ⟨g, 0, none⟩) n cap) (xs.set i x) :: R) (w.setCell ⟨g, i, none⟩ (.string x)) := by
  have := h.put i hi 0 (by decide) (.string x) x rfl
  have e : i * Cd.z ByteArray + 0 = i := by show i * 1 + 0 = i; omega
  rw [e] at this
  exact this
theorem Sg.row {W w : World} {R : List Ds} {g n cap : Nat} {xs : List ByteArray} (h : Own W (.own (.slice (some ⟨g, 0, none⟩) n cap) xs :: R) w) (i : Nat) (hi : i < xs.length) : w.cell? ⟨g, i, none⟩ = some (.string xs[i]) ∧ ∀ j, w.frozen? ⟨g, j, none⟩ = false := by
  have := h.rowc.1 i hi 0 (by decide)
  have e : i * Cd.z ByteArray + 0 = i := by show i * 1 + 0 = i; omega
  rw [e] at this
  exact ⟨this, h.rowc.2⟩
theorem toStringS (xs : List ByteArray) (v : Value) (w : World) (hv : Rd w v xs) (hn : xs.length ≤ 1048576) : Calls Try.prog 32 #[v] w fun e w' => ∃ v', e = .returned v' ∧ Own w [.own v' xs] w' := by
  obtain ⟨A, c, rfl, hc, hl⟩ := hv.val
  have HS := Own.start w
  go_enter Try.func32, Try.ntmps32
  go_wp2_with (refine wp_make (α := ByteArray) rfl _ _ 60 rfl (by kernel_rfl) HS _ _ _ _ xs.length rfl rfl rfl rfl (by show 16 * _ ≤ _; omega) hl ?_; clear HS; intro w1 HS)
  go_loopw [4] (fun i wr => ∃ k : Nat, k ≤ xs.length ∧ i = .int .i64 k ∧ Own w [.own (.slice (some ⟨w.heap.size, 0, none⟩) xs.length xs.length) (xs.take k ++ List.replicate (xs.length - k) ByteArray.empty)] wr) (fun i _ => xs.length - (intOf i).toNat)
  case atStart => exact ⟨0, by omega, rfl, by simpa using (show Own w [.own _ (List.replicate xs.length ByteArray.empty)] w1 from HS)⟩
  case round =>
    obtain ⟨k, hk, rfl, HS'⟩ := hrel
    by_cases hlt : k < xs.length
    · obtain ⟨b, o, rfl⟩ := hv.fix (by omega)
      have r0 := Sg.rd (HS'.old hv) k hlt
      have hl2 : (xs.take k ++ List.replicate (xs.length - k) ByteArray.empty).length = xs.length := by simp; omega
      have hr := Sg.row HS' k (by omega)
      go_wp2
      go_roundw
      case rel => exact ⟨k + 1, by omega, by go_num, by rw [← fill_set xs ByteArray.empty k hlt]; exact Sg.put HS' k (by omega) xs[k]⟩
      case measure => simp [intOf]; omega
    · go_wp2
      go_ret
      obtain rfl : k = xs.length := by omega
      exact ⟨_, rfl, by simpa using HS'⟩
theorem toLeaf (x : Lf) (vp : Value) (w : World) (hv : Rd w vp x.p) (hn : x.p.length ≤ 1048576) :
    Calls Try.prog 75 #[.agg #[vp, .bool x.fl, .int .i64 x.dr, .int .i64 x.ds, .string x.v]] w fun e w' => ∃ v', e = .returned (.agg #[v', .bool x.fl, .int .i64 x.dr, .int .i64 x.ds, .string x.v]) ∧ Own w [.own v' x.p] w' := by
  obtain ⟨A, c, rfl, hc, hl⟩ := hv.val
  have HS := (((Own.start w).box [.slice A x.p.length c, .bool x.fl, .int .i64 x.dr, .int .i64 x.ds, .string x.v] 107).box (b := w.heap.size + 1) [.slice none 0 0, .bool false, .int .i64 0, .int .i64 0, .string ByteArray.empty] 91).box (b := w.heap.size + 1 + 1) [.slice none 0 0, .bool false, .int .i64 0, .int .i64 0, .string ByteArray.empty] 91
  go_enter Try.func75, Try.ntmps75
  go_wp2_with fail
  refine (toStringS _ _ _ (by repeat (first | exact HS.old hv | exact HS.rd 0 rfl | exact HS.rd 1 rfl | exact HS.rd 2 rfl | exact HS.rd 3 rfl | exact HS.rd 4 rfl | exact HS.rd 5 rfl | exact HS.drew.old hv | exact HS.drew.rd 0 rfl | exact HS.drew.rd 1 rfl | exact HS.drew.rd 2 rfl | exact HS.drew.rd 3 rfl | exact HS.drew.rd 4 rfl | exact HS.drew.rd 5 rfl | refine Rd.alloc ?_ _)) hn).mono ?_; rintro e w1 ⟨v', rfl, hs⟩; obtain ⟨A', c', rfl, _, _⟩ := (hs.rd 0 rfl).val; (first | have H' := HS.call1 hs | have H' := HS.drew.call1 hs | have H' := (HS.box0 [_] _).call1 hs | have H' := ((HS.box0 [_] _).box0 [_] _).call1 hs | have H' := (HS.alloc _).call1 hs | have H' := ((HS.alloc _).alloc _).call1 hs); clear HS; have HS := H'; clear H'; have F := HS.facts; simp only [Own.Facts, Own.Cells, World.size_alloc, List.cons_append, List.nil_append, List.eraseIdx_cons_succ, List.eraseIdx_cons_zero, List.eraseIdx_zero, List.tail_cons, Nat.zero_add] at F
  replace HS := (((HS.pick 1 rfl).set 0 (.slice A' x.p.length c')).set 1 (.bool x.fl))
  simp only [List.set_cons_zero, List.set_cons_succ] at HS
  have F := HS.facts; simp only [Own.Facts, Own.Cells, World.size_alloc, List.cons_append, List.nil_append, List.eraseIdx_cons_succ, List.eraseIdx_cons_zero, List.eraseIdx_zero, List.tail_cons, Nat.zero_add] at F
  go_wp2_with fail
  refine (toDot _ _ _).mono ?_; rintro e w2 ⟨rfl, hb⟩; (first | have H' := HS.of_below hb | have H' := HS.drew.of_below hb | have H' := (HS.box0 [_] _).of_below hb | have H' := ((HS.box0 [_] _).box0 [_] _).of_below hb | have H' := (HS.alloc _).of_below hb | have H' := ((HS.alloc _).alloc _).of_below hb); clear HS; have HS := H'; clear H'; have F := HS.facts; simp only [Own.Facts, Own.Cells, World.size_alloc, List.cons_append, List.nil_append, List.eraseIdx_cons_succ, List.eraseIdx_cons_zero, List.eraseIdx_zero, List.tail_cons, Nat.zero_add] at F
  go_wp2
  have H2 := ((HS.set 2 (.int .i64 x.dr)).set 3 (.int .i64 x.ds)).set 4 (.string x.v)
  have F2 := H2.facts
  have H3 := ((((((H2.drop.pick 1 rfl).set 0 (.slice A' x.p.length c')).set 1 (.bool x.fl)).set 2 (.int .i64 x.dr)).set 3 (.int .i64 x.ds)).set 4 (.string x.v)).drop.only
  trace_state
  exact bodyPost_ret (v := .agg #[.slice A' x.p.length c', .bool x.fl, .int .i64 x.dr, .int .i64 x.ds, .string x.v]) (by simp [results, Try.results75, go_sem, *]) rfl ⟨_, rfl, H3⟩
end Go.Proofs.Ytbcgbkeldcaalaa
