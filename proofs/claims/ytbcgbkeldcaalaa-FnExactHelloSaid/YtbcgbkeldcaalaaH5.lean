/- States handed in: rows of leaves, states. -/
import Derived.Test.YtbcgbkeldcaalaaH4
namespace Go.Proofs.Ytbcgbkeldcaalaa
set_option linter.unusedSimpArgs false
set_option linter.unusedVariables false
open Go.RowKit Go.Ow
attribute [local irreducible] wpQuiet
set_option maxRecDepth 100000
def lf0 : Lf := ⟨[], false, 0, 0, ByteArray.empty⟩
theorem lf0_dp (w : World) : Cd.dp w lf0 [.slice none 0 0, .bool false, .int .i64 0, .int .i64 0, .string ByteArray.empty] [] :=
  ⟨[.slice none 0 0], _, [], [], rfl, rfl, ⟨_, rfl, .inl ⟨rfl, rfl, rfl⟩⟩, [.bool false], _, [], [], rfl, rfl, ⟨rfl, rfl⟩, [.int .i64 0], _, [], [], rfl, rfl, ⟨rfl, rfl⟩, [.int .i64 0], [.string _], [], [], rfl, rfl, ⟨rfl, rfl⟩, ⟨rfl, rfl⟩⟩
theorem toLeafS (xs : List Lf) (v : Value) (w : World) (hv : Rd w v xs) (hn : xs.length ≤ 1048576) (hp : ∀ x ∈ xs, x.p.length ≤ 1048576) : Calls Try.prog 45 #[v] w fun e w' => ∃ v', e = .returned v' ∧ Own w [.own v' xs] w' := by
  obtain ⟨A, c, rfl, hc, hl⟩ := hv.val
  have HS := Own.start w
  have HP := Lib.hid hp
  clear hp
  go_enter Try.func45, Try.ntmps45
  go_wp2_with (refine wp_makeC (α := Lf) lf0 _ 64 lf0_dp (by kernel_rfl) rfl _ _ 32 rfl (by kernel_rfl) HS _ _ _ _ xs.length rfl rfl rfl rfl (by omega) hl ?_; clear HS; intro w1 HS)
  go_loopw [4] (fun i wr => ∃ k : Nat, k ≤ xs.length ∧ i = .int .i64 k ∧ Own w [.own (.slice (some ⟨w.heap.size, 0, none⟩) xs.length xs.length) (xs.take k ++ List.replicate (xs.length - k) lf0)] wr) (fun i _ => xs.length - (intOf i).toNat)
  case atStart => exact ⟨0, by omega, rfl, by simpa using (show Own w [.own _ (List.replicate xs.length lf0)] w1 from HS)⟩
  case round =>
    obtain ⟨k, hk, rfl, HS'⟩ := hrel
    by_cases hlt : k < xs.length
    · obtain ⟨b, o, rfl⟩ := hv.fix (by omega)
      obtain ⟨vp, hx⟩ := Lf.rd (HS'.old hv) k hlt
      obtain ⟨hp, c0, c1, c2, c3, c4⟩ := hx wr (Below.refl _ _)
      clear hx
      have hl2 : (xs.take k ++ List.replicate (xs.length - k) lf0).length = xs.length := by simp; omega
      have hpl := HP.out xs[k] (List.getElem_mem hlt)
      have HF := Lib.hid (fill_set xs lf0 k hlt)
      obtain ⟨x, hxk⟩ : ∃ x, xs[k] = x := ⟨_, rfl⟩
      rw [hxk] at hp c1 c2 c3 c4 hpl HF
      clear hxk
      obtain ⟨ys, hys⟩ : ∃ ys, xs.take k ++ List.replicate (xs.length - k) lf0 = ys := ⟨_, rfl⟩
      rw [hys] at HS' hl2 HF
      clear hys
      have HL := Lib.hid hl2
      go_wp2_with fail
      refine (toLeaf x vp _ hp hpl).mono ?_
      rintro e w2 ⟨v', rfl, hs⟩
      obtain ⟨A', c', rfl, _, _⟩ := (hs.rd 0 rfl).val
      have HS2 := HS'.call1 hs
      have ht := (HS2.pick 1 rfl).thaw.1
      obtain ⟨vq, hy⟩ := Lf.rd (HS2.rd 1 rfl) k (by omega)
      obtain ⟨_, d0, d1, d2, d3, d4⟩ := hy w2 (Below.refl _ _)
      simp only [Nat.zero_add] at d0 d1 d2 d3 d4
      clear hy
      go_wp2
      go_roundw
      case rel =>
        have := HL.out
        refine ⟨k + 1, by omega, by go_num, ?_⟩
        rw [← HF.out]
        rw [show xs.length = ys.length from this.symm] at HS2 ⊢
        exact Lf.put HS2 k (by omega)
      case measure => simp [intOf]; omega
    · go_wp2
      go_ret
      obtain rfl : k = xs.length := by omega
      exact ⟨_, rfl, by simpa using HS'⟩
theorem toState (x : St) (vl vc : Value) (w : World) (h1 : Rd w vl x.l) (h2 : Rd w vc x.c) (hn : x.l.length ≤ 1048576) (hp : ∀ y ∈ x.l, y.p.length ≤ 1048576) (hc : x.c.length ≤ 1048576) :
    Calls Try.prog 15 #[.agg #[vl, vc]] w fun e w' => ∃ ul uc, e = .returned (.agg #[ul, uc]) ∧ Own w [.own ul x.l, .own uc x.c] w' := by
  obtain ⟨A, c, rfl, _, hl⟩ := h1.val
  obtain ⟨A2, c2, rfl, _, hl2⟩ := h2.val
  have HS := (((Own.start w).box [.slice A x.l.length c, .slice A2 x.c.length c2] 27).box (b := w.heap.size + 1) [.slice none 0 0, .slice none 0 0] 37).box (b := w.heap.size + 1 + 1) [.slice none 0 0, .slice none 0 0] 37
  go_enter Try.func15, Try.ntmps15
  go_wp2_with fail
  refine (toLeafS _ _ _ (by repeat (first | exact HS.old h1 | exact HS.rd 0 rfl | exact HS.rd 1 rfl | exact HS.rd 2 rfl | exact HS.rd 3 rfl | exact HS.rd 4 rfl | exact HS.rd 5 rfl | exact HS.drew.old h1 | exact HS.drew.rd 0 rfl | exact HS.drew.rd 1 rfl | exact HS.drew.rd 2 rfl | exact HS.drew.rd 3 rfl | exact HS.drew.rd 4 rfl | exact HS.drew.rd 5 rfl | refine Rd.alloc ?_ _)) hn hp).mono ?_; rintro e w1 ⟨v', rfl, hs⟩; obtain ⟨A', c', rfl, _, _⟩ := (hs.rd 0 rfl).val; (first | have H' := HS.call1 hs | have H' := HS.drew.call1 hs | have H' := (HS.box0 [_] _).call1 hs | have H' := ((HS.box0 [_] _).box0 [_] _).call1 hs | have H' := (HS.alloc _).call1 hs | have H' := ((HS.alloc _).alloc _).call1 hs); clear HS; have HS := H'; clear H'; have F := HS.facts; simp only [Own.Facts, Own.Cells, World.size_alloc, List.cons_append, List.nil_append, List.eraseIdx_cons_succ, List.eraseIdx_cons_zero, List.eraseIdx_zero, List.tail_cons, Nat.zero_add] at F
  replace HS := ((HS.pick 1 rfl).set 0 (.slice A' x.l.length c'))
  simp only [List.set_cons_zero, List.set_cons_succ] at HS
  have F := HS.facts; simp only [Own.Facts, Own.Cells, World.size_alloc, List.cons_append, List.nil_append, List.eraseIdx_cons_succ, List.eraseIdx_cons_zero, List.eraseIdx_zero, List.tail_cons, Nat.zero_add] at F
  go_wp2_with fail
  refine (toContext _ _ _ (by repeat (first | exact HS.old h2 | exact HS.rd 0 rfl | exact HS.rd 1 rfl | exact HS.rd 2 rfl | exact HS.rd 3 rfl | exact HS.rd 4 rfl | exact HS.rd 5 rfl | exact HS.drew.old h2 | exact HS.drew.rd 0 rfl | exact HS.drew.rd 1 rfl | exact HS.drew.rd 2 rfl | exact HS.drew.rd 3 rfl | exact HS.drew.rd 4 rfl | exact HS.drew.rd 5 rfl | refine Rd.alloc ?_ _)) hc).mono ?_; rintro e w2 ⟨v', rfl, hs⟩; obtain ⟨A3, c3, rfl, _, _⟩ := (hs.rd 0 rfl).val; (first | have H' := HS.call1 hs | have H' := HS.drew.call1 hs | have H' := (HS.box0 [_] _).call1 hs | have H' := ((HS.box0 [_] _).box0 [_] _).call1 hs | have H' := (HS.alloc _).call1 hs | have H' := ((HS.alloc _).alloc _).call1 hs); clear HS; have HS := H'; clear H'; have F := HS.facts; simp only [Own.Facts, Own.Cells, World.size_alloc, List.cons_append, List.nil_append, List.eraseIdx_cons_succ, List.eraseIdx_cons_zero, List.eraseIdx_zero, List.tail_cons, Nat.zero_add] at F
  go_wp2
  have H2 := (HS.pick 1 rfl).set 1 (.slice A3 x.c.length c3)
  have F2 := H2.facts
  have H3 := ((((H2.drop.pick 2 rfl).set 0 (.slice A' x.l.length c')).set 1 (.slice A3 x.c.length c3)).drop.pick 2 rfl).drop.pick 1 rfl
  exact bodyPost_ret (v := .agg #[.slice A' x.l.length c', .slice A3 x.c.length c3]) (by simp [results, Try.results15, go_sem, *]) rfl ⟨_, _, rfl, H3⟩
end Go.Proofs.Ytbcgbkeldcaalaa
