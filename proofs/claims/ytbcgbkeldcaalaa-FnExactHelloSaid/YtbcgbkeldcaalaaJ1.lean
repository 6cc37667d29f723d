/- States: the reference's checks of paths and leaves. -/
import Derived.Test.YtbcgbkeldcaalaaI1
import Derived.Test.YtbcgbkeldcaalaaL1
namespace Go.Proofs.Ytbcgbkeldcaalaa
set_option linter.unusedSimpArgs false
set_option linter.unusedVariables false
open Go.RowKit Go.Ow
attribute [local irreducible] wpQuiet
set_option maxRecDepth 100000
theorem tail_ex (P : Program) {t e : Nat} (ht : P.underlying t = some (.slice e)) (hz : ∀ w, (sizeOf e).run P w = .ok 1 w) (A : Option Addr) (c n : Nat) (hlo : 1 ≤ n) (hc : n ≤ c) :
    ∃ V, (∀ w, (Instr.sliceAt t (.slice A n c) (some (.int .i64 1)) none none).run P w = .ok V w) ∧ ∀ (w : World) (ys : List ByteArray), Rd w (.slice A n c) ys → Rd w V (ys.drop 1) := by
  refine ⟨sliced A 1 n c 1, fun w => ?_, fun w ys hr => ?_⟩
  · have he : P.elem t = e := by simp [Program.elem, ht]
    have ht' : P.underlying t = some (.slice (P.elem t)) := by rw [he]; exact ht
    rw [run_sliceAt_slice w t _ _ _ _ ht', run_slice_l w t A n c ht' .i64 1 (by omega) (by omega), he, hz]
    simp [Result.andThen]
  · obtain rfl := hr.len
    have := rd_subV hr 1 ys.length (by omega) (Nat.le_refl _)
    rw [List.take_of_length_le (by simp)] at this
    exact this
set_option maxHeartbeats 1000000 in
theorem l3Cmp (xs : List ByteArray) : ∀ (ys : List ByteArray) (v u : Value) (w : World) (hv : Rd w v xs) (hu : Rd w u ys), Calls Try.prog 87 #[v, u] w fun e w' => e = .returned (.int .i64 (cmpP xs ys)) ∧ Below w.heap.size w w' := by
  induction xs with
  | nil =>
    intro ys v u w hv hu
    obtain ⟨A, c, rfl, hc, hl⟩ := hv.val
    obtain ⟨B, d, rfl, hd, hm⟩ := hu.val
    have HS := Own.start w
    cases ys with
    | nil =>
      go_enter Try.func87, Try.ntmps87
      go_wp2
      go_ret
      exact ⟨rfl, HS.below⟩
    | cons y ys =>
      obtain ⟨n, hn⟩ : ∃ n, (y :: ys).length = n + 1 := ⟨_, rfl⟩
      rw [hn] at hu hd hm ⊢
      have hb : (((n + 1 : Nat) : Int) == 0) = false := by simp; omega
      go_enter Try.func87, Try.ntmps87
      go_wp2
      go_ret
      exact ⟨rfl, HS.below⟩
  | cons x xs ih =>
    intro ys v u w hv hu
    have IH := Lib.hid ih
    clear ih
    have HS := Own.start w
    obtain ⟨A, c, rfl, hc, hl⟩ := hv.val
    obtain ⟨B, d, rfl, hd, hm⟩ := hu.val
    obtain ⟨n, hn⟩ : ∃ n, (x :: xs).length = n + 1 := ⟨_, rfl⟩
    rw [hn] at hv hc hl ⊢
    have hb : (((n + 1 : Nat) : Int) == 0) = false := by simp; omega
    cases ys with
    | nil =>
      go_enter Try.func87, Try.ntmps87
      go_wp2
      go_ret
      exact ⟨rfl, HS.below⟩
    | cons y ys =>
      obtain ⟨m, hm2⟩ : ∃ m, (y :: ys).length = m + 1 := ⟨_, rfl⟩
      rw [hm2] at hu hd hm ⊢
      have hb2 : (((m + 1 : Nat) : Int) == 0) = false := by simp; omega
      obtain ⟨b, o, rfl⟩ := hv.fix (by simp)
      obtain ⟨b2, o2, rfl⟩ := hu.fix (by simp)
      obtain ⟨V1, hs1, hr1⟩ := tail_ex Try.prog Try.underlying60 (fun _ => by kernel_rfl) (some ⟨b, o, none⟩) c (n + 1) (by omega) hc
      obtain ⟨V2, hs2, hr2⟩ := tail_ex Try.prog Try.underlying60 (fun _ => by kernel_rfl) (some ⟨b2, o2, none⟩) d (m + 1) (by omega) hd
      have G : ∀ w0 : World, Own w [] w0 → ∀ p : Ext w0, p.to.cell? ⟨b, o, none⟩ = some (.string x) ∧ p.to.cell? ⟨b2, o2, none⟩ = some (.string y) := fun w0 H p =>
        ⟨by have h := Sg.rd ((H.of_below p.h).old hv) 0 (by simp); simp only [Nat.add_zero] at h; exact h, by have h := Sg.rd ((H.of_below p.h).old hu) 0 (by simp); simp only [Nat.add_zero] at h; exact h⟩
      have GR : ∀ w0 : World, Own w [] w0 → ∀ p : Ext w0, Rd p.to V1 xs ∧ Rd p.to V2 ys := fun w0 H p => ⟨hr1 _ _ ((H.of_below p.h).old hv), hr2 _ _ ((H.of_below p.h).old hu)⟩
      have GH := Lib.hid G
      have GRH := Lib.hid GR
      clear G GR hr1 hr2
      have HC := Lib.hid (cmpP_cons x y xs ys)
      have hF := GH.out w HS
      cases h1 : Op.bytesLess x.toList y.toList
      · cases h2 : (x.toList == y.toList)
        · have HQ := Lib.hid (show cmpP (x :: xs) (y :: ys) = 1 by rw [HC.out, cmpS, sLt, sGt, h1, h2]; rfl)
          go_enter Try.func87, Try.ntmps87
          go_wp2
          (refine wp_region_ext (by kernel_rfl) (by kernel_rfl) ?_; (repeat (quiet_step (first | fail))); refine wpQuiet_nil ?_; rintro _ ⟨⟨w1, hw1⟩, rfl⟩)
          have H1 := HS.of_below hw1
          clear hF
          have hF := GH.out _ H1
          go_wp2
          (refine wp_region_ext (by kernel_rfl) (by kernel_rfl) ?_; (repeat (quiet_step (first | fail))); refine wpQuiet_nil ?_; rintro _ ⟨⟨w1, hw1⟩, rfl⟩)
          have H2 := H1.of_below hw1
          clear hF
          go_wp2
          go_ret
          exact ⟨by rw [HQ.out]; rfl, H2.below⟩
        · have HQ := Lib.hid (show cmpP (x :: xs) (y :: ys) = cmpP xs ys by rw [HC.out, cmpS, sLt, sGt, h1, h2]; rfl)
          go_enter Try.func87, Try.ntmps87
          go_wp2
          (refine wp_region_ext (by kernel_rfl) (by kernel_rfl) ?_; (repeat (quiet_step (first | fail))); refine wpQuiet_nil ?_; rintro _ ⟨⟨w1, hw1⟩, rfl⟩)
          have H1 := HS.of_below hw1
          clear hF
          have hF := GH.out _ H1
          go_wp2
          (refine wp_region_ext (by kernel_rfl) (by kernel_rfl) ?_; (repeat (quiet_step (first | fail))); refine wpQuiet_nil ?_; rintro _ ⟨⟨w1, hw1⟩, rfl⟩)
          have H2 := H1.of_below hw1
          clear hF
          have hR := GRH.out _ H2
          have hR1 := fun p => (hR p).1
          have hR2 := fun p => (hR p).2
          clear hR
          go_wp2
          (refine wp_region_ext (by kernel_rfl) (by kernel_rfl) ?_; (repeat (quiet_step (first | exact q_call (IH.out ys V1 V2 _ (hR1 _) (hR2 _))))); refine wpQuiet_nil ?_; rintro _ ⟨⟨w1, hw1⟩, rfl⟩)
          have H3 := H2.of_below hw1
          clear hR1 hR2
          go_wp2
          go_ret
          exact ⟨by rw [HQ.out]; rfl, H3.below⟩
      · have HQ := Lib.hid (show cmpP (x :: xs) (y :: ys) = -1 by rw [HC.out, cmpS, sLt, h1]; rfl)
        go_enter Try.func87, Try.ntmps87
        go_wp2
        (refine wp_region_ext (by kernel_rfl) (by kernel_rfl) ?_; (repeat (quiet_step (first | fail))); refine wpQuiet_nil ?_; rintro _ ⟨⟨w1, hw1⟩, rfl⟩)
        have H1 := HS.of_below hw1
        clear hF
        go_wp2
        go_ret
        exact ⟨by rw [HQ.out]; rfl, H1.below⟩
end Go.Proofs.Ytbcgbkeldcaalaa
