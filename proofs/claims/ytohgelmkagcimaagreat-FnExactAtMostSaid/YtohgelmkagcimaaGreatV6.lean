/- Union and Covers: the program's side. -/
import Derived.Test.YtohgelmkagcimaaGreatVb
import Derived.Test.YtohgelmkagcimaaGreatCa
/-FR-/
namespace Go.Proofs.YtohgelmkagcimaaGreat
set_option linter.unusedSimpArgs false
set_option linter.unusedVariables false
open Go.RowKit Go.Ow Go.MapKept
attribute [local irreducible] wpQuiet
set_option maxRecDepth 100000
theorem cloudNs {xs : List Rn} (h : ctxOk xs = true) : ∀ k, Ns (mget (cloud [] xs) k) ∧ (mget (cloud [] xs) k).length ≤ 1048576 := fun k => by
  rw [mget_cloud0]
  refine ⟨spaced_ns (spaced_ctx xs k h), ?_⟩
  have h1 : (spansOf xs k).length ≤ xs.length := by unfold spansOf; rw [List.length_map]; exact List.length_filter_le _ _
  have h2 := ((ctxOk_nf xs).1 h).2
  omega
/-- Both clouds made, the second put into the first, its runs. -/
theorem runs_of {xs ys : List Rn} (hx : ctxOk xs = true) (hy : ctxOk ys = true) {g' : List (Int × List Sp)}
    (h : ∀ k, Ns (mget g' k) ∧ (∀ q, SpIn (mget g' k) q ↔ SpIn (mget (cloud [] xs) k) q ∨ SpIn (mget (cloud [] ys) k) q) ∧ (mget g' k).length ≤ (mget (cloud [] xs) k).length + (mget (cloud [] ys) k).length) : runsN g' 8 0 = uni xs ys ∧ (uni xs ys).length ≤ 4194304 := by
  have nx := (ctxOk_nf xs).1 hx
  have ny := (ctxOk_nf ys).1 hy
  refine ⟨runs_uni nx.1 ny.1 (fun k => (h k).1) (fun k q => ?_), ?_⟩
  · rw [(h k).2.1 q, mget_cloud0, mget_cloud0]
  · have := uni_len ys xs; omega
theorem slicesEqualR (xs ys : List Rn) (v u : Value) (w : World) (hv : Rd w v xs) (hu : Rd w u ys) : Calls Tryz.prog 103 #[v, u] w fun e w' => e = .returned (.bool (decide (xs = ys))) ∧ Below w.heap.size w w' := by
  obtain ⟨A, c, rfl, hc, hl⟩ := hv.val
  obtain ⟨B, d, rfl, hd, hm⟩ := hu.val
  have HS := Own.start w
  by_cases hn : xs.length = ys.length
  · have hb2 : ((xs.length : Int) != (ys.length : Int)) = false := by simp; omega
    have hb3 : ((xs.length : Int) == (ys.length : Int)) = true := by simp; omega
    have HN := Lib.hid hn
    clear hn
    go_enter Tryz.func103, Tryz.ntmps103
    go_wp2
    go_loopw [13] (fun i wr => ∃ k : Nat, k ≤ xs.length ∧ i = .int .i64 k ∧ Own w [] wr ∧ xs.take k = ys.take k) (fun i _ => xs.length - (intOf i).toNat)
    case atStart => exact ⟨0, by omega, rfl, HS, rfl⟩
    case round =>
      obtain ⟨k, hk, rfl, HS', hok⟩ := hrel
      have HOK := Lib.hid hok
      clear hok
      by_cases hlt : k < xs.length
      · have hlt2 : k < ys.length := by have := HN.out; omega
        obtain ⟨b, o, rfl⟩ := hv.fix (by omega)
        obtain ⟨b2, o2, rfl⟩ := hu.fix (by omega)
        have hF : ∀ p : Ext wr, _ := fun p => Rn.rd ((HS'.of_below p.h).old hv) k hlt
        have hG : ∀ p : Ext wr, _ := fun p => Rn.rd ((HS'.of_below p.h).old hu) k hlt2
        have HT : xs[k] = ys[k] → xs.take (k + 1) = ys.take (k + 1) := fun h => by rw [List.take_succ_eq_append_getElem hlt, List.take_succ_eq_append_getElem hlt2, HOK.out, h]
        have HNQ : xs[k] ≠ ys[k] → xs ≠ ys := fun h1 h => h1 (by simp [h])
        obtain ⟨x, hx⟩ : ∃ x, xs[k] = x := ⟨_, rfl⟩
        obtain ⟨y, hy⟩ : ∃ y, ys[k] = y := ⟨_, rfl⟩
        simp only [hx, hy] at hF hG HT HNQ
        clear hx hy
        obtain ⟨xr, xf, xt⟩ := x
        obtain ⟨yr, yf, yt⟩ := y
        simp only at hF hG
        have HT' := Lib.hid HT
        have HNQ' := Lib.hid HNQ
        clear HT HNQ
        by_cases e1 : xr = yr
        · subst e1
          by_cases e2 : xf = yf
          · subst e2
            by_cases e3 : xt = yt
            · subst e3
              have H1 := Lib.hid (HT'.out rfl)
              go_wp2
              (refine wp_region_ext (by kernel_rfl) (by kernel_rfl) ?_; (repeat (quiet_step (first | fail))); refine wpQuiet_nil ?_; rintro _ ⟨⟨w1, hw1⟩, rfl⟩)
              have H2 := HS'.of_below hw1
              clear hF hG
              go_wp2
              go_roundw
              case rel => exact ⟨k + 1, by omega, by go_num, H2, H1.out⟩
              case measure => simp [intOf]; omega
            · have H1 := Lib.hid (HNQ'.out (by simp; exact e3))
              have e3b : (xt == yt) = false := by simpa using e3
              clear e3
              go_wp2
              (refine wp_region_ext (by kernel_rfl) (by kernel_rfl) ?_; (repeat (quiet_step (first | fail))); refine wpQuiet_nil ?_; rintro _ ⟨⟨w1, hw1⟩, rfl⟩)
              have H2 := HS'.of_below hw1
              clear hF hG
              go_wp2
              go_ret
              exact ⟨by simp [H1.out], H2.below⟩
          · have H1 := Lib.hid (HNQ'.out (by simp; intro h; exact absurd h e2))
            have e2b : (xf == yf) = false := by simpa using e2
            clear e2
            go_wp2
            (refine wp_region_ext (by kernel_rfl) (by kernel_rfl) ?_; (repeat (quiet_step (first | fail))); refine wpQuiet_nil ?_; rintro _ ⟨⟨w1, hw1⟩, rfl⟩)
            have H2 := HS'.of_below hw1
            clear hF hG
            go_wp2
            go_ret
            exact ⟨by simp [H1.out], H2.below⟩
        · have H1 := Lib.hid (HNQ'.out (by simp; intro h; exact absurd h e1))
          have e1b : (xr == yr) = false := by simpa using e1
          clear e1
          go_wp2
          (refine wp_region_ext (by kernel_rfl) (by kernel_rfl) ?_; (repeat (quiet_step (first | fail))); refine wpQuiet_nil ?_; rintro _ ⟨⟨w1, hw1⟩, rfl⟩)
          have H2 := HS'.of_below hw1
          clear hF hG
          go_wp2
          go_ret
          exact ⟨by simp [H1.out], H2.below⟩
      · go_wp2
        go_ret
        obtain rfl : k = xs.length := by omega
        have h := HOK.out
        rw [List.take_length, HN.out, List.take_length] at h
        exact ⟨by simp [h], HS'.below⟩
  · have hb2 : ((xs.length : Int) != (ys.length : Int)) = true := by simp; omega
    have hb3 : ((xs.length : Int) == (ys.length : Int)) = false := by simp; omega
    have hne : xs ≠ ys := fun h => hn (by rw [h])
    have H1 := Lib.hid hne
    clear hne
    go_enter Tryz.func103, Tryz.ntmps103
    go_wp2
    go_ret
    exact ⟨by simp [H1.out], HS.below⟩
end Go.Proofs.YtohgelmkagcimaaGreat
