/- Live states made of states; leaves that are the same; states that fit. -/
import Derived.Test.YtkafflbakgkpcaaGreatT1
import Derived.Test.YtkafflbakgkpcaaGreatM5
import Derived.Test.YtkafflbakgkpcaaGreatJ4
/-FL-/
namespace Go.Proofs.YtkafflbakgkpcaaGreat
set_option linter.unusedSimpArgs false
set_option linter.unusedVariables false
open Go.RowKit Go.Ow Go.MapKept
attribute [local irreducible] wpQuiet
set_option maxRecDepth 100000
def fitsB (l : List Lf) (c : List Rn) : Bool := decide (l.length ≤ 1000) && decide (c.length ≤ 1000)
theorem implFits (l : List Lf) (c : List Rn) (vl vc : Value) (w : World) (h1 : Rd w vl l) (h2 : Rd w vc c) :
    Calls Tryz.prog 66 #[.agg #[vl, vc]] w fun e w' => e = .returned (.bool (fitsB l c)) ∧ Below w.heap.size w w' := by
  obtain ⟨A, c1, rfl, _, hl⟩ := h1.val
  obtain ⟨A2, d2, rfl, _, hl2⟩ := h2.val
  have HS := (Own.start w).box [.slice A l.length c1, .slice A2 c.length d2] 36
  by_cases g1 : l.length ≤ 1000
  · by_cases g2 : c.length ≤ 1000
    · have HQ := Lib.hid (show fitsB l c = true by simp [fitsB, g1, g2])
      go_enter Tryz.func66, Tryz.ntmps66
      go_wp2
      go_ret
      exact ⟨by rw [HQ.out]; first | rfl | (simp; omega), HS.below⟩
    · have HQ := Lib.hid (show fitsB l c = false by simp [fitsB, g2])
      go_enter Tryz.func66, Tryz.ntmps66
      go_wp2
      go_ret
      exact ⟨by rw [HQ.out]; first | rfl | (simp; omega), HS.below⟩
  · have HQ := Lib.hid (show fitsB l c = false by simp [fitsB, g1])
    go_enter Tryz.func66, Tryz.ntmps66
    go_wp2
    go_ret
    exact ⟨by rw [HQ.out]; first | rfl | (simp; omega), HS.below⟩
theorem implTreeOf (l : List Lf) (c : List Rn) (zs : List Pf) (vl vc : Value) (w : World) (h1 : Rd w vl zs) (h2 : Rd w vc c) (hn : zs.length ≤ 1048576) (hc : c.length ≤ 1048576) (hd : (zs.map dotP).Nodup) :
    Calls Tryz.prog 62 #[.agg #[vl, vc]] w fun e w' => ∃ b1 b2, e = .returned (.agg #[.map (some b2), .map (some b1)]) ∧ Own w [.lm b2 zs, .map none b1 (cloud [] c)] w' := by
  obtain ⟨A, c1, rfl, _, hl⟩ := h1.val
  obtain ⟨A2, d2, rfl, _, hl2⟩ := h2.val
  have HN := Lib.hid hd
  clear hd
  have HS := ((Own.start w).box [.slice A zs.length c1, .slice A2 c.length d2] 36).box (b := w.heap.size + 1) [.map none, .map none] 98
  go_enter Tryz.func62, Tryz.ntmps62
  go_wp2_with (refine wp_mklm rfl _ (by rfl) HS ?_; clear HS; intro w1 HS; have F := HS.facts; simp only [Own.Facts, Ds.lm, Ds.lmf, Ds.iter, Ds.map, Ds.mapf, Own.Cells, World.size_alloc, List.cons_append, List.nil_append, List.eraseIdx_cons_succ, List.eraseIdx_cons_zero, List.eraseIdx_zero, List.tail_cons, Nat.zero_add] at F; simp only [World.size_alloc] at HS)
  refine (cloudOf c _ _ (HS.old h2) hc).mono ?_; rintro e w2 ⟨b1, rfl, hs⟩; (first | have H' := HS.call1 hs | have H' := HS.drew.call1 hs | have H' := (HS.box0 [_] _).call1 hs | have H' := ((HS.box0 [_] _).box0 [_] _).call1 hs | have H' := (HS.alloc _).call1 hs | have H' := ((HS.alloc _).alloc _).call1 hs); clear HS; have HS := H'; clear H'; have F := HS.facts; simp only [Own.Facts, Ds.lm, Ds.lmf, Ds.iter, Ds.map, Ds.mapf, Own.Cells, World.size_alloc, List.cons_append, List.nil_append, List.eraseIdx_cons_succ, List.eraseIdx_cons_zero, List.eraseIdx_zero, List.tail_cons, Nat.zero_add] at F
  have HX := (HS.pick 1 rfl).box (b := w2.heap.size) [.map (some (w.heap.size + 1 + 1)), .map (some b1)] 98
  simp only [List.eraseIdx_cons_succ, List.eraseIdx_cons_zero] at HX
  have HX2 := HX.pick 1 rfl
  simp only [List.eraseIdx_cons_succ, List.eraseIdx_cons_zero] at HX2
  obtain ⟨b3, hb3⟩ : ∃ b, w2.heap.size = b := ⟨_, rfl⟩
  rw [hb3] at HX2
  obtain ⟨sz, hsz⟩ : ∃ b, w.heap.size = b := ⟨_, rfl⟩
  rw [hsz] at HX2 HS F
  clear HX
  have FX := (HX2.pick 4 rfl).only.facts
  simp only [Own.Facts, Ds.lm, Ds.lmf, Ds.iter, Ds.map, Ds.mapf, Own.Cells, Nat.zero_add, and_true] at FX
  go_wp2
  try simp only [hb3, hsz]
  clear hb3 hsz F HS FX
  go_loopw [14] (fun i wr => ∃ k : Nat, k ≤ zs.length ∧ i = .int .i64 k ∧ Own w [.lm (sz + 1 + 1) (zs.take k), .box b3 98 [.map (some (sz + 1 + 1)), .map (some b1)], .map none b1 (cloud [] c), .box (sz + 1) 98 [.map none, .map none], .box sz 36 [.slice A zs.length c1, .slice A2 c.length d2]] wr) (fun i _ => zs.length - (intOf i).toNat)
  case atStart => exact ⟨0, by omega, rfl, HX2⟩
  case round =>
    obtain ⟨k, hk, rfl, HS⟩ := hrel
    clear HX2
    by_cases hlt : k < zs.length
    · obtain ⟨b, o, rfl⟩ := h1.fix (by omega)
      have hcl := Pf.cells (HS.old h1) k hlt
      have hne : ∀ y ∈ zs.take k, dotP y ≠ dotP zs[k] := fun y hy => by
        obtain ⟨j, hj, rfl⟩ := List.mem_take_iff_getElem.1 hy
        have := List.pairwise_iff_getElem.1 HN.out j k (by simp; omega) (by simpa using hlt) (by omega)
        simpa using this
      have htk : zs.take (k + 1) = zs.take k ++ [zs[k]] := List.take_succ_eq_append_getElem hlt
      obtain ⟨z, hz⟩ : ∃ z, zs[k] = z := ⟨_, rfl⟩
      rw [hz] at hcl hne htk
      clear hz
      have HNE := Lib.hid hne
      have HTK := Lib.hid htk
      clear hne htk
      obtain ⟨⟨Az, nz, cz⟩, ⟨zp, zf, zr, zd, zv⟩⟩ := z
      simp only [Sv.v] at hcl
      have HB := (HS.box (b := wr.heap.size) [.slice Az nz cz, .bool zf, .int .i64 zr, .int .i64 zd, .string zv] 57).pick 1 rfl
      simp only [List.eraseIdx_cons_succ, List.eraseIdx_cons_zero] at HB
      have F := (HB.pick 1 rfl).only.facts
      simp only [Own.Facts, Ds.lm, Ds.lmf, Ds.iter, Ds.map, Ds.mapf, Own.Cells, Nat.zero_add, and_true] at F
      have F2 := (HB.pick 2 rfl).only.facts
      simp only [Own.Facts, Ds.lm, Ds.lmf, Ds.iter, Ds.map, Ds.mapf, Own.Cells, Nat.zero_add, and_true] at F2
      go_wp2_with (refine wp_lput dotKey rfl _ _ _ rfl Tryz.underlying96 HB rfl ⟨⟨Az, nz, cz⟩, ⟨zp, zf, zr, zd, zv⟩⟩ rfl rfl HNE.out ?_; clear HB F F2; intro w5 H5)
      rw [← HTK.out] at H5
      have H6 := (H5.pick 1 rfl).drop
      go_roundw
      case rel => exact ⟨k + 1, by omega, by go_num, H6⟩
      case measure => simp [intOf]; omega
    · obtain rfl : k = zs.length := by omega
      rw [List.take_length] at HS
      have F := (HS.pick 1 rfl).only.facts
      simp only [Own.Facts, Ds.lm, Ds.lmf, Ds.iter, Ds.map, Ds.mapf, Own.Cells, Nat.zero_add, and_true] at F
      have F2 := (HS.pick 3 rfl).only.facts
      simp only [Own.Facts, Ds.lm, Ds.lmf, Ds.iter, Ds.map, Ds.mapf, Own.Cells, Nat.zero_add, and_true] at F2
      go_wp2
      have H2 := ((((HS.pick 3 rfl).set 0 (.map (some (sz + 1 + 1)))).set 1 (.map (some b1))).drop.pick 1 rfl).drop
      have H3 := ((H2.pick 2 rfl).drop)
      simp only [List.eraseIdx_cons_succ, List.eraseIdx_cons_zero] at H3
      exact bodyPost_ret (v := .agg #[.map (some (sz + 1 + 1)), .map (some b1)]) (by simp [results, Tryz.results62, go_sem, *]) rfl ⟨_, _, rfl, H3⟩
end Go.Proofs.YtkafflbakgkpcaaGreat
