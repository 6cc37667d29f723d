/- Live states made of states; leaves that are the same; states that fit. -/
import Derived.Test.YtohgelmkagcimaaGreatT1
import Derived.Test.YtohgelmkagcimaaGreatM5
import Derived.Test.YtohgelmkagcimaaGreatJ4
/-FL-/
namespace Go.Proofs.YtohgelmkagcimaaGreat
set_option linter.unusedSimpArgs false
set_option linter.unusedVariables false
open Go.RowKit Go.Ow Go.MapKept
attribute [local irreducible] wpQuiet
set_option maxRecDepth 100000
theorem sameLeaf (x y : Lf) (vp up : Value) (w : World) (hv : Rd w vp x.p) (hu : Rd w up y.p) (hx : dotIn x) (hy : dotIn y) :
    Calls Tryz.prog 69 #[.agg #[vp, .bool x.fl, .int .i64 x.dr, .int .i64 x.ds, .string x.v], .agg #[up, .bool y.fl, .int .i64 y.dr, .int .i64 y.ds, .string y.v]] w fun e w' => e = .returned (.bool (decide (x = y))) ∧ Below w.heap.size w w' := by
  obtain ⟨A, c, rfl, hc, hl⟩ := hv.val
  obtain ⟨B, d, rfl, hd, hm⟩ := hu.val
  have HS := ((Own.start w).box [.slice A x.p.length c, .bool x.fl, .int .i64 x.dr, .int .i64 x.ds, .string x.v] 103).box (b := w.heap.size + 1) [.slice B y.p.length d, .bool y.fl, .int .i64 y.dr, .int .i64 y.ds, .string y.v] 103
  have hz := cmpL_zero x y hx hy
  by_cases h0 : cmpL x y = 0
  · have h0b : (cmpL x y == 0) = true := by simp [h0]
    obtain ⟨e1, e2, e3, e4⟩ := hz.1 h0
    have HQ := Lib.hid (show decide (x = y) = (x.v.toList == y.v.toList) by
      rw [str_eq, Bool.eq_iff_iff, decide_eq_true_eq, decide_eq_true_eq]
      constructor
      · intro h; rw [h]
      · intro h
        obtain ⟨a, b, c, d, e⟩ := x
        obtain ⟨a', b', c', d', e'⟩ := y
        simp only at e1 e2 e3 e4 h
        subst e1 e2 e3 e4 h; rfl)
    clear h0 hz e1 e2 e3 e4
    go_enter Tryz.func69, Tryz.ntmps69
    go_wp2_with fail
    refine (compareLeaves x y _ _ _ (HS.old hv) (HS.old hu)).mono ?_; rintro e w1 ⟨rfl, hb⟩; (first | have H' := HS.of_below hb | have H' := HS.drew.of_below hb | have H' := (HS.box0 [_] _).of_below hb | have H' := ((HS.box0 [_] _).box0 [_] _).of_below hb | have H' := (HS.alloc _).of_below hb | have H' := ((HS.alloc _).alloc _).of_below hb); clear HS; have HS := H'; clear H'; have F := HS.facts; simp only [Own.Facts, Ds.lm, Ds.lmf, Ds.iter, Ds.map, Ds.mapf, Own.Cells, World.size_alloc, List.cons_append, List.nil_append, List.eraseIdx_cons_succ, List.eraseIdx_cons_zero, List.eraseIdx_zero, List.tail_cons, Nat.zero_add] at F
    go_wp2
    go_ret
    exact ⟨by rw [HQ.out]; rfl, HS.below⟩
  · have h0b : (cmpL x y == 0) = false := by simpa using h0
    have HQ := Lib.hid (show decide (x = y) = false by
      rw [decide_eq_false]
      intro h
      exact h0 (hz.2 (by rw [h]; exact ⟨rfl, rfl, rfl, rfl⟩)))
    clear h0 hz
    go_enter Tryz.func69, Tryz.ntmps69
    go_wp2_with fail
    refine (compareLeaves x y _ _ _ (HS.old hv) (HS.old hu)).mono ?_; rintro e w1 ⟨rfl, hb⟩; (first | have H' := HS.of_below hb | have H' := HS.drew.of_below hb | have H' := (HS.box0 [_] _).of_below hb | have H' := ((HS.box0 [_] _).box0 [_] _).of_below hb | have H' := (HS.alloc _).of_below hb | have H' := ((HS.alloc _).alloc _).of_below hb); clear HS; have HS := H'; clear H'; have F := HS.facts; simp only [Own.Facts, Ds.lm, Ds.lmf, Ds.iter, Ds.map, Ds.mapf, Own.Cells, World.size_alloc, List.cons_append, List.nil_append, List.eraseIdx_cons_succ, List.eraseIdx_cons_zero, List.eraseIdx_zero, List.tail_cons, Nat.zero_add] at F
    go_wp2
    go_ret
    exact ⟨by rw [HQ.out]; rfl, HS.below⟩
def fitsB (l : List Lf) (c : List Rn) : Bool := decide (l.length ≤ 1000) && decide (c.length ≤ 1000)
theorem implFits (l : List Lf) (c : List Rn) (vl vc : Value) (w : World) (h1 : Rd w vl l) (h2 : Rd w vc c) :
    Calls Tryz.prog 73 #[.agg #[vl, vc]] w fun e w' => e = .returned (.bool (fitsB l c)) ∧ Below w.heap.size w w' := by
  obtain ⟨A, c1, rfl, _, hl⟩ := h1.val
  obtain ⟨A2, d2, rfl, _, hl2⟩ := h2.val
  have HS := (Own.start w).box [.slice A l.length c1, .slice A2 c.length d2] 36
  by_cases g1 : l.length ≤ 1000
  · by_cases g2 : c.length ≤ 1000
    · have HQ := Lib.hid (show fitsB l c = true by simp [fitsB, g1, g2])
      go_enter Tryz.func73, Tryz.ntmps73
      go_wp2
      go_ret
      exact ⟨by rw [HQ.out]; first | rfl | (simp; omega), HS.below⟩
    · have HQ := Lib.hid (show fitsB l c = false by simp [fitsB, g2])
      go_enter Tryz.func73, Tryz.ntmps73
      go_wp2
      go_ret
      exact ⟨by rw [HQ.out]; first | rfl | (simp; omega), HS.below⟩
  · have HQ := Lib.hid (show fitsB l c = false by simp [fitsB, g1])
    go_enter Tryz.func73, Tryz.ntmps73
    go_wp2
    go_ret
    exact ⟨by rw [HQ.out]; first | rfl | (simp; omega), HS.below⟩
theorem implTreeOf (l : List Lf) (c : List Rn) (zs : List Pf) (vl vc : Value) (w : World) (h1 : Rd w vl zs) (h2 : Rd w vc c) (hn : zs.length ≤ 1048576) (hc : c.length ≤ 1048576) (hd : (zs.map dotP).Nodup) :
    Calls Tryz.prog 67 #[.agg #[vl, vc]] w fun e w' => ∃ b1 b2, e = .returned (.agg #[.map (some b2), .map (some b1)]) ∧ Own w [.lm b2 zs, .map none b1 (cloud [] c)] w' := by
  obtain ⟨A, c1, rfl, _, hl⟩ := h1.val
  obtain ⟨A2, d2, rfl, _, hl2⟩ := h2.val
  have HN := Lib.hid hd
  clear hd
  have HS := ((Own.start w).box [.slice A zs.length c1, .slice A2 c.length d2] 36).box (b := w.heap.size + 1) [.map none, .map none] 97
  go_enter Tryz.func67, Tryz.ntmps67
  go_wp2_with (refine wp_mklm rfl _ (by rfl) HS ?_; clear HS; intro w1 HS; have F := HS.facts; simp only [Own.Facts, Ds.lm, Ds.lmf, Ds.iter, Ds.map, Ds.mapf, Own.Cells, World.size_alloc, List.cons_append, List.nil_append, List.eraseIdx_cons_succ, List.eraseIdx_cons_zero, List.eraseIdx_zero, List.tail_cons, Nat.zero_add] at F; simp only [World.size_alloc] at HS)
  refine (cloudOf c _ _ (HS.old h2) hc).mono ?_; rintro e w2 ⟨b1, rfl, hs⟩; (first | have H' := HS.call1 hs | have H' := HS.drew.call1 hs | have H' := (HS.box0 [_] _).call1 hs | have H' := ((HS.box0 [_] _).box0 [_] _).call1 hs | have H' := (HS.alloc _).call1 hs | have H' := ((HS.alloc _).alloc _).call1 hs); clear HS; have HS := H'; clear H'; have F := HS.facts; simp only [Own.Facts, Ds.lm, Ds.lmf, Ds.iter, Ds.map, Ds.mapf, Own.Cells, World.size_alloc, List.cons_append, List.nil_append, List.eraseIdx_cons_succ, List.eraseIdx_cons_zero, List.eraseIdx_zero, List.tail_cons, Nat.zero_add] at F
  have HX := (HS.pick 1 rfl).box (b := w2.heap.size) [.map (some (w.heap.size + 1 + 1)), .map (some b1)] 97
  simp only [List.eraseIdx_cons_succ, List.eraseIdx_cons_zero] at HX
  have HX2 := HX.pick 1 rfl
  simp only [List.eraseIdx_cons_succ, List.eraseIdx_cons_zero] at HX2
  obtain ⟨b3, hb3⟩ : ∃ b, w2.heap.size = b := ⟨_, rfl⟩
  rw [hb3] at HX2
  obtain ⟨sz, hsz⟩ : ∃ b, w.heap.size = b := ⟨_, rfl⟩
  rw [hsz] at HX2 HS F
  clear HX
  have FX := (HX2.pick 4 rfl).only.facts
  simp only [Own.Facts, Ds.lm, Ds.lmf, Ds.iter, Ds.map, Ds.mapf, Own.Cells, Nat.zero_add, and_true] at FX
  go_wp2
  try simp only [hb3, hsz]
  clear hb3 hsz F HS FX
  go_loopw [14] (fun i wr => ∃ k : Nat, k ≤ zs.length ∧ i = .int .i64 k ∧ Own w [.lm (sz + 1 + 1) (zs.take k), .box b3 97 [.map (some (sz + 1 + 1)), .map (some b1)], .map none b1 (cloud [] c), .box (sz + 1) 97 [.map none, .map none], .box sz 36 [.slice A zs.length c1, .slice A2 c.length d2]] wr) (fun i _ => zs.length - (intOf i).toNat)
  case atStart => exact ⟨0, by omega, rfl, HX2⟩
  case round =>
    obtain ⟨k, hk, rfl, HS⟩ := hrel
    clear HX2
    by_cases hlt : k < zs.length
    · obtain ⟨b, o, rfl⟩ := h1.fix (by omega)
      have hcl := Pf.cells (HS.old h1) k hlt
      have hne : ∀ y ∈ zs.take k, dotP y ≠ dotP zs[k] := fun y hy => by
        obtain ⟨j, hj, rfl⟩ := List.mem_take_iff_getElem.1 hy
        have := List.pairwise_iff_getElem.1 HN.out j k (by simp; omega) (by simpa using hlt) (by omega)
        simpa using this
      have htk : zs.take (k + 1) = zs.take k ++ [zs[k]] := List.take_succ_eq_append_getElem hlt
      obtain ⟨z, hz⟩ : ∃ z, zs[k] = z := ⟨_, rfl⟩
      rw [hz] at hcl hne htk
      clear hz
      have HNE := Lib.hid hne
      have HTK := Lib.hid htk
      clear hne htk
      obtain ⟨⟨Az, nz, cz⟩, ⟨zp, zf, zr, zd, zv⟩⟩ := z
      simp only [Sv.v] at hcl
      have HB := (HS.box (b := wr.heap.size) [.slice Az nz cz, .bool zf, .int .i64 zr, .int .i64 zd, .string zv] 103).pick 1 rfl
      simp only [List.eraseIdx_cons_succ, List.eraseIdx_cons_zero] at HB
      have F := (HB.pick 1 rfl).only.facts
      simp only [Own.Facts, Ds.lm, Ds.lmf, Ds.iter, Ds.map, Ds.mapf, Own.Cells, Nat.zero_add, and_true] at F
      have F2 := (HB.pick 2 rfl).only.facts
      simp only [Own.Facts, Ds.lm, Ds.lmf, Ds.iter, Ds.map, Ds.mapf, Own.Cells, Nat.zero_add, and_true] at F2
      go_wp2_with (refine wp_lput dotKey rfl _ _ _ rfl Tryz.underlying93 HB rfl ⟨⟨Az, nz, cz⟩, ⟨zp, zf, zr, zd, zv⟩⟩ rfl rfl HNE.out ?_; clear HB F F2; intro w5 H5)
      rw [← HTK.out] at H5
      have H6 := (H5.pick 1 rfl).drop
      go_roundw
      case rel => exact ⟨k + 1, by omega, by go_num, H6⟩
      case measure => simp [intOf]; omega
    · obtain rfl : k = zs.length := by omega
      rw [List.take_length] at HS
      have F := (HS.pick 1 rfl).only.facts
      simp only [Own.Facts, Ds.lm, Ds.lmf, Ds.iter, Ds.map, Ds.mapf, Own.Cells, Nat.zero_add, and_true] at F
      have F2 := (HS.pick 3 rfl).only.facts
      simp only [Own.Facts, Ds.lm, Ds.lmf, Ds.iter, Ds.map, Ds.mapf, Own.Cells, Nat.zero_add, and_true] at F2
      go_wp2
      have H2 := ((((HS.pick 3 rfl).set 0 (.map (some (sz + 1 + 1)))).set 1 (.map (some b1))).drop.pick 1 rfl).drop
      have H3 := ((H2.pick 2 rfl).drop)
      simp only [List.eraseIdx_cons_succ, List.eraseIdx_cons_zero] at H3
      exact bodyPost_ret (v := .agg #[.map (some (sz + 1 + 1)), .map (some b1)]) (by simp [results, Tryz.results67, go_sem, *]) rfl ⟨_, _, rfl, H3⟩
end Go.Proofs.YtohgelmkagcimaaGreat
