/- Covers: both sides. -/
import Derived.Test.YtgfgkbmebdaieaaV6
import Derived.Test.YtgfgkbmebdaieaaV7
/-FR-/
namespace Go.Proofs.Ytgfgkbmebdaieaa
set_option linter.unusedSimpArgs false
set_option linter.unusedVariables false
open Go.RowKit Go.Ow Go.MapKept
attribute [local irreducible] wpQuiet
set_option maxRecDepth 100000
def covers (xs ys : List Rn) : Bool := ctxOk xs && (ctxOk ys && decide (uni xs ys = xs))
set_option maxHeartbeats 2000000 in
theorem implCovers (xs ys : List Rn) (v u : Value) (w : World) (hv : Rd w v xs) (hu : Rd w u ys) (hn : xs.length ≤ 1048576) (hm : ys.length ≤ 1048576) :
    Calls Try.prog 24 #[.agg #[v], .agg #[u]] w fun e w' => e = .returned (.bool (covers xs ys)) ∧ Below w.heap.size w w' := by
  obtain ⟨A, c, rfl, _, _⟩ := hv.val
  obtain ⟨B, d, rfl, _, _⟩ := hu.val
  have HS := ((Own.start w).box [.slice A xs.length c] 33).box (b := w.heap.size + 1) [.slice B ys.length d] 33
  cases hx : ctxOk xs
  · have HQ := Lib.hid (show covers xs ys = false by simp [covers, hx])
    go_enter Try.func24, Try.ntmps24
    go_wp2_with fail
    refine (implCtxOk xs _ _ (HS.old hv)).mono ?_; rintro e w1 ⟨rfl, hb⟩; (first | have H' := HS.of_below hb | have H' := HS.drew.of_below hb | have H' := (HS.box0 [_] _).of_below hb | have H' := ((HS.box0 [_] _).box0 [_] _).of_below hb | have H' := (HS.alloc _).of_below hb | have H' := ((HS.alloc _).alloc _).of_below hb); clear HS; have HS := H'; clear H'; have F := HS.facts; simp only [Own.Facts, Ds.map, Ds.mapf, Own.Cells, World.size_alloc, List.cons_append, List.nil_append, List.eraseIdx_cons_succ, List.eraseIdx_cons_zero, List.eraseIdx_zero, List.tail_cons, Nat.zero_add] at F
    rw [hx]
    clear hx
    go_wp2
    go_ret
    exact ⟨by rw [HQ.out]; rfl, HS.below⟩
  · cases hy : ctxOk ys
    · have HQ := Lib.hid (show covers xs ys = false by simp [covers, hy])
      go_enter Try.func24, Try.ntmps24
      go_wp2_with fail
      refine (implCtxOk xs _ _ (HS.old hv)).mono ?_; rintro e w1 ⟨rfl, hb⟩; (first | have H' := HS.of_below hb | have H' := HS.drew.of_below hb | have H' := (HS.box0 [_] _).of_below hb | have H' := ((HS.box0 [_] _).box0 [_] _).of_below hb | have H' := (HS.alloc _).of_below hb | have H' := ((HS.alloc _).alloc _).of_below hb); clear HS; have HS := H'; clear H'; have F := HS.facts; simp only [Own.Facts, Ds.map, Ds.mapf, Own.Cells, World.size_alloc, List.cons_append, List.nil_append, List.eraseIdx_cons_succ, List.eraseIdx_cons_zero, List.eraseIdx_zero, List.tail_cons, Nat.zero_add] at F
      rw [hx]
      clear hx
      go_wp2_with fail
      refine (implCtxOk ys _ _ (HS.old hu)).mono ?_; rintro e w2 ⟨rfl, hb⟩; (first | have H' := HS.of_below hb | have H' := HS.drew.of_below hb | have H' := (HS.box0 [_] _).of_below hb | have H' := ((HS.box0 [_] _).box0 [_] _).of_below hb | have H' := (HS.alloc _).of_below hb | have H' := ((HS.alloc _).alloc _).of_below hb); clear HS; have HS := H'; clear H'; have F := HS.facts; simp only [Own.Facts, Ds.map, Ds.mapf, Own.Cells, World.size_alloc, List.cons_append, List.nil_append, List.eraseIdx_cons_succ, List.eraseIdx_cons_zero, List.eraseIdx_zero, List.tail_cons, Nat.zero_add] at F
      rw [hy]
      clear hy
      go_wp2
      go_ret
      exact ⟨by rw [HQ.out]; rfl, HS.below⟩
    · have HX := Lib.hid (And.intro hx hy)
      go_enter Try.func24, Try.ntmps24
      go_wp2_with fail
      refine (implCtxOk xs _ _ (HS.old hv)).mono ?_; rintro e w1 ⟨rfl, hb⟩; (first | have H' := HS.of_below hb | have H' := HS.drew.of_below hb | have H' := (HS.box0 [_] _).of_below hb | have H' := ((HS.box0 [_] _).box0 [_] _).of_below hb | have H' := (HS.alloc _).of_below hb | have H' := ((HS.alloc _).alloc _).of_below hb); clear HS; have HS := H'; clear H'; have F := HS.facts; simp only [Own.Facts, Ds.map, Ds.mapf, Own.Cells, World.size_alloc, List.cons_append, List.nil_append, List.eraseIdx_cons_succ, List.eraseIdx_cons_zero, List.eraseIdx_zero, List.tail_cons, Nat.zero_add] at F
      rw [hx]
      clear hx
      go_wp2_with fail
      refine (implCtxOk ys _ _ (HS.old hu)).mono ?_; rintro e w2 ⟨rfl, hb⟩; (first | have H' := HS.of_below hb | have H' := HS.drew.of_below hb | have H' := (HS.box0 [_] _).of_below hb | have H' := ((HS.box0 [_] _).box0 [_] _).of_below hb | have H' := (HS.alloc _).of_below hb | have H' := ((HS.alloc _).alloc _).of_below hb); clear HS; have HS := H'; clear H'; have F := HS.facts; simp only [Own.Facts, Ds.map, Ds.mapf, Own.Cells, World.size_alloc, List.cons_append, List.nil_append, List.eraseIdx_cons_succ, List.eraseIdx_cons_zero, List.eraseIdx_zero, List.tail_cons, Nat.zero_add] at F
      rw [hy]
      clear hy
      go_wp2_with fail
      refine (cloudOf xs _ _ (HS.old hv) hn).mono ?_; rintro e w3 ⟨b1, rfl, hs⟩; (first | have H' := HS.call1 hs | have H' := HS.drew.call1 hs | have H' := (HS.box0 [_] _).call1 hs | have H' := ((HS.box0 [_] _).box0 [_] _).call1 hs | have H' := (HS.alloc _).call1 hs | have H' := ((HS.alloc _).alloc _).call1 hs); clear HS; have HS := H'; clear H'; have F := HS.facts; simp only [Own.Facts, Ds.map, Ds.mapf, Own.Cells, World.size_alloc, List.cons_append, List.nil_append, List.eraseIdx_cons_succ, List.eraseIdx_cons_zero, List.eraseIdx_zero, List.tail_cons, Nat.zero_add] at F
      go_wp2_with fail
      refine (cloudOf ys _ _ (HS.old hu) hm).mono ?_; rintro e w4 ⟨b2, rfl, hs⟩; (first | have H' := HS.call1 hs | have H' := HS.drew.call1 hs | have H' := (HS.box0 [_] _).call1 hs | have H' := ((HS.box0 [_] _).box0 [_] _).call1 hs | have H' := (HS.alloc _).call1 hs | have H' := ((HS.alloc _).alloc _).call1 hs); clear HS; have HS := H'; clear H'; have F := HS.facts; simp only [Own.Facts, Ds.map, Ds.mapf, Own.Cells, World.size_alloc, List.cons_append, List.nil_append, List.eraseIdx_cons_succ, List.eraseIdx_cons_zero, List.eraseIdx_zero, List.tail_cons, Nat.zero_add] at F
      obtain ⟨es, clock, HK⟩ := HS.keep
      go_wp2_with fail
      refine (addCloud (cloud [] xs) (cloud [] ys) es clock b1 b2 _ HK (cloudNs HX.out.1) (cloudNs HX.out.2) (fun k h => by rw [mget_cloud0]; rw [mhas_cl] at h; simpa using h) (fun k h => by rw [mget_cloud0]; rw [mhas_cl] at h; simpa using h)).mono ?_
      rintro e w5 ⟨rfl, g', H5, hg⟩
      obtain ⟨hrun, hlen⟩ := runs_of HX.out.1 HX.out.2 hg
      clear HS F HK hg
      obtain ⟨es2, clock2, HK2⟩ := (H5.pick 1 rfl).keep
      have HU := Lib.hid (show covers xs ys = decide (uni xs ys = xs) by simp [covers, HX.out.1, HX.out.2])
      obtain ⟨zs, hzs⟩ : ∃ zs, uni xs ys = zs := ⟨_, rfl⟩
      rw [hzs] at HU hlen hrun
      clear hzs
      have hl2 : (runsN g' 8 0).length ≤ 4194304 := by rw [hrun]; exact hlen
      have HR := Lib.hid hrun
      clear H5 hrun
      have HS := HK2
      have F := HS.facts; simp only [Own.Facts, Ds.map, Ds.mapf, Own.Cells, World.size_alloc, List.cons_append, List.nil_append, List.eraseIdx_cons_succ, List.eraseIdx_cons_zero, List.eraseIdx_zero, List.tail_cons, Nat.zero_add] at F
      go_wp2
      go_region_held3 (fun w' => w'.cell? ⟨w.heap.size, 0, none⟩ = some (.slice A xs.length c)) (first | go_keep) (first | (go_at_call 68; refine (contextCloud g' es2 clock2 b1 _ (by first | exact HS | exact HS.drew) hl2).mono ?_; rintro e w6 ⟨vr, rfl, H6⟩; rw [HR.out] at H6; obtain ⟨A7, c7, rfl, _, _⟩ := (H6.rd 0 rfl).val; have hfd : ∀ w0 : World, (Instr.field 33 (.agg #[.slice A7 zs.length c7]) 0).run Try.prog w0 = .ok (.slice A7 zs.length c7) w0 := (fun w0 => by kernel_rfl); clear HS F; have HS := H6; have F := HS.facts; simp only [Own.Facts, Ds.map, Ds.mapf, Own.Cells, World.size_alloc, List.cons_append, List.nil_append, List.eraseIdx_cons_succ, List.eraseIdx_cons_zero, List.eraseIdx_zero, List.tail_cons, Nat.zero_add] at F) | (go_at_call 67; refine (slicesEqualR _ _ _ _ _ (by repeat (first | exact HS.old hv | exact HS.rd 0 rfl | exact HS.rd 1 rfl | exact HS.rd 2 rfl | exact HS.rd 3 rfl | exact HS.rd 4 rfl | exact HS.rd 5 rfl | exact HS.drew.old hv | exact HS.drew.rd 0 rfl | exact HS.drew.rd 1 rfl | exact HS.drew.rd 2 rfl | exact HS.drew.rd 3 rfl | exact HS.drew.rd 4 rfl | exact HS.drew.rd 5 rfl | refine Rd.alloc ?_ _)) (by repeat (first | exact HS.old hv | exact HS.rd 0 rfl | exact HS.rd 1 rfl | exact HS.rd 2 rfl | exact HS.rd 3 rfl | exact HS.rd 4 rfl | exact HS.rd 5 rfl | exact HS.drew.old hv | exact HS.drew.rd 0 rfl | exact HS.drew.rd 1 rfl | exact HS.drew.rd 2 rfl | exact HS.drew.rd 3 rfl | exact HS.drew.rd 4 rfl | exact HS.drew.rd 5 rfl | refine Rd.alloc ?_ _))).mono ?_; rintro e w1 ⟨rfl, hb⟩; (first | have H' := HS.of_below hb | have H' := HS.drew.of_below hb | have H' := (HS.box0 [_] _).of_below hb | have H' := ((HS.box0 [_] _).box0 [_] _).of_below hb | have H' := (HS.box0 [_] _).drew.of_below hb | have H' := (HS.alloc _).of_below hb | have H' := ((HS.alloc _).alloc _).of_below hb | have H' := (HS.alloc _).drew.of_below hb); clear HS; have HS := H'; clear H'; have F := HS.facts; simp only [Own.Facts, Ds.map, Ds.mapf, Own.Cells, World.size_alloc, List.cons_append, List.nil_append, List.eraseIdx_cons_succ, List.eraseIdx_cons_zero, List.eraseIdx_zero, List.tail_cons, Nat.zero_add] at F))
      go_wp2
      go_ret
      exact ⟨by rw [HU.out]; rfl, HS.below⟩
theorem coversC (xs ys : List Rn) : covers xs ys = (ys.all (within xs) && (ctxOk xs && ctxOk ys)) := by
  unfold covers
  cases hx : ctxOk xs
  · simp
  · cases hy : ctxOk ys
    · simp
    · rw [covers_uni ((ctxOk_nf xs).1 hx).1 ((ctxOk_nf ys).1 hy).1]; simp
end Go.Proofs.Ytgfgkbmebdaieaa
