/- Copies of replicas: the program's. Copies of states and replicas: the reference's. Flush: the reference's side. A state compared with an empty one, by the reference. Flush: the program's side. Flush: the reference's side, joined. -/
import Derived.Test.YtohgelmkagcimaaGreatFc
import Derived.Test.YtohgelmkagcimaaGreatZa
import Derived.Deep.RegionLaw
namespace Go.Proofs.YtohgelmkagcimaaGreat
set_option linter.unusedSimpArgs false
set_option linter.unusedVariables false
open Go.RowKit Go.Ow
attribute [local irreducible] wpQuiet
set_option maxRecDepth 100000
set_option maxHeartbeats 4000000 in
theorem replicaCopy (r : Rp) (a b c d : Value) (w : World) (h : RdR w r a b c d) (hn : RpN r 1048576) :
    Calls Tryz.prog 50 #[.agg #[.int .i64 r.id, a, b, c, d]] w fun e w' => ∃ A1 c1 A2 c2 A3 c3 A4 c4, e = .returned (.agg #[.int .i64 r.id, .slice A1 r.s.l.length c1, .slice A2 r.s.c.length c2, .slice A3 r.d.l.length c3, .slice A4 r.d.c.length c4]) ∧ Own w [.own (.slice A1 r.s.l.length c1) r.s.l, .own (.slice A2 r.s.c.length c2) r.s.c, .own (.slice A3 r.d.l.length c3) r.d.l, .own (.slice A4 r.d.c.length c4) r.d.c] w' := by
  have hsl := h.sl
  have hsc := h.sc
  have hdl := h.dl
  have hdc := h.dc
  obtain ⟨A1, c1, rfl, _, _⟩ := h.sl.val
  obtain ⟨A2, c2, rfl, _, _⟩ := h.sc.val
  obtain ⟨A3, c3, rfl, _, _⟩ := h.dl.val
  obtain ⟨A4, c4, rfl, _, _⟩ := h.dc.val
  have HN := Lib.hid hn
  clear hn h
  have HS := ((Own.start w).box [.int .i64 r.id, .slice A1 r.s.l.length c1, .slice A2 r.s.c.length c2, .slice A3 r.d.l.length c3, .slice A4 r.d.c.length c4] 38).box (b := w.heap.size + 1) [.int .i64 0, .slice none 0 0, .slice none 0 0, .slice none 0 0, .slice none 0 0] 38
  go_enter Tryz.func50, Tryz.ntmps50
  go_wp2
  go_region_held3 (fun w' => w'.cell? ⟨w.heap.size, 0, none⟩ = some (.int .i64 r.id) ∧ w'.cell? ⟨w.heap.size, 1, none⟩ = some (.slice A1 r.s.l.length c1) ∧ w'.cell? ⟨w.heap.size, 2, none⟩ = some (.slice A2 r.s.c.length c2) ∧ w'.cell? ⟨w.heap.size, 3, none⟩ = some (.slice A3 r.d.l.length c3) ∧ w'.cell? ⟨w.heap.size, 4, none⟩ = some (.slice A4 r.d.c.length c4)) (first | go_keep) (first | (go_at_call 95; refine (stateCopy r.s _ _ _ (by first | exact HS.old hsl | exact HS.drew.old hsl) (by first | exact HS.old hsc | exact HS.drew.old hsc) HN.out.1.1 HN.out.1.2.1 HN.out.1.2.2).mono ?_; rintro e w1 ⟨B1, e1, B2, e2, rfl, hs⟩; skip; (first | have H' := HS.call2 hs | have H' := HS.drew.call2 hs | have H' := (HS.box0 [_] _).call2 hs | have H' := ((HS.box0 [_] _).box0 [_] _).call2 hs | have H' := (HS.box0 [_] _).drew.call2 hs | have H' := (HS.alloc _).call2 hs | have H' := ((HS.alloc _).alloc _).call2 hs | have H' := (HS.alloc _).drew.call2 hs); clear HS; have HS := H'; clear H'; have F := HS.facts; simp only [Own.Facts, Own.Cells, World.size_alloc, List.cons_append, List.nil_append, List.eraseIdx_cons_succ, List.eraseIdx_cons_zero, List.eraseIdx_zero, List.tail_cons, Nat.zero_add] at F) | (go_at_call 95; refine (stateCopy r.d _ _ _ (by first | exact HS.old hdl | exact HS.drew.old hdl) (by first | exact HS.old hdc | exact HS.drew.old hdc) HN.out.2.1 HN.out.2.2.1 HN.out.2.2.2).mono ?_; rintro e w1 ⟨B3, e3, B4, e4, rfl, hs⟩; skip; (first | have H' := HS.call2 hs | have H' := HS.drew.call2 hs | have H' := (HS.box0 [_] _).call2 hs | have H' := ((HS.box0 [_] _).box0 [_] _).call2 hs | have H' := (HS.box0 [_] _).drew.call2 hs | have H' := (HS.alloc _).call2 hs | have H' := ((HS.alloc _).alloc _).call2 hs | have H' := (HS.alloc _).drew.call2 hs); clear HS; have HS := H'; clear H'; have F := HS.facts; simp only [Own.Facts, Own.Cells, World.size_alloc, List.cons_append, List.nil_append, List.eraseIdx_cons_succ, List.eraseIdx_cons_zero, List.eraseIdx_zero, List.tail_cons, Nat.zero_add] at F))
  go_wp2
  have H2 := (((((HS.pick 4 rfl).set 0 (.int .i64 r.id)).set 1 (.slice B1 r.s.l.length e1)).set 2 (.slice B2 r.s.c.length e2)).set 3 (.slice B3 r.d.l.length e3)).set 4 (.slice B4 r.d.c.length e4)
  have H3 := (((H2.drop.pick 4 rfl).drop.pick 3 rfl).pick 3 rfl)
  exact bodyPost_ret (v := .agg #[.int .i64 r.id, .slice B1 r.s.l.length e1, .slice B2 r.s.c.length e2, .slice B3 r.d.l.length e3, .slice B4 r.d.c.length e4]) (by simp [results, Tryz.results50, go_sem, *]) rfl ⟨_, _, _, _, _, _, _, _, rfl, H3⟩
def flOk (r : Rp) : Bool := rpOk r && decide (r.d.l.length + r.d.c.length ≠ 0)
def flRp (r : Rp) : Rp := if flOk r = true then ⟨r.id, r.s, ⟨[], []⟩⟩ else r
def flF (r : Rp) : Int × List UInt8 := if flOk r = true then (3, (psR r.d).1) else (0, [])
end Go.Proofs.YtohgelmkagcimaaGreat
namespace Go.Proofs.YtohgelmkagcimaaGreat
set_option linter.unusedSimpArgs false
set_option linter.unusedVariables false
open Go.RowKit Go.Ow
attribute [local irreducible] wpQuiet
set_option maxRecDepth 100000
theorem l3Path (xs : List ByteArray) (v : Value) (w : World) (hv : Rd w v xs) (hn : xs.length ≤ 1048576) : Calls Tryz.prog 147 #[v] w fun e w' => ∃ A c, e = .returned (.slice A xs.length c) ∧ Own w [.own (.slice A xs.length c) xs] w' := by
  obtain ⟨A, c, rfl, hc, hl⟩ := hv.val
  have HL := (Own.start w).lit ([] : List ByteArray) #[] 9 rfl rfl (by simp)
  go_enter Tryz.func147, Tryz.ntmps147
  go_wp2_with (refine wp_app2 (α := ByteArray) rfl _ _ 57 rfl (by kernel_rfl) _ _ HL rfl _ _ rfl (HL.old hv) (by show (0 + _) * 16 ≤ _; omega) (by show 0 + _ ≤ _; omega) ?_; clear HL; intro v2 q w2 hq hql H2)
  obtain ⟨A5, c5, rfl, _, _⟩ := (H2.rd 0 rfl).val
  have HQ := Lib.hid (show q = xs by rw [hq.out]; rfl)
  go_ret
  exact ⟨A5, c5, by rw [← HQ.out]; rfl, by rw [← HQ.out]; exact H2⟩
theorem l3Leaf (zp : List ByteArray) (zf : Bool) (zr zd : Int) (zv : ByteArray) (v : Value) (w : World) (hv : Rd w v zp) (hn : zp.length ≤ 1048576) : Calls Tryz.prog 112 #[.agg #[v, .bool zf, .int .i64 zr, .int .i64 zd, .string zv]] w fun e w' => ∃ A c, e = .returned (.agg #[.slice A zp.length c, .bool zf, .int .i64 zr, .int .i64 zd, .string zv]) ∧ Own w [.own (.slice A zp.length c) zp] w' := by
  obtain ⟨A, c, rfl, hc, hl⟩ := hv.val
  have HS := ((Own.start w).box [.slice A zp.length c, .bool zf, .int .i64 zr, .int .i64 zd, .string zv] 103).box (b := w.heap.size + 1) [.slice none 0 0, .bool false, .int .i64 0, .int .i64 0, .string ByteArray.empty] 103
  go_enter Tryz.func112, Tryz.ntmps112
  go_wp2_with fail
  refine (l3Path zp _ _ (HS.old hv) hn).mono ?_
  rintro e w1 ⟨A5, c5, rfl, hs⟩
  replace HS := HS.call1 hs
  clear hs
  have F := HS.facts; simp only [Own.Facts, Own.Cells, World.size_alloc, List.cons_append, List.nil_append, List.eraseIdx_cons_succ, List.eraseIdx_cons_zero, List.eraseIdx_zero, List.tail_cons, Nat.zero_add] at F
  go_wp2
  have H2 := ((((((HS.pick 2 rfl).set 0 (.slice A5 zp.length c5)).pick 2 rfl).set 0 (.slice A5 zp.length c5)).set 1 (.bool zf)).set 2 (.int .i64 zr)).set 3 (.int .i64 zd)
  have H3 := ((H2.set 4 (.string zv)).drop.drop)
  exact bodyPost_ret (v := .agg #[.slice A5 zp.length c5, .bool zf, .int .i64 zr, .int .i64 zd, .string zv]) (by simp [results, Tryz.results112, go_sem, *]) rfl ⟨_, _, rfl, H3⟩
theorem own_end {W w : World} {a : Ds} {L : List Ds} (h : Own W (a :: L) w) : Own W (L ++ [a]) w := h.perm (List.perm_append_comm (l₁ := [a]))
theorem own_end2 {W w : World} {r a : Ds} {L : List Ds} (h : Own W (r :: a :: L) w) : Own W (r :: (L ++ [a])) w := h.perm (List.Perm.cons _ (List.perm_append_comm (l₁ := [a])))
set_option maxHeartbeats 8000000 in
theorem l3Copy (s : St) (v1 v2 : Value) (w : World) (h1 : Rd w v1 s.l) (h2 : Rd w v2 s.c) (hn : s.l.length ≤ 1048576) (hp : ∀ y ∈ s.l, y.p.length ≤ 1048576) (hc : s.c.length ≤ 1048576) :
    Calls Tryz.prog 93 #[.agg #[v1, v2]] w fun e w' => ∃ A1 c1 A2 c2, e = .returned (.agg #[.slice A1 s.l.length c1, .slice A2 s.c.length c2]) ∧ Own w [.own (.slice A1 s.l.length c1) s.l, .own (.slice A2 s.c.length c2) s.c] w' := by
  obtain ⟨l, c⟩ := s
  simp only at h1 h2 hn hp hc ⊢
  obtain ⟨zs, rfl, hat, hpf⟩ := rd_pf h1
  simp only [List.length_map] at hn ⊢
  have HP := Lib.hid hp
  have HAT := Lib.hid hat
  clear h1 hp hat
  obtain ⟨A1, c1, rfl, _, _⟩ := hpf.val
  obtain ⟨A2, c2, rfl, _, _⟩ := h2.val
  have HS := (((((Own.start w).box [.slice A1 zs.length c1, .slice A2 c.length c2] 36).box (b := w.heap.size + 1) [.slice none 0 0, .slice none 0 0] 36).lit ([] : List Pf) #[] 103 rfl rfl (by simp)).lit ([] : List Rn) #[] 119 rfl rfl (by simp))
  simp only [World.size_alloc] at HS
  have HB := HS.box (b := w.heap.size + 1 + 1 + 1 + 1) [.slice (some ⟨w.heap.size + 1 + 1, 0, none⟩) 0 0, .slice (some ⟨w.heap.size + 1 + 1 + 1, 0, none⟩) 0 0] 36 (by simp only [World.size_alloc])
  have HS := HB.pick 2 rfl
  clear HB
  simp only [List.eraseIdx_cons_succ, List.eraseIdx_cons_zero] at HS
  go_enter Tryz.func93, Tryz.ntmps93
  go_wp2
  go_loopw [4] (fun i wr => ∃ (k : Nat) (ps : List Pf) (u : Value), k ≤ zs.length ∧ i = .int .i64 k ∧ ps.length = k ∧ Hid (ps.map (·.l) = (zs.take k).map (·.l)) ∧ Own w (.own u ps :: .box (w.heap.size + 1 + 1 + 1 + 1) 36 [u, .slice (some ⟨w.heap.size + 1 + 1 + 1, 0, none⟩) 0 0] :: .own (.slice (some ⟨w.heap.size + 1 + 1 + 1, 0, none⟩) 0 0) ([] : List Rn) :: .box (w.heap.size + 1) 36 [.slice none 0 0, .slice none 0 0] :: .box w.heap.size 36 [.slice A1 zs.length c1, .slice A2 c.length c2] :: ps.map pown) wr) (fun i _ => zs.length - (intOf i).toNat)
  case atStart => exact ⟨0, [], _, by omega, rfl, rfl, Lib.hid (by simp), HS⟩
  case round =>
    obtain ⟨k, ps, u, hk, hki, hpl, HPM, HS'⟩ := hrel
    subst hpl
    subst hki
    clear HS
    have HS := HS'
    clear HS'
    obtain ⟨Au, cu, rfl, _, _⟩ := (HS.rd 0 rfl).val
    have F := HS.facts; simp only [Own.Facts, Own.Cells, World.size_alloc, List.cons_append, List.nil_append, List.eraseIdx_cons_succ, List.eraseIdx_cons_zero, List.eraseIdx_zero, List.tail_cons, Nat.zero_add] at F
    by_cases hlt : ps.length < zs.length
    · obtain ⟨b1, o1, rfl⟩ := hpf.fix (by omega)
      have hcell := Pf.cells (HS.old hpf) ps.length hlt
      obtain ⟨z, hz⟩ : ∃ z, zs[ps.length] = z := ⟨_, rfl⟩
      have hat := HAT.out zs[ps.length] (List.getElem_mem hlt)
      have hpz := HP.out zs[ps.length].l (List.mem_map.2 ⟨_, List.getElem_mem hlt, rfl⟩)
      rw [hz] at hat hpz hcell
      have HMAP := Lib.hid (fun x : Pf => fun hx : x.l = z.l => show (ps ++ [x]).map (·.l) = (zs.take (ps.length + 1)).map (·.l) by rw [List.map_append, HPM.out, List.take_succ_eq_append_getElem hlt, List.map_append, hz]; simp [hx])
      clear hz
      obtain ⟨⟨Az, nz, cz⟩, ⟨zp, zf, zr, zd, zv⟩⟩ := z
      obtain rfl : nz = zp.length := hat.len
      simp only [Pf.at_, Sv.v] at hat hpz hcell
      obtain ⟨PW, hPW⟩ : ∃ PW, ps.map pown = PW := ⟨_, rfl⟩
      rw [hPW] at HS
      have HPW := Lib.hid hPW
      clear hPW F
      have F := HS.facts; simp only [Own.Facts, Own.Cells, World.size_alloc, List.cons_append, List.nil_append, List.eraseIdx_cons_succ, List.eraseIdx_cons_zero, List.eraseIdx_zero, List.tail_cons, Nat.zero_add] at F
      go_wp2
      go_region_law (first | ((fail_if_success have hh := HL); go_wp2_with ((go_at_call 112; refine (l3Leaf zp zf zr zd zv _ _ (by first | exact HS.old hat | exact HS.drew.old hat) hpz).mono ?_; rintro e w1 ⟨A5, c5, rfl, hs⟩; skip; (first | have H' := HS.call1 hs | have H' := HS.drew.call1 hs | have H' := (HS.box0 [_] _).call1 hs | have H' := ((HS.box0 [_] _).box0 [_] _).call1 hs | have H' := (HS.box0 [_] _).drew.call1 hs | have H' := (HS.alloc _).call1 hs | have H' := ((HS.alloc _).alloc _).call1 hs | have H' := (HS.alloc _).drew.call1 hs); clear HS; have HS := H'; clear H'; have F := HS.facts; simp only [Own.Facts, Own.Cells, World.size_alloc, List.cons_append, List.nil_append, List.eraseIdx_cons_succ, List.eraseIdx_cons_zero, List.eraseIdx_zero, List.tail_cons, Nat.zero_add] at F; try (have HL := (HS.lit [(⟨⟨A5, zp.length, c5⟩, ⟨zp, zf, zr, zd, zv⟩⟩ : Pf)] #[.slice A5 zp.length c5, .bool zf, .int .i64 zr, .int .i64 zd, .string zv] 103 rfl rfl (by simp)).pick 2 rfl; simp only [List.cons_append, List.nil_append, List.eraseIdx_cons_succ, List.eraseIdx_cons_zero] at HL)))) | (refine hp_app (α := Pf) _ _ 31 rfl (by rfl) (by kernel_rfl) _ _ HL rfl _ _ rfl (HL.rd 1 rfl) (by show (_ + 1) * 64 ≤ _; omega) (by show _ + 1 ≤ _; omega) ?_; intro v3 w3 HS3; obtain ⟨A3, c3, rfl, _, _⟩ := (HS3.rd 0 rfl).val; have F3 := HS3.facts; simp only [Own.Facts, Own.Cells, Nat.zero_add] at F3))
      all_goals
        have H4 := ((HS3.pick 1 rfl).drop.pick 2 rfl).set 0 (.slice A3 (ps ++ [(⟨⟨A5, zp.length, c5⟩, ⟨zp, zf, zr, zd, zv⟩⟩ : Pf)]).length c3)
        simp only [List.eraseIdx_cons_succ, List.eraseIdx_cons_zero, List.set_cons_zero] at H4
        have H5 := (H4.pick 1 rfl).pick 2 rfl
        simp only [List.eraseIdx_cons_succ, List.eraseIdx_cons_zero] at H5
        have H6 := own_end H5
        simp only [List.length_append, List.length_cons, List.length_nil, Nat.zero_add, List.cons_append] at H6
        have e : PW ++ [.own (.slice A5 zp.length c5) zp] = (ps ++ [(⟨⟨A5, zp.length, c5⟩, ⟨zp, zf, zr, zd, zv⟩⟩ : Pf)]).map pown := by rw [List.map_append, HPW.out]; rfl
        rw [e] at H6
        clear HS3 H4 H5 F3 HL F HS hcell e
        go_wp2
        go_roundw
        case rel => exact ⟨ps.length + 1, ps ++ [(⟨⟨A5, zp.length, c5⟩, ⟨zp, zf, zr, zd, zv⟩⟩ : Pf)], _, by omega, by go_num, by simp, Lib.hid (HMAP.out _ rfl), H6⟩
        case measure => simp [intOf]; omega
    · have hlz : ps.length = zs.length := by omega
      rw [hlz] at HS
      have hpm := HPM.out
      rw [hlz, List.take_length] at hpm
      have HPM2 := Lib.hid hpm
      clear hpm F HPM hlz
      have F := HS.facts; simp only [Own.Facts, Own.Cells, World.size_alloc, List.cons_append, List.nil_append, List.eraseIdx_cons_succ, List.eraseIdx_cons_zero, List.eraseIdx_zero, List.tail_cons, Nat.zero_add] at F
      have HL2 := HS.pick 2 rfl
      simp only [List.eraseIdx_cons_succ, List.eraseIdx_cons_zero] at HL2
      go_wp2_with (refine wp_app2 (α := Rn) rfl _ _ 32 rfl (by kernel_rfl) _ _ HL2 rfl _ _ rfl (HL2.old h2) (by show (0 + _) * 24 ≤ _; omega) (by show 0 + _ ≤ _; omega) ?_; clear HL2 HS F; intro v5 q5 w5 hq5 hql5 H5; obtain ⟨A6, c6, rfl, _, _⟩ := (H5.rd 0 rfl).val; have F5 := H5.facts; simp only [Own.Facts, Own.Cells, Nat.zero_add] at F5)
      have HQ : q5 = c := by rw [hq5.out]; rfl
      have H6 := ((((H5.pick 2 rfl).set 1 (.slice A6 q5.length c6)).pick 3 rfl).set 0 (.slice Au zs.length cu)).set 1 (.slice A6 q5.length c6)
      simp only [List.eraseIdx_cons_succ, List.eraseIdx_cons_zero, List.set_cons_zero, List.set_cons_succ] at H6
      have H7 := (((H6.drop.drop.pick 2 rfl).drop).pick 1 rfl)
      simp only [List.eraseIdx_cons_succ, List.eraseIdx_cons_zero] at H7
      have H8 := (own_end2 H7).deepen
      rw [HPM2.out] at H8
      subst HQ
      exact bodyPost_ret (v := .agg #[.slice Au zs.length cu, .slice A6 q5.length c6]) (by simp [results, Tryz.results93, go_sem, *]) rfl ⟨_, _, _, _, rfl, H8⟩
end Go.Proofs.YtohgelmkagcimaaGreat
namespace Go.Proofs.YtohgelmkagcimaaGreat
set_option linter.unusedSimpArgs false
set_option linter.unusedVariables false
open Go.RowKit Go.Ow
attribute [local irreducible] wpQuiet
set_option maxRecDepth 100000
set_option maxHeartbeats 4000000 in
theorem l6Copy (r : Rp) (a b c d : Value) (w : World) (h : RdR w r a b c d) (hn : RpN r 1048576) :
    Calls Tryz.prog 48 #[.agg #[.int .i64 r.id, a, b, c, d]] w fun e w' => ∃ A1 c1 A2 c2 A3 c3 A4 c4, e = .returned (.agg #[.int .i64 r.id, .slice A1 r.s.l.length c1, .slice A2 r.s.c.length c2, .slice A3 r.d.l.length c3, .slice A4 r.d.c.length c4]) ∧ Own w [.own (.slice A1 r.s.l.length c1) r.s.l, .own (.slice A2 r.s.c.length c2) r.s.c, .own (.slice A3 r.d.l.length c3) r.d.l, .own (.slice A4 r.d.c.length c4) r.d.c] w' := by
  have hsl := h.sl
  have hsc := h.sc
  have hdl := h.dl
  have hdc := h.dc
  obtain ⟨A1, c1, rfl, _, _⟩ := h.sl.val
  obtain ⟨A2, c2, rfl, _, _⟩ := h.sc.val
  obtain ⟨A3, c3, rfl, _, _⟩ := h.dl.val
  obtain ⟨A4, c4, rfl, _, _⟩ := h.dc.val
  have HN := Lib.hid hn
  clear hn h
  have HS := ((Own.start w).box [.int .i64 r.id, .slice A1 r.s.l.length c1, .slice A2 r.s.c.length c2, .slice A3 r.d.l.length c3, .slice A4 r.d.c.length c4] 38).box (b := w.heap.size + 1) [.int .i64 0, .slice none 0 0, .slice none 0 0, .slice none 0 0, .slice none 0 0] 38
  go_enter Tryz.func48, Tryz.ntmps48
  go_wp2
  go_region_held3 (fun w' => w'.cell? ⟨w.heap.size, 0, none⟩ = some (.int .i64 r.id) ∧ w'.cell? ⟨w.heap.size, 1, none⟩ = some (.slice A1 r.s.l.length c1) ∧ w'.cell? ⟨w.heap.size, 2, none⟩ = some (.slice A2 r.s.c.length c2) ∧ w'.cell? ⟨w.heap.size, 3, none⟩ = some (.slice A3 r.d.l.length c3) ∧ w'.cell? ⟨w.heap.size, 4, none⟩ = some (.slice A4 r.d.c.length c4)) (first | go_keep) (first | (go_at_call 93; refine (l3Copy r.s _ _ _ (by first | exact HS.old hsl | exact HS.drew.old hsl) (by first | exact HS.old hsc | exact HS.drew.old hsc) HN.out.1.1 HN.out.1.2.1 HN.out.1.2.2).mono ?_; rintro e w1 ⟨B1, e1, B2, e2, rfl, hs⟩; skip; (first | have H' := HS.call2 hs | have H' := HS.drew.call2 hs | have H' := (HS.box0 [_] _).call2 hs | have H' := ((HS.box0 [_] _).box0 [_] _).call2 hs | have H' := (HS.box0 [_] _).drew.call2 hs | have H' := (HS.alloc _).call2 hs | have H' := ((HS.alloc _).alloc _).call2 hs | have H' := (HS.alloc _).drew.call2 hs); clear HS; have HS := H'; clear H'; have F := HS.facts; simp only [Own.Facts, Own.Cells, World.size_alloc, List.cons_append, List.nil_append, List.eraseIdx_cons_succ, List.eraseIdx_cons_zero, List.eraseIdx_zero, List.tail_cons, Nat.zero_add] at F) | (go_at_call 93; refine (l3Copy r.d _ _ _ (by first | exact HS.old hdl | exact HS.drew.old hdl) (by first | exact HS.old hdc | exact HS.drew.old hdc) HN.out.2.1 HN.out.2.2.1 HN.out.2.2.2).mono ?_; rintro e w1 ⟨B3, e3, B4, e4, rfl, hs⟩; skip; (first | have H' := HS.call2 hs | have H' := HS.drew.call2 hs | have H' := (HS.box0 [_] _).call2 hs | have H' := ((HS.box0 [_] _).box0 [_] _).call2 hs | have H' := (HS.box0 [_] _).drew.call2 hs | have H' := (HS.alloc _).call2 hs | have H' := ((HS.alloc _).alloc _).call2 hs | have H' := (HS.alloc _).drew.call2 hs); clear HS; have HS := H'; clear H'; have F := HS.facts; simp only [Own.Facts, Own.Cells, World.size_alloc, List.cons_append, List.nil_append, List.eraseIdx_cons_succ, List.eraseIdx_cons_zero, List.eraseIdx_zero, List.tail_cons, Nat.zero_add] at F))
  go_wp2
  have H2 := (((((HS.pick 4 rfl).set 0 (.int .i64 r.id)).set 1 (.slice B1 r.s.l.length e1)).set 2 (.slice B2 r.s.c.length e2)).set 3 (.slice B3 r.d.l.length e3)).set 4 (.slice B4 r.d.c.length e4)
  have H3 := (((H2.drop.pick 4 rfl).drop.pick 3 rfl).pick 3 rfl)
  exact bodyPost_ret (v := .agg #[.int .i64 r.id, .slice B1 r.s.l.length e1, .slice B2 r.s.c.length e2, .slice B3 r.d.l.length e3, .slice B4 r.d.c.length e4]) (by simp [results, Tryz.results48, go_sem, *]) rfl ⟨_, _, _, _, _, _, _, _, rfl, H3⟩
theorem l6Empty (w : World) : Calls Tryz.prog 47 #[] w fun e w' => ∃ A1 A2, e = .returned (.agg #[.slice A1 0 0, .slice A2 0 0]) ∧ Own w [.own (.slice A1 0 0) ([] : List Lf), .own (.slice A2 0 0) ([] : List Rn)] w' := by
  have HS := ((((Own.start w).box [.slice (some ⟨w.heap.size + 1, 0, none⟩) 0 0, .slice (some ⟨w.heap.size + 1 + 1, 0, none⟩) 0 0] 36).lit ([] : List Pf) #[] 103 rfl rfl (by simp)).lit ([] : List Rn) #[] 119 rfl rfl (by simp))
  simp only [World.size_alloc] at HS
  have HX := Own.deepen (zs := []) (HS.pick 1 rfl)
  simp only [List.eraseIdx_cons_succ, List.eraseIdx_cons_zero, List.map_nil] at HX
  go_enter Tryz.func47, Tryz.ntmps47
  go_wp2
  have H2 := (HX.pick 2 rfl).drop
  exact bodyPost_ret (v := .agg #[.slice (some ⟨w.heap.size + 1, 0, none⟩) 0 0, .slice (some ⟨w.heap.size + 1 + 1, 0, none⟩) 0 0]) (by simp [results, Tryz.results47, go_sem, *]) rfl ⟨_, _, rfl, H2⟩
end Go.Proofs.YtohgelmkagcimaaGreat
namespace Go.Proofs.YtohgelmkagcimaaGreat
set_option linter.unusedSimpArgs false
set_option linter.unusedVariables false
open Go.RowKit Go.Ow
attribute [local irreducible] wpQuiet
set_option maxRecDepth 100000
theorem l3Equal0 (s : St) (v1 v2 : Value) (A B : Option Addr) (w : World) (h1 : Rd w v1 s.l) (h2 : Rd w v2 s.c) :
    Calls Tryz.prog 46 #[.agg #[v1, v2], .agg #[.slice A 0 0, .slice B 0 0]] w fun e w' => e = .returned (.bool (decide (s.l.length + s.c.length = 0))) ∧ Below w.heap.size w w' := by
  obtain ⟨A1, c1, rfl, _, _⟩ := h1.val
  obtain ⟨A2, c2, rfl, _, _⟩ := h2.val
  have HS := ((Own.start w).box [.slice A1 s.l.length c1, .slice A2 s.c.length c2] 36).box (b := w.heap.size + 1) [.slice A 0 0, .slice B 0 0] 36
  clear h1 h2
  obtain ⟨n, hn⟩ : ∃ n, s.l.length = n := ⟨_, rfl⟩
  obtain ⟨m, hm⟩ : ∃ m, s.c.length = m := ⟨_, rfl⟩
  rw [hn, hm] at HS
  rw [hn, hm]
  clear hn hm
  by_cases hl : n = 0
  · by_cases hc : m = 0
    · subst hl hc
      have hd : decide (0 + 0 = 0) = true := rfl
      rw [hd]
      go_enter Tryz.func46, Tryz.ntmps46
      go_wp2
      go_loopw [5] (fun i wr => i = .int .i64 0 ∧ Own w [.box (w.heap.size + 1) 36 [.slice A 0 0, .slice B 0 0], .box w.heap.size 36 [.slice A1 0 c1, .slice A2 0 c2]] wr) (fun _ _ => 0)
      case atStart => exact ⟨rfl, HS⟩
      case round =>
        obtain ⟨rfl, HS'⟩ := hrel
        clear HS
        have HS := HS'
        clear HS'
        have F := HS.facts; simp only [Own.Facts, Own.Cells, World.size_alloc, List.cons_append, List.nil_append, List.eraseIdx_cons_succ, List.eraseIdx_cons_zero, List.eraseIdx_zero, List.tail_cons, Nat.zero_add] at F
        go_wp2
        go_loopw [6] (fun i wr => i = .int .i64 0 ∧ Own w [.box (w.heap.size + 1) 36 [.slice A 0 0, .slice B 0 0], .box w.heap.size 36 [.slice A1 0 c1, .slice A2 0 c2]] wr) (fun _ _ => 0)
        case atStart => exact ⟨rfl, HS⟩
        case round =>
          obtain ⟨rfl, HS'⟩ := hrel
          clear HS F
          have HS := HS'
          clear HS'
          have F := HS.facts; simp only [Own.Facts, Own.Cells, World.size_alloc, List.cons_append, List.nil_append, List.eraseIdx_cons_succ, List.eraseIdx_cons_zero, List.eraseIdx_zero, List.tail_cons, Nat.zero_add] at F
          go_wp2
          go_ret
          exact ⟨rfl, HS.below⟩
    · subst hl
      have hd : decide (0 + m = 0) = false := by simp [hc]
      rw [hd]
      have hi : ¬ ((m : Int) = 0) := by omega
      go_enter Tryz.func46, Tryz.ntmps46
      go_wp2
      go_ret
      exact ⟨rfl, HS.below⟩
  · have hd : decide (n + m = 0) = false := by simp [hl]
    rw [hd]
    have hi : ¬ ((n : Int) = 0) := by omega
    go_enter Tryz.func46, Tryz.ntmps46
    go_wp2
    go_ret
    exact ⟨rfl, HS.below⟩
end Go.Proofs.YtohgelmkagcimaaGreat
namespace Go.Proofs.YtohgelmkagcimaaGreat
set_option linter.unusedSimpArgs false
set_option linter.unusedVariables false
open Go.RowKit Go.Ow
attribute [local irreducible] wpQuiet
set_option maxRecDepth 100000
set_option maxHeartbeats 4000000 in
theorem implFlush (r : Rp) (a b c d : Value) (w : World) (h : RdR w r a b c d) (hw : RpW r) (hn : RpN r 1048576) :
    Calls Tryz.prog 13 #[.agg #[.int .i64 r.id, a, b, c, d]] w fun e w' => ∃ a b c d v, e = .returned (.tuple #[.agg #[.int .i64 r.id, a, b, c, d], .agg #[.int .i64 (flF r).1, v], .bool (flOk r)]) ∧ Own w [.own v (flF r).2, .own a (flRp r).s.l, .own b (flRp r).s.c, .own c (flRp r).d.l, .own d (flRp r).d.c] w' := by
  have H := Lib.hid h
  obtain ⟨A1, c1, rfl, _, _⟩ := h.sl.val
  obtain ⟨A2, c2, rfl, _, _⟩ := h.sc.val
  obtain ⟨A3, c3, rfl, _, _⟩ := h.dl.val
  obtain ⟨A4, c4, rfl, _, _⟩ := h.dc.val
  have HW := Lib.hid hw
  have HN := Lib.hid hn
  have hb1 := hn.2.1
  have hb2 := hn.2.2.2
  clear hw h hn
  have HS := ((((Own.start w).box [.int .i64 r.id, .slice A1 r.s.l.length c1, .slice A2 r.s.c.length c2, .slice A3 r.d.l.length c3, .slice A4 r.d.c.length c4] 38).box (b := w.heap.size + 1) [.int .i64 0, .slice none 0 0, .slice none 0 0, .slice none 0 0, .slice none 0 0] 38).box (b := w.heap.size + 1 + 1) [.int .i64 0, .slice none 0 0] 41)
  go_enter Tryz.func13, Tryz.ntmps13
  go_wp2_with fail
  refine (replicaCopy r _ _ _ _ _ (H.out.old HS) HN.out).mono ?_
  rintro e w1 ⟨B1, e1, B2, e2, B3, e3, B4, e4, rfl, hs⟩
  replace HS := HS.call hs
  simp only [List.cons_append, List.nil_append] at HS
  replace HS := HS.box (b := w1.heap.size) [.int .i64 r.id, .slice B1 r.s.l.length e1, .slice B2 r.s.c.length e2, .slice B3 r.d.l.length e3, .slice B4 r.d.c.length e4] 38
  clear hs
  have F := HS.facts; simp only [Own.Facts, Own.Cells, World.size_alloc, List.cons_append, List.nil_append, List.eraseIdx_cons_succ, List.eraseIdx_cons_zero, List.eraseIdx_zero, List.tail_cons, Nat.zero_add] at F
  cases hx : rpOk r
  · have hfl : flOk r = false := by unfold flOk; rw [hx]; rfl
    have HR := Lib.hid (show flRp r = r ∧ flF r = (0, []) by unfold flRp flF; rw [if_neg (by simp [hfl]), if_neg (by simp [hfl])]; exact ⟨rfl, rfl⟩)
    go_wp2_with fail
    refine (implReplicaOk r _ _ _ _ _ (H.out.old HS) HW.out HN.out).mono ?_; rintro e w2 ⟨rfl, hb⟩; (first | have H' := HS.of_below hb | have H' := HS.drew.of_below hb | have H' := (HS.box0 [_] _).of_below hb | have H' := ((HS.box0 [_] _).box0 [_] _).of_below hb | have H' := (HS.alloc _).of_below hb | have H' := ((HS.alloc _).alloc _).of_below hb); clear HS; have HS := H'; clear H'; have F := HS.facts; simp only [Own.Facts, Own.Cells, World.size_alloc, List.cons_append, List.nil_append, List.eraseIdx_cons_succ, List.eraseIdx_cons_zero, List.eraseIdx_zero, List.tail_cons, Nat.zero_add] at F
    rw [hx]
    go_wp2
    have H2 := (((((HS.pick 6 rfl).set 0 (.int .i64 r.id)).set 1 (.slice B1 r.s.l.length e1)).set 2 (.slice B2 r.s.c.length e2)).set 3 (.slice B3 r.d.l.length e3)).set 4 (.slice B4 r.d.c.length e4)
    have H3 := ((((H2.drop.pick 5 rfl).set 0 (.int .i64 0)).set 1 (.slice none 0 0)).drop.drop.pick 4 rfl).drop.nil (α := UInt8)
    exact bodyPost_ret (v := .tuple #[.agg #[.int .i64 r.id, .slice B1 r.s.l.length e1, .slice B2 r.s.c.length e2, .slice B3 r.d.l.length e3, .slice B4 r.d.c.length e4], .agg #[.int .i64 0, .slice none 0 0], .bool false]) (by simp [results, Tryz.results13, go_sem, *]) rfl ⟨_, _, _, _, _, by rw [hfl, HR.out.2], by rw [HR.out.1, HR.out.2]; exact H3⟩
  · by_cases hz : r.d.l.length + r.d.c.length = 0
    · have hfl : flOk r = false := by unfold flOk; rw [hx]; simpa using hz
      have HR := Lib.hid (show flRp r = r ∧ flF r = (0, []) by unfold flRp flF; rw [if_neg (by simp [hfl]), if_neg (by simp [hfl])]; exact ⟨rfl, rfl⟩)
      have hzi : (r.d.l.length : Int) + (r.d.c.length : Int) = 0 := by omega
      go_wp2_with fail
      refine (implReplicaOk r _ _ _ _ _ (H.out.old HS) HW.out HN.out).mono ?_; rintro e w2 ⟨rfl, hb⟩; (first | have H' := HS.of_below hb | have H' := HS.drew.of_below hb | have H' := (HS.box0 [_] _).of_below hb | have H' := ((HS.box0 [_] _).box0 [_] _).of_below hb | have H' := (HS.alloc _).of_below hb | have H' := ((HS.alloc _).alloc _).of_below hb); clear HS; have HS := H'; clear H'; have F := HS.facts; simp only [Own.Facts, Own.Cells, World.size_alloc, List.cons_append, List.nil_append, List.eraseIdx_cons_succ, List.eraseIdx_cons_zero, List.eraseIdx_zero, List.tail_cons, Nat.zero_add] at F
      rw [hx]
      go_wp2
      have H2 := (((((HS.pick 6 rfl).set 0 (.int .i64 r.id)).set 1 (.slice B1 r.s.l.length e1)).set 2 (.slice B2 r.s.c.length e2)).set 3 (.slice B3 r.d.l.length e3)).set 4 (.slice B4 r.d.c.length e4)
      have H3 := ((((H2.drop.pick 5 rfl).set 0 (.int .i64 0)).set 1 (.slice none 0 0)).drop.drop.pick 4 rfl).drop.nil (α := UInt8)
      exact bodyPost_ret (v := .tuple #[.agg #[.int .i64 r.id, .slice B1 r.s.l.length e1, .slice B2 r.s.c.length e2, .slice B3 r.d.l.length e3, .slice B4 r.d.c.length e4], .agg #[.int .i64 0, .slice none 0 0], .bool false]) (by simp [results, Tryz.results13, go_sem, *]) rfl ⟨_, _, _, _, _, by rw [hfl, HR.out.2], by rw [HR.out.1, HR.out.2]; exact H3⟩
    · have hfl : flOk r = true := by unfold flOk; rw [hx]; simp only [Bool.true_and, decide_eq_true_eq]; exact hz
      obtain ⟨T, hT⟩ : ∃ T, (psR r.d).1 = T := ⟨_, rfl⟩
      obtain ⟨kc, hkc⟩ : ∃ k, (psR r.d).2 = k := ⟨_, rfl⟩
      have HT := Lib.hid (And.intro hT hkc)
      have HR := Lib.hid (show flRp r = ⟨r.id, r.s, ⟨[], []⟩⟩ ∧ flF r = (3, T) by unfold flRp flF; rw [if_pos hfl, if_pos hfl, hT]; exact ⟨rfl, rfl⟩)
      clear hT hkc
      have hzi : ¬ ((r.d.l.length : Int) + (r.d.c.length : Int) = 0) := by omega
      go_wp2_with fail
      refine (implReplicaOk r _ _ _ _ _ (H.out.old HS) HW.out HN.out).mono ?_; rintro e w2 ⟨rfl, hb⟩; (first | have H' := HS.of_below hb | have H' := HS.drew.of_below hb | have H' := (HS.box0 [_] _).of_below hb | have H' := ((HS.box0 [_] _).box0 [_] _).of_below hb | have H' := (HS.alloc _).of_below hb | have H' := ((HS.alloc _).alloc _).of_below hb); clear HS; have HS := H'; clear H'; have F := HS.facts; simp only [Own.Facts, Own.Cells, World.size_alloc, List.cons_append, List.nil_append, List.eraseIdx_cons_succ, List.eraseIdx_cons_zero, List.eraseIdx_zero, List.tail_cons, Nat.zero_add] at F
      rw [hx]
      go_wp2_with fail
      refine (show Calls Tryz.prog 52 _ _ (fun e w' => ∃ v', e = .returned (.tuple #[v', .int .i64 (kc : Nat)]) ∧ Own _ [.own v' T] w') from by have h := implPutState r.d _ _ _ (HS.old H.out.dl) (HS.old H.out.dc) HW.out.2 HN.out.2.2.2; rw [HT.out.1, HT.out.2] at h; exact h).mono ?_
      rintro e w3 ⟨v', rfl, hs⟩
      obtain ⟨A5, c5, rfl, _, _⟩ := (hs.rd 0 rfl).val
      replace HS := HS.call1 hs
      clear hs F
      have F := HS.facts; simp only [Own.Facts, Own.Cells, World.size_alloc, List.cons_append, List.nil_append, List.eraseIdx_cons_succ, List.eraseIdx_cons_zero, List.eraseIdx_zero, List.tail_cons, Nat.zero_add] at F
      go_wp2
      have H2 := ((((HS.pick 1 rfl).set 3 (.slice none 0 0)).set 4 (.slice none 0 0)).pick 7 rfl)
      have H3 := (((((H2.set 0 (.int .i64 r.id)).set 1 (.slice B1 r.s.l.length e1)).set 2 (.slice B2 r.s.c.length e2)).set 3 (.slice none 0 0)).set 4 (.slice none 0 0)).drop
      have H4 := (((H3.pick 6 rfl).set 0 (.int .i64 3)).set 1 (.slice A5 T.length c5)).drop.drop
      have H5 := (((H4.pick 5 rfl).drop.pick 4 rfl).drop.pick 3 rfl).drop
      have H6 := ((((H5.nil (α := Rn)).nil (α := Lf)).pick 4 rfl).pick 4 rfl).pick 4 rfl
      exact bodyPost_ret (v := .tuple #[.agg #[.int .i64 r.id, .slice B1 r.s.l.length e1, .slice B2 r.s.c.length e2, .slice none 0 0, .slice none 0 0], .agg #[.int .i64 3, .slice A5 T.length c5], .bool true]) (by simp [results, Tryz.results13, go_sem, *]) rfl ⟨_, _, _, _, _, by rw [hfl, HR.out.2], by rw [HR.out.1, HR.out.2]; exact H6⟩
end Go.Proofs.YtohgelmkagcimaaGreat
namespace Go.Proofs.YtohgelmkagcimaaGreat
set_option linter.unusedSimpArgs false
set_option linter.unusedVariables false
open Go.RowKit Go.Ow
attribute [local irreducible] wpQuiet
set_option maxRecDepth 100000
theorem specOkB {r : Rp} {k : Bool} (hx : rpOk r = k) (a b c d : Value) (w : World) (h : RdR w r a b c d) (hw : RpW r) (hn : RpN r 1048576) : Calls Tryz.prog 45 #[.agg #[.int .i64 r.id, a, b, c, d]] w fun e w' => e = .returned (.bool k) ∧ Below w.heap.size w w' := by
  rw [← hx]; exact specReplicaOk r _ _ _ _ _ h hw hn
theorem l3EqualB {s : St} {k : Bool} (hz : decide (s.l.length + s.c.length = 0) = k) (v1 v2 : Value) (A B : Option Addr) (w : World) (h1 : Rd w v1 s.l) (h2 : Rd w v2 s.c) :
    Calls Tryz.prog 46 #[.agg #[v1, v2], .agg #[.slice A 0 0, .slice B 0 0]] w fun e w' => e = .returned (.bool k) ∧ Below w.heap.size w w' := by
  rw [← hz]; exact l3Equal0 s v1 v2 A B w h1 h2
set_option maxHeartbeats 8000000 in
theorem specFlush (r : Rp) (a b c d : Value) (w : World) (h : RdR w r a b c d) (hw : RpW r) (hn : RpN r 1048576) :
    Calls Tryz.prog 11 #[.agg #[.int .i64 r.id, a, b, c, d]] w fun e w' => ∃ a b c d v, e = .returned (.tuple #[.agg #[.int .i64 r.id, a, b, c, d], .agg #[.int .i64 (flF r).1, v], .bool (flOk r)]) ∧ Own w [.own v (flF r).2, .own a (flRp r).s.l, .own b (flRp r).s.c, .own c (flRp r).d.l, .own d (flRp r).d.c] w' := by
  have H := Lib.hid h
  obtain ⟨A1, c1, rfl, _, _⟩ := h.sl.val
  obtain ⟨A2, c2, rfl, _, _⟩ := h.sc.val
  obtain ⟨A3, c3, rfl, _, _⟩ := h.dl.val
  obtain ⟨A4, c4, rfl, _, _⟩ := h.dc.val
  have HW := Lib.hid hw
  have HN := Lib.hid hn
  have hb1 := hn.2.1
  have hb2 := hn.2.2.2
  clear hw h hn
  have HS := ((((Own.start w).box [.int .i64 r.id, .slice A1 r.s.l.length c1, .slice A2 r.s.c.length c2, .slice A3 r.d.l.length c3, .slice A4 r.d.c.length c4] 38).box (b := w.heap.size + 1) [.int .i64 0, .slice none 0 0, .slice none 0 0, .slice none 0 0, .slice none 0 0] 38).box (b := w.heap.size + 1 + 1) [.int .i64 0, .slice none 0 0] 41)
  go_enter Tryz.func11, Tryz.ntmps11
  cases hx : rpOk r
  · have hfl : flOk r = false := by unfold flOk; rw [hx]; rfl
    have HR := Lib.hid (show flRp r = r ∧ flF r = (0, []) by unfold flRp flF; rw [if_neg (by simp [hfl]), if_neg (by simp [hfl])]; exact ⟨rfl, rfl⟩)
    have HFL := Lib.hid hfl
    clear hfl
    go_wp2
    have F := HS.facts; simp only [Own.Facts, Own.Cells, World.size_alloc, List.cons_append, List.nil_append, List.eraseIdx_cons_succ, List.eraseIdx_cons_zero, List.eraseIdx_zero, List.tail_cons, Nat.zero_add] at F
    first | (go_region_with ((go_at_call 45; refine (specOkB hx _ _ _ _ _ (by first | exact H.out.old HS | exact H.out.old HS.drew) HW.out HN.out).mono ?_; rintro e w1 ⟨rfl, hb⟩; (first | have H' := HS.of_below hb | have H' := HS.drew.of_below hb | have H' := (HS.box0 [_] _).of_below hb | have H' := ((HS.box0 [_] _).box0 [_] _).of_below hb | have H' := (HS.box0 [_] _).drew.of_below hb | have H' := (HS.alloc _).of_below hb | have H' := ((HS.alloc _).alloc _).of_below hb | have H' := (HS.alloc _).drew.of_below hb); clear HS; have HS := H'; clear H'; have F := HS.facts; simp only [Own.Facts, Own.Cells, World.size_alloc, List.cons_append, List.nil_append, List.eraseIdx_cons_succ, List.eraseIdx_cons_zero, List.eraseIdx_zero, List.tail_cons, Nat.zero_add] at F))) | fail
    all_goals
      try clear hz
      clear hx
      go_wp2_with fail
      refine (l6Copy r _ _ _ _ _ (H.out.old HS) HN.out).mono ?_
      rintro e w5 ⟨B1, e1, B2, e2, B3, e3, B4, e4, rfl, hs⟩
      replace HS := HS.call hs
      simp only [List.cons_append, List.nil_append] at HS
      clear hs
      try clear F
      have F := HS.facts; simp only [Own.Facts, Own.Cells, World.size_alloc, List.cons_append, List.nil_append, List.eraseIdx_cons_succ, List.eraseIdx_cons_zero, List.eraseIdx_zero, List.tail_cons, Nat.zero_add] at F
      go_wp2
      have H2 := (((((HS.pick 5 rfl).set 0 (.int .i64 r.id)).set 1 (.slice B1 r.s.l.length e1)).set 2 (.slice B2 r.s.c.length e2)).set 3 (.slice B3 r.d.l.length e3)).set 4 (.slice B4 r.d.c.length e4)
      have H3 := (((H2.drop.pick 4 rfl).set 0 (.int .i64 0)).set 1 (.slice none 0 0)).drop
      have H3 := (H3.pick 4 rfl).drop
      have H3 := H3.nil (α := UInt8)
      exact bodyPost_ret (v := .tuple #[.agg #[.int .i64 r.id, .slice B1 r.s.l.length e1, .slice B2 r.s.c.length e2, .slice B3 r.d.l.length e3, .slice B4 r.d.c.length e4], .agg #[.int .i64 0, .slice none 0 0], .bool false]) (by simp [results, Tryz.results11, go_sem, *]) rfl ⟨_, _, _, _, _, by rw [HFL.out, HR.out.2], by rw [HR.out.1, HR.out.2]; exact H3⟩
  · cases hz : decide (r.d.l.length + r.d.c.length = 0)
    · have hfl : flOk r = true := by unfold flOk; rw [hx]; simp only [decide_eq_false_iff_not] at hz; simp only [Bool.true_and, decide_eq_true_eq]; exact hz
      obtain ⟨T, hT⟩ : ∃ T, (psR r.d).1 = T := ⟨_, rfl⟩
      obtain ⟨kc, hkc⟩ : ∃ k, (psR r.d).2 = k := ⟨_, rfl⟩
      have HT := Lib.hid (And.intro hT hkc)
      have HR := Lib.hid (show flRp r = ⟨r.id, r.s, ⟨[], []⟩⟩ ∧ flF r = (3, T) by unfold flRp flF; rw [if_pos hfl, if_pos hfl, hT]; exact ⟨rfl, rfl⟩)
      have HFL := Lib.hid hfl
      clear hfl
      clear hT hkc
      go_wp2
      go_region_held3 (fun w' => w'.cell? ⟨w.heap.size, 0, none⟩ = some (.int .i64 r.id) ∧ w'.cell? ⟨w.heap.size, 1, none⟩ = some (.slice A1 r.s.l.length c1) ∧ w'.cell? ⟨w.heap.size, 2, none⟩ = some (.slice A2 r.s.c.length c2) ∧ w'.cell? ⟨w.heap.size, 3, none⟩ = some (.slice A3 r.d.l.length c3) ∧ w'.cell? ⟨w.heap.size, 4, none⟩ = some (.slice A4 r.d.c.length c4)) (first | go_keep) (first | (go_at_call 45; refine (specOkB hx _ _ _ _ _ (by first | exact H.out.old HS | exact H.out.old HS.drew) HW.out HN.out).mono ?_; rintro e w1 ⟨rfl, hb⟩; (first | have H' := HS.of_below hb | have H' := HS.drew.of_below hb | have H' := (HS.box0 [_] _).of_below hb | have H' := ((HS.box0 [_] _).box0 [_] _).of_below hb | have H' := (HS.box0 [_] _).drew.of_below hb | have H' := (HS.alloc _).of_below hb | have H' := ((HS.alloc _).alloc _).of_below hb | have H' := (HS.alloc _).drew.of_below hb); clear HS; have HS := H'; clear H'; have F := HS.facts; simp only [Own.Facts, Own.Cells, World.size_alloc, List.cons_append, List.nil_append, List.eraseIdx_cons_succ, List.eraseIdx_cons_zero, List.eraseIdx_zero, List.tail_cons, Nat.zero_add] at F) | (go_at_call 47; refine (l6Empty _).mono ?_; rintro e w1 ⟨D1, D2, rfl, hs⟩; skip; (first | have H' := HS.call2 hs | have H' := HS.drew.call2 hs | have H' := (HS.box0 [_] _).call2 hs | have H' := ((HS.box0 [_] _).box0 [_] _).call2 hs | have H' := (HS.box0 [_] _).drew.call2 hs | have H' := (HS.alloc _).call2 hs | have H' := ((HS.alloc _).alloc _).call2 hs | have H' := (HS.alloc _).drew.call2 hs); clear HS; have HS := H'; clear H'; have F := HS.facts; simp only [Own.Facts, Own.Cells, World.size_alloc, List.cons_append, List.nil_append, List.eraseIdx_cons_succ, List.eraseIdx_cons_zero, List.eraseIdx_zero, List.tail_cons, Nat.zero_add] at F) | (go_at_call 46; refine (l3EqualB hz _ _ _ _ _ (by first | exact HS.old H.out.dl | exact HS.drew.old H.out.dl) (by first | exact HS.old H.out.dc | exact HS.drew.old H.out.dc)).mono ?_; rintro e w1 ⟨rfl, hb⟩; (first | have H' := HS.of_below hb | have H' := HS.drew.of_below hb | have H' := (HS.box0 [_] _).of_below hb | have H' := ((HS.box0 [_] _).box0 [_] _).of_below hb | have H' := (HS.box0 [_] _).drew.of_below hb | have H' := (HS.alloc _).of_below hb | have H' := ((HS.alloc _).alloc _).of_below hb | have H' := (HS.alloc _).drew.of_below hb); clear HS; have HS := H'; clear H'; have F := HS.facts; simp only [Own.Facts, Own.Cells, World.size_alloc, List.cons_append, List.nil_append, List.eraseIdx_cons_succ, List.eraseIdx_cons_zero, List.eraseIdx_zero, List.tail_cons, Nat.zero_add] at F))
      all_goals
        try clear hz
        clear hx
        go_wp2_with fail
        refine (show Calls Tryz.prog 49 _ _ (fun e w' => ∃ v', e = .returned (.tuple #[v', .int .i64 (kc : Nat)]) ∧ Own _ [.own v' T] w') from by have h := specPutState r.d _ _ _ (HS.old H.out.dl) (HS.old H.out.dc) HW.out.2; rw [HT.out.1, HT.out.2] at h; exact h).mono ?_
        rintro e w3 ⟨v', rfl, hs⟩
        obtain ⟨A5, c5, rfl, _, _⟩ := (hs.rd 0 rfl).val
        replace HS := HS.call1 hs
        clear hs
        try clear F
        have F := HS.facts; simp only [Own.Facts, Own.Cells, World.size_alloc, List.cons_append, List.nil_append, List.eraseIdx_cons_succ, List.eraseIdx_cons_zero, List.eraseIdx_zero, List.tail_cons, Nat.zero_add] at F
        go_wp2_with fail
        refine (l6Copy r _ _ _ _ _ (H.out.old HS) HN.out).mono ?_
        rintro e w5 ⟨B1, e1, B2, e2, B3, e3, B4, e4, rfl, hs⟩
        replace HS := HS.call hs
        simp only [List.cons_append, List.nil_append] at HS
        clear F
        have F := HS.facts; simp only [Own.Facts, Own.Cells, World.size_alloc, List.cons_append, List.nil_append, List.eraseIdx_cons_succ, List.eraseIdx_cons_zero, List.eraseIdx_zero, List.tail_cons, Nat.zero_add] at F
        have hlt5 : w.heap.size + 1 + 1 < w5.heap.size := by omega
        replace HS := HS.box (b := w5.heap.size) [.int .i64 r.id, .slice B1 r.s.l.length e1, .slice B2 r.s.c.length e2, .slice B3 r.d.l.length e3, .slice B4 r.d.c.length e4] 38
        clear hs F
        have F := HS.facts; simp only [Own.Facts, Own.Cells, World.size_alloc, List.cons_append, List.nil_append, List.eraseIdx_cons_succ, List.eraseIdx_cons_zero, List.eraseIdx_zero, List.tail_cons, Nat.zero_add] at F
        go_wp2_with fail
        refine (l6Empty _).mono ?_
        rintro e w6 ⟨E1, E2, rfl, hs⟩
        replace HS := HS.call hs
        simp only [List.cons_append, List.nil_append] at HS
        clear hs F
        have F := HS.facts; simp only [Own.Facts, Own.Cells, World.size_alloc, List.cons_append, List.nil_append, List.eraseIdx_cons_succ, List.eraseIdx_cons_zero, List.eraseIdx_zero, List.tail_cons, Nat.zero_add] at F
        go_wp2
        have H2 := (((HS.pick 2 rfl).set 3 (.slice E1 0 0)).set 4 (.slice E2 0 0)).pick 11 rfl
        have H3 := (((((H2.set 0 (.int .i64 r.id)).set 1 (.slice B1 r.s.l.length e1)).set 2 (.slice B2 r.s.c.length e2)).set 3 (.slice E1 0 0)).set 4 (.slice E2 0 0)).drop
        have H4 := (((H3.pick 10 rfl).set 0 (.int .i64 3)).set 1 (.slice A5 T.length c5)).drop.drop
        have H5 := (((H4.pick 9 rfl).drop.pick 8 rfl).drop.pick 7 rfl).drop
        have H6 := ((H5.pick 5 rfl).drop.pick 4 rfl).drop
        have H7 := ((H6.pick 3 rfl).pick 3 rfl).pick 4 rfl
        exact bodyPost_ret (v := .tuple #[.agg #[.int .i64 r.id, .slice B1 r.s.l.length e1, .slice B2 r.s.c.length e2, .slice E1 0 0, .slice E2 0 0], .agg #[.int .i64 3, .slice A5 T.length c5], .bool true]) (by simp [results, Tryz.results11, go_sem, *]) rfl ⟨_, _, _, _, _, by rw [HFL.out, HR.out.2], by rw [HR.out.1, HR.out.2]; exact H7⟩
    · have hfl : flOk r = false := by unfold flOk; rw [hx]; simp at hz; simp [hz]
      have HR := Lib.hid (show flRp r = r ∧ flF r = (0, []) by unfold flRp flF; rw [if_neg (by simp [hfl]), if_neg (by simp [hfl])]; exact ⟨rfl, rfl⟩)
      have HFL := Lib.hid hfl
      clear hfl
      go_wp2
      go_region_held3 (fun w' => w'.cell? ⟨w.heap.size, 0, none⟩ = some (.int .i64 r.id) ∧ w'.cell? ⟨w.heap.size, 1, none⟩ = some (.slice A1 r.s.l.length c1) ∧ w'.cell? ⟨w.heap.size, 2, none⟩ = some (.slice A2 r.s.c.length c2) ∧ w'.cell? ⟨w.heap.size, 3, none⟩ = some (.slice A3 r.d.l.length c3) ∧ w'.cell? ⟨w.heap.size, 4, none⟩ = some (.slice A4 r.d.c.length c4)) (first | go_keep) (first | (go_at_call 45; refine (specOkB hx _ _ _ _ _ (by first | exact H.out.old HS | exact H.out.old HS.drew) HW.out HN.out).mono ?_; rintro e w1 ⟨rfl, hb⟩; (first | have H' := HS.of_below hb | have H' := HS.drew.of_below hb | have H' := (HS.box0 [_] _).of_below hb | have H' := ((HS.box0 [_] _).box0 [_] _).of_below hb | have H' := (HS.box0 [_] _).drew.of_below hb | have H' := (HS.alloc _).of_below hb | have H' := ((HS.alloc _).alloc _).of_below hb | have H' := (HS.alloc _).drew.of_below hb); clear HS; have HS := H'; clear H'; have F := HS.facts; simp only [Own.Facts, Own.Cells, World.size_alloc, List.cons_append, List.nil_append, List.eraseIdx_cons_succ, List.eraseIdx_cons_zero, List.eraseIdx_zero, List.tail_cons, Nat.zero_add] at F) | (go_at_call 47; refine (l6Empty _).mono ?_; rintro e w1 ⟨D1, D2, rfl, hs⟩; skip; (first | have H' := HS.call2 hs | have H' := HS.drew.call2 hs | have H' := (HS.box0 [_] _).call2 hs | have H' := ((HS.box0 [_] _).box0 [_] _).call2 hs | have H' := (HS.box0 [_] _).drew.call2 hs | have H' := (HS.alloc _).call2 hs | have H' := ((HS.alloc _).alloc _).call2 hs | have H' := (HS.alloc _).drew.call2 hs); clear HS; have HS := H'; clear H'; have F := HS.facts; simp only [Own.Facts, Own.Cells, World.size_alloc, List.cons_append, List.nil_append, List.eraseIdx_cons_succ, List.eraseIdx_cons_zero, List.eraseIdx_zero, List.tail_cons, Nat.zero_add] at F) | (go_at_call 46; refine (l3EqualB hz _ _ _ _ _ (by first | exact HS.old H.out.dl | exact HS.drew.old H.out.dl) (by first | exact HS.old H.out.dc | exact HS.drew.old H.out.dc)).mono ?_; rintro e w1 ⟨rfl, hb⟩; (first | have H' := HS.of_below hb | have H' := HS.drew.of_below hb | have H' := (HS.box0 [_] _).of_below hb | have H' := ((HS.box0 [_] _).box0 [_] _).of_below hb | have H' := (HS.box0 [_] _).drew.of_below hb | have H' := (HS.alloc _).of_below hb | have H' := ((HS.alloc _).alloc _).of_below hb | have H' := (HS.alloc _).drew.of_below hb); clear HS; have HS := H'; clear H'; have F := HS.facts; simp only [Own.Facts, Own.Cells, World.size_alloc, List.cons_append, List.nil_append, List.eraseIdx_cons_succ, List.eraseIdx_cons_zero, List.eraseIdx_zero, List.tail_cons, Nat.zero_add] at F))
      all_goals
        try clear hz
        clear hx
        go_wp2_with fail
        refine (l6Copy r _ _ _ _ _ (H.out.old HS) HN.out).mono ?_
        rintro e w5 ⟨B1, e1, B2, e2, B3, e3, B4, e4, rfl, hs⟩
        replace HS := HS.call hs
        simp only [List.cons_append, List.nil_append] at HS
        clear hs
        try clear F
        have F := HS.facts; simp only [Own.Facts, Own.Cells, World.size_alloc, List.cons_append, List.nil_append, List.eraseIdx_cons_succ, List.eraseIdx_cons_zero, List.eraseIdx_zero, List.tail_cons, Nat.zero_add] at F
        go_wp2
        have H2 := (((((HS.pick 7 rfl).set 0 (.int .i64 r.id)).set 1 (.slice B1 r.s.l.length e1)).set 2 (.slice B2 r.s.c.length e2)).set 3 (.slice B3 r.d.l.length e3)).set 4 (.slice B4 r.d.c.length e4)
        have H3 := (((H2.drop.pick 6 rfl).set 0 (.int .i64 0)).set 1 (.slice none 0 0)).drop
        have H3 := (H3.pick 4 rfl).drop
        have H3 := (H3.pick 4 rfl).drop
        have H3 := (H3.pick 4 rfl).drop
        have H3 := H3.nil (α := UInt8)
        exact bodyPost_ret (v := .tuple #[.agg #[.int .i64 r.id, .slice B1 r.s.l.length e1, .slice B2 r.s.c.length e2, .slice B3 r.d.l.length e3, .slice B4 r.d.c.length e4], .agg #[.int .i64 0, .slice none 0 0], .bool false]) (by simp [results, Tryz.results11, go_sem, *]) rfl ⟨_, _, _, _, _, by rw [HFL.out, HR.out.2], by rw [HR.out.1, HR.out.2]; exact H3⟩
end Go.Proofs.YtohgelmkagcimaaGreat
