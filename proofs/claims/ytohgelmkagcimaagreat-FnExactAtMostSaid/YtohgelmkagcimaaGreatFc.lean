/- Copies of states: the program's. -/
import Derived.Test.YtohgelmkagcimaaGreatT1
/-FR-/
namespace Go.Proofs.YtohgelmkagcimaaGreat
set_option linter.unusedSimpArgs false
set_option linter.unusedVariables false
open Go.RowKit Go.Ow
attribute [local irreducible] wpQuiet
set_option maxRecDepth 100000
theorem cloneLeaves (xs : List Pf) (v : Value) (w : World) (hv : Rd w v xs) (hn : xs.length ≤ 1048576) : Calls Tryz.prog 136 #[v] w fun e w' => ∃ A c, e = .returned (.slice A xs.length c) ∧ Own w [.own (.slice A xs.length c) xs] w' := by
  obtain ⟨A, c, rfl, hc, hl⟩ := hv.val
  have hq := fun w => Lib.run_eql_slice_nil (P := Tryz.prog) w 31 103 A xs.length c 0 0 Tryz.underlying31
  cases A with
  | none =>
    obtain ⟨_, _, he, _, _, _, hA, _⟩ := id hv
    injection he with he1 he2 he3
    subst he1 he3
    obtain rfl : xs = [] := List.eq_nil_of_length_eq_zero (by have := hA rfl; omega)
    obtain rfl : c = 0 := hA rfl
    have hq0 : ∀ w, (binOp .eql 31 (.slice none 0 0) (.slice none 0 0)).run Tryz.prog w = .ok (.bool true) w := hq
    clear hq
    show Calls Tryz.prog 136 #[.slice none 0 0] w _
    go_enter Tryz.func136, Tryz.ntmps136
    go_wp2
    go_ret
    exact ⟨none, 0, rfl, (Own.start w).nil⟩
  | some a =>
    have HL := (Own.start w).lit ([] : List Pf) #[] 103 rfl rfl (by simp)
    go_enter Tryz.func136, Tryz.ntmps136
    go_wp2_with (refine wp_app2 (α := Pf) rfl _ _ 31 rfl (by kernel_rfl) _ _ HL rfl _ _ rfl (HL.old hv) (by show (0 + _) * 64 ≤ _; omega) (by show 0 + _ ≤ _; omega) ?_; clear HL; intro v2 q w2 hq hql H2)
    obtain ⟨A5, c5, rfl, _, _⟩ := (H2.rd 0 rfl).val
    have HQ := Lib.hid (show q = xs by rw [hq.out]; rfl)
    go_ret
    exact ⟨A5, c5, by rw [← HQ.out]; rfl, by rw [← HQ.out]; exact H2⟩
theorem cloneRuns (xs : List Rn) (v : Value) (w : World) (hv : Rd w v xs) (hn : xs.length ≤ 1048576) : Calls Tryz.prog 137 #[v] w fun e w' => ∃ A c, e = .returned (.slice A xs.length c) ∧ Own w [.own (.slice A xs.length c) xs] w' := by
  obtain ⟨A, c, rfl, hc, hl⟩ := hv.val
  have hq := fun w => Lib.run_eql_slice_nil (P := Tryz.prog) w 32 119 A xs.length c 0 0 Tryz.underlying32
  cases A with
  | none =>
    obtain ⟨_, _, he, _, _, _, hA, _⟩ := id hv
    injection he with he1 he2 he3
    subst he1 he3
    obtain rfl : xs = [] := List.eq_nil_of_length_eq_zero (by have := hA rfl; omega)
    obtain rfl : c = 0 := hA rfl
    have hq0 : ∀ w, (binOp .eql 32 (.slice none 0 0) (.slice none 0 0)).run Tryz.prog w = .ok (.bool true) w := hq
    clear hq
    show Calls Tryz.prog 137 #[.slice none 0 0] w _
    go_enter Tryz.func137, Tryz.ntmps137
    go_wp2
    go_ret
    exact ⟨none, 0, rfl, (Own.start w).nil⟩
  | some a =>
    have HL := (Own.start w).lit ([] : List Rn) #[] 119 rfl rfl (by simp)
    go_enter Tryz.func137, Tryz.ntmps137
    go_wp2_with (refine wp_app2 (α := Rn) rfl _ _ 32 rfl (by kernel_rfl) _ _ HL rfl _ _ rfl (HL.old hv) (by show (0 + _) * 24 ≤ _; omega) (by show 0 + _ ≤ _; omega) ?_; clear HL; intro v2 q w2 hq hql H2)
    obtain ⟨A5, c5, rfl, _, _⟩ := (H2.rd 0 rfl).val
    have HQ := Lib.hid (show q = xs by rw [hq.out]; rfl)
    go_ret
    exact ⟨A5, c5, by rw [← HQ.out]; rfl, by rw [← HQ.out]; exact H2⟩
theorem th_box2 {W w : World} {R : List Ds} {t : TypeId} {v u : Value} {K : Act → World → Prop} {Q : Exit → Act → World → Prop} {e : Exit} {a : Act} (HS : Own W R w) (h : ∀ w', Own W (.box w.heap.size t [v, u] :: R) w' → Exit.then K Q e a w') : Exit.then K Q e a (w.alloc (.cells #[v, u] t)) := h _ (HS.box [v, u] t)
theorem th_set2 {W w : World} {R : List Ds} {t b : Nat} {u1 u2 v1 v2 : Value} {K : Act → World → Prop} {Q : Exit → Act → World → Prop} {e : Exit} {a : Act} (i : Nat) (HS : Own W R w) (hi : R[i]? = some (.box b t [u1, u2])) (h : ∀ w', Own W (.box b t [v1, v2] :: R.eraseIdx i) w' → Exit.then K Q e a w') : Exit.then K Q e a ((w.setCell ⟨b, 0, none⟩ v1).setCell ⟨b, 1, none⟩ v2) := h _ (((HS.pick i hi).set 0 v1).set 1 v2)
theorem own_tail {W w : World} {r : Ds} {R : List Ds} {k t : Nat} {vs : List Value} (h : Own W (r :: .box k t vs :: R) w) : ∃ b RX, k = b ∧ Hid (.box b t vs :: R = RX) ∧ Own W (r :: RX) w := ⟨k, _, rfl, Lib.hid rfl, h⟩
theorem own_mid {W w : World} {r b : Ds} {X Y : List Ds} (h : Own W (r :: (X ++ b :: Y)) w) : Own W (b :: r :: (X ++ Y)) w := h.perm (List.perm_middle (l₁ := r :: X))
theorem own_in {W w : World} {r b : Ds} {X Y : List Ds} (h : Own W (r :: b :: (X ++ Y)) w) : Own W (r :: ((X ++ [b]) ++ Y)) w := h.perm (List.Perm.cons _ (by rw [List.append_assoc]; exact List.perm_middle.symm))
theorem own_fin {W w : World} {r a b : Ds} {X Y : List Ds} (h : Own W (r :: a :: b :: (X ++ Y)) w) : Own W (r :: ((X ++ [a]) ++ b :: Y)) w := h.perm (List.Perm.cons _ (by
  have h1 : a :: b :: (X ++ Y) = ([a, b] ++ X) ++ Y := rfl
  have h2 : (X ++ [a]) ++ b :: Y = (X ++ [a, b]) ++ Y := by simp
  rw [h1, h2]
  exact List.Perm.append_right Y List.perm_append_comm))
set_option maxHeartbeats 16000000 in
theorem stateCopy (s : St) (v1 v2 : Value) (w : World) (h1 : Rd w v1 s.l) (h2 : Rd w v2 s.c) (hn : s.l.length ≤ 1048576) (hp : ∀ y ∈ s.l, y.p.length ≤ 1048576) (hc : s.c.length ≤ 1048576) :
    Calls Tryz.prog 95 #[.agg #[v1, v2]] w fun e w' => ∃ A1 c1 A2 c2, e = .returned (.agg #[.slice A1 s.l.length c1, .slice A2 s.c.length c2]) ∧ Own w [.own (.slice A1 s.l.length c1) s.l, .own (.slice A2 s.c.length c2) s.c] w' := by
  obtain ⟨l, c⟩ := s
  simp only at h1 h2 hn hp hc ⊢
  obtain ⟨zs, rfl, hat, hpf⟩ := rd_pf h1
  simp only [List.length_map] at hn ⊢
  have HP := Lib.hid hp
  have HAT := Lib.hid hat
  clear h1 hp hat
  obtain ⟨A1, c1, rfl, _, _⟩ := hpf.val
  obtain ⟨A2, c2, rfl, _, _⟩ := h2.val
  have HS := ((Own.start w).box [.slice A1 zs.length c1, .slice A2 c.length c2] 36).box (b := w.heap.size + 1) [.slice none 0 0, .slice none 0 0] 36
  go_enter Tryz.func95, Tryz.ntmps95
  go_wp2
  have hn0 : w.heap.size + 1 + 1 ≠ w.heap.size := by omega
  go_region_held3 (fun w' => w'.cell? ⟨w.heap.size, 0, none⟩ = some (.slice A1 zs.length c1) ∧ w'.cell? ⟨w.heap.size, 1, none⟩ = some (.slice A2 c.length c2)) (first | go_keep) (first | (go_at_call 136; refine (cloneLeaves zs _ _ (by first | exact HS.old hpf | exact (HS.box0 [_, _] _).old hpf | exact (HS.box0 [_, _] _).drew.old hpf | exact (HS.alloc _).old hpf | exact HS.drew.old hpf | exact (HS.alloc _).drew.old hpf | exact (HS.drew.alloc _).old hpf) hn).mono ?_; rintro e w1 ⟨A3, c3, rfl, hs⟩; skip; (first | have H' := (HS.box0 [_, _] _).call1 hs | have H' := (HS.box0 [_, _] _).drew.call1 hs | have H' := HS.call1 hs | have H' := HS.drew.call1 hs | have H' := (HS.box0 [_] _).call1 hs | have H' := ((HS.box0 [_] _).box0 [_] _).call1 hs | have H' := (HS.box0 [_] _).drew.call1 hs | have H' := (HS.alloc _).call1 hs | have H' := ((HS.alloc _).alloc _).call1 hs | have H' := (HS.alloc _).drew.call1 hs); clear HS; have HS := H'; clear H'; have F := HS.facts; simp only [Own.Facts, Ds.map, Ds.mapf, Own.Cells, World.size_alloc, List.cons_append, List.nil_append, List.eraseIdx_cons_succ, List.eraseIdx_cons_zero, List.eraseIdx_zero, List.tail_cons, Nat.zero_add] at F; try (have hnA : w1.heap.size ≠ w.heap.size := (by omega))) | (go_at_call 137; refine (cloneRuns c _ _ (by first | exact HS.old h2 | exact (HS.box0 [_, _] _).old h2 | exact (HS.box0 [_, _] _).drew.old h2 | exact (HS.alloc _).old h2 | exact HS.drew.old h2 | exact (HS.alloc _).drew.old h2 | exact (HS.drew.alloc _).old h2) hc).mono ?_; rintro e w1 ⟨A4, c4, rfl, hs⟩; skip; (first | have H' := (HS.box0 [_, _] _).call1 hs | have H' := (HS.box0 [_, _] _).drew.call1 hs | have H' := HS.call1 hs | have H' := HS.drew.call1 hs | have H' := (HS.box0 [_] _).call1 hs | have H' := ((HS.box0 [_] _).box0 [_] _).call1 hs | have H' := (HS.box0 [_] _).drew.call1 hs | have H' := (HS.alloc _).call1 hs | have H' := ((HS.alloc _).alloc _).call1 hs | have H' := (HS.alloc _).drew.call1 hs); clear HS; have HS := H'; clear H'; have F := HS.facts; simp only [Own.Facts, Ds.map, Ds.mapf, Own.Cells, World.size_alloc, List.cons_append, List.nil_append, List.eraseIdx_cons_succ, List.eraseIdx_cons_zero, List.eraseIdx_zero, List.tail_cons, Nat.zero_add] at F; try (have hnA : w1.heap.size ≠ w.heap.size := (by omega))))
  all_goals
    first | (refine th_box2 HS ?_; intro w6 HB) | (refine th_set2 1 HS rfl ?_; intro w6 HB) | (simp only [World.size_alloc] at HS; refine th_set2 2 HS rfl ?_; intro w6 HB)
    try simp only [List.eraseIdx_cons_succ, List.eraseIdx_cons_zero] at HB
    clear HS F
    have hf := HB.facts
    simp only [Own.Facts, Ds.map, Ds.mapf, Own.Cells, Nat.zero_add, and_true] at hf
    have HB2 := HB.pick 2 rfl
    simp only [List.eraseIdx_cons_succ, List.eraseIdx_cons_zero] at HB2
    obtain ⟨b, RX, hb, HRX, HS⟩ := own_tail HB2
    simp only [hb] at hf
    rw [hb]
    have hl3 := (HS.rd 0 rfl).len
    clear hnA HB HB2 hb
    go_wp2
    clear hf
    go_loopw [17] (fun i wr => ∃ (k : Nat) (ps : List Pf), k ≤ zs.length ∧ i = .int .i64 k ∧ ps.length = k ∧ Hid (ps.map (·.l) = (zs.take k).map (·.l)) ∧ Own w (.own (.slice A3 zs.length c3) (ps ++ zs.drop k) :: (ps.map pown ++ RX)) wr) (fun i _ => zs.length - (intOf i).toNat)
    case atStart => exact ⟨0, [], by omega, rfl, rfl, Lib.hid (by simp), by simpa using HS⟩
    case round =>
      obtain ⟨k, ps, hk, rfl, hpl, HPM, HS'⟩ := hrel
      clear HS
      have HRX' := HRX.out
      rw [← HRX'] at HS'
      have hf := (own_mid HS').only.facts
      simp only [Own.Facts, Ds.map, Ds.mapf, Own.Cells, Nat.zero_add, and_true] at hf
      by_cases hlt : k < zs.length
      · obtain ⟨g, rfl⟩ := HS'.fix (by simp; omega)
        obtain ⟨z, hz⟩ : ∃ z, zs[k] = z := ⟨_, rfl⟩
        have hat := HAT.out zs[k] (List.getElem_mem hlt)
        have hpz := HP.out zs[k].l (List.mem_map.2 ⟨_, List.getElem_mem hlt, rfl⟩)
        have hgl : k < (ps ++ zs.drop k).length := by simp; omega
        have hge : (ps ++ zs.drop k)[k] = zs[k] := by rw [List.getElem_append_right (by omega)]; simp [hpl]
        have hr := HS'.rowc.1 k hgl 0 (by decide)
        rw [hge, hz] at hr
        rw [hz] at hat hpz
        have HSET := Lib.hid (fun x : Pf => show (ps ++ zs.drop k).set k x = (ps ++ [x]) ++ zs.drop (k + 1) by rw [List.set_append_right _ _ (by omega), hpl, Nat.sub_self, List.drop_eq_getElem_cons hlt, List.set_cons_zero]; simp)
        have HMAP := Lib.hid (fun x : Pf => fun hx : x.l = z.l => show (ps ++ [x]).map (·.l) = (zs.take (k + 1)).map (·.l) by rw [List.map_append, HPM.out, List.take_succ_eq_append_getElem hlt, List.map_append, hz]; simp [hx])
        obtain ⟨ys, hys⟩ : ∃ ys, ps ++ zs.drop k = ys := ⟨_, rfl⟩
        have HGE := Lib.hid (show ∃ h : k < ys.length, ys[k] = z by subst hys; exact ⟨hgl, hge.trans hz⟩)
        clear hz hge hgl HRX'
        have hfz := HS'.rowc.2
        obtain ⟨⟨Az, nz, cz⟩, ⟨zp, zf, zr, zd, zv⟩⟩ := z
        obtain rfl : nz = zp.length := hat.len
        simp only [Pf.at_, Sv.v] at hat hpz hr
        have hr0 : wr.cell? ⟨g, k * 5, none⟩ = some (.slice Az zp.length cz) := hr
        clear hr
        rw [hys] at HS'
        have HS := own_mid HS'
        obtain ⟨RY, hRY⟩ : ∃ RY, ps.map pown ++ [.own (.slice A4 c.length c4) c, .box (w.heap.size + 1) 36 [.slice none 0 0, .slice none 0 0], .box w.heap.size 36 [.slice A1 zs.length c1, .slice A2 c.length c2]] = RY := ⟨_, rfl⟩
        rw [hRY] at HS
        have HY := Lib.hid (And.intro hys hRY)
        clear hys hRY HS'
        go_wp2
        go_region_with ((go_at_call 119; refine (clonePath zp _ _ (by first | exact HS.old hat | exact HS.drew.old hat) hpz).mono ?_; rintro e w1 ⟨A5, c5, rfl, hs⟩; skip; (first | have H' := HS.call1 hs | have H' := HS.drew.call1 hs | have H' := (HS.box0 [_] _).call1 hs | have H' := ((HS.box0 [_] _).box0 [_] _).call1 hs | have H' := (HS.box0 [_] _).drew.call1 hs | have H' := (HS.alloc _).call1 hs | have H' := ((HS.alloc _).alloc _).call1 hs | have H' := (HS.alloc _).drew.call1 hs); clear HS; have HS := H'; clear H'; have F := HS.facts; simp only [Own.Facts, Ds.map, Ds.mapf, Own.Cells, World.size_alloc, List.cons_append, List.nil_append, List.eraseIdx_cons_succ, List.eraseIdx_cons_zero, List.eraseIdx_zero, List.tail_cons, Nat.zero_add] at F; try (have hr0 : w1.cell? ⟨g, k * 5, none⟩ = some (.slice Az zp.length cz) := (by obtain ⟨hgl, hge⟩ := HGE.out; have := (HS.pick 2 rfl).rowc.1 k hgl 0 (by decide); rw [hge] at this; exact this); have hfz := (HS.pick 2 rfl).rowc.2)))
        all_goals
          obtain ⟨hgl, hge⟩ := HGE.out
          have HP := Own.put (HS.pick 2 rfl) k hgl 0 (by decide) (.slice A5 zp.length c5) ⟨⟨A5, zp.length, c5⟩, ⟨zp, zf, zr, zd, zv⟩⟩ (by rw [hge]; rfl)
          have HO : Own w _ (w1.setCell ⟨g, k * 5, none⟩ (.slice A5 zp.length c5)) := HP
          simp only [List.eraseIdx_cons_succ, List.eraseIdx_cons_zero] at HO
          rw [← HY.out.2, ← HY.out.1, HSET.out] at HO
          have HW := own_fin HO
          have HX : Own w (.own (.slice (some ⟨g, 0, none⟩) zs.length c3) ((ps ++ [(⟨⟨A5, zp.length, c5⟩, ⟨zp, zf, zr, zd, zv⟩⟩ : Pf)]) ++ zs.drop (k + 1)) :: ((ps ++ [(⟨⟨A5, zp.length, c5⟩, ⟨zp, zf, zr, zd, zv⟩⟩ : Pf)]).map pown ++ RX)) (w1.setCell ⟨g, k * 5, none⟩ (.slice A5 zp.length c5)) := by
            rw [List.map_append, ← HRX.out]; exact HW
          clear HP HO HW HS F hgl hge hr0 hfz hf
          go_wp2
          go_roundw
          case rel => exact ⟨k + 1, _, by omega, by go_num, by simp [hpl], Lib.hid (HMAP.out _ rfl), HX⟩
          case measure => simp [intOf]; omega
      · obtain rfl : k = zs.length := by omega
        rw [List.drop_length, List.append_nil] at HS'
        have HS := HS'.deepen
        have hpm := HPM.out
        rw [List.take_length] at hpm
        rw [hpm] at HS
        clear HS' hf hpm HPM HRX'
        have hf := HS.facts
        simp only [Own.Facts, Ds.map, Ds.mapf, Own.Cells, Nat.zero_add, and_true] at hf
        go_wp2
        have H2 := ((HS.pick 3 rfl).set 0 (.slice A3 zs.length c3)).set 1 (.slice A4 c.length c4)
        have H3 := ((H2.drop.pick 1 rfl).drop.pick 2 rfl).drop
        exact bodyPost_ret (v := .agg #[.slice A3 zs.length c3, .slice A4 c.length c4]) (by simp [results, Tryz.results95, go_sem, *]) rfl ⟨_, _, _, _, rfl, H3⟩
end Go.Proofs.YtohgelmkagcimaaGreat
