/- FnExactReplicaOk: for every replica the law returns true, and the replica reads behind the call as it read before. No condition. FnExactWhole: for every replica the law returns true, and the replica reads behind the call as it read before. No condition. Marked leaves, states and replicas: that they hold their marks. -/
import Derived.Test.YtkafflbakgkpcaaGreatRows
import Derived.Test.YtkafflbakgkpcaaGreatZa
import Derived.Test.YtkafflbakgkpcaaGreatFf
namespace Go.Proofs.YtkafflbakgkpcaaGreat
set_option linter.unusedSimpArgs false
set_option linter.unusedVariables false
open Go.RowKit Go.Ow
attribute [local irreducible] wpQuiet
set_option maxRecDepth 100000
instance : Wf Rp := Wf.iso (fun x : Rp => (x.id, x.s, x.d))
theorem rdR_of {w : World} {r : Rp} {cs : List Value} (h : Cd.rd w r cs) : ∃ a b c d : Value, cs = [.int .i64 r.id, a, b, c, d] ∧ RdR w r a b c d := by
  obtain ⟨a, b, c, d, rfl, h1, h2⟩ := Rp.open_ h
  obtain ⟨a1, b1, he, h3, h4⟩ := St.open_ h1
  obtain ⟨c1, d1, he2, h5, h6⟩ := St.open_ h2
  simp only [List.cons.injEq, and_true] at he he2
  obtain ⟨rfl, rfl⟩ := he
  obtain ⟨rfl, rfl⟩ := he2
  exact ⟨a, b, c, d, rfl, h3, h4, h5, h6⟩
theorem rpW_ok {r : Rp} (h : Wf.ok r) : RpW r := by
  obtain ⟨h1, h2, h3⟩ := h
  exact ⟨lfW_ok h2, lfW_ok h3⟩
end Go.Proofs.YtkafflbakgkpcaaGreat
namespace Go.Proofs.YtkafflbakgkpcaaGreat
set_option linter.unusedSimpArgs false
set_option linter.unusedVariables false
open Go.RowKit Go.Ow
attribute [local irreducible] wpQuiet
set_option maxRecDepth 100000
theorem lsz_boundR (M : Nat) : ∀ l : List Lf, (∀ y ∈ l, y.p.length ≤ M) → lsz l ≤ l.length * (M + 4)
  | [], _ => by simp [lsz]
  | x :: l, h => by
    have h1 := h x (by simp)
    have h2 := lsz_boundR M l fun y hy => h y (List.mem_cons_of_mem _ hy)
    rw [lsz, List.length_cons, Nat.succ_mul]; omega
theorem msz_bound {s : St} (h : s.l.length ≤ 1048576 ∧ (∀ y ∈ s.l, y.p.length ≤ 1048576) ∧ s.c.length ≤ 1048576) : msz s ≤ 2199030595584 := by
  have h1 := lsz_boundR 1048576 s.l h.2.1
  have h2 := Nat.mul_le_mul_right (1048576 + 4) h.1
  have h3 := h.2.2
  unfold msz; omega
theorem psR_lenR (s : St) : (psR s).1.length ≤ 4000 := by
  unfold psR
  split
  · split
    · assumption
    · simp
  · simp
theorem whR_len (r : Rp) : (whR r).2.length ≤ 4000 := by
  unfold whR
  split
  · exact psR_lenR r.s
  · simp
theorem wh2 {f : FuncId} {args : Array Value} {w : World} {r : Rp} {k : Int} {T : List UInt8} {ok : Bool} (h1 : (whR r).1 = k ∧ (whR r).2 = T ∧ rpOk r = ok) (h : Calls Tryz.prog f args w fun e w' => ∃ v', e = .returned (.tuple #[.agg #[.int .i64 (whR r).1, v'], .bool (rpOk r)]) ∧ Own w [.own v' (whR r).2] w') :
    Calls Tryz.prog f args w fun e w' => ∃ v', e = .returned (.tuple #[.agg #[.int .i64 k, v'], .bool ok]) ∧ Own w [.own v' T] w' := by
  rw [h1.1, h1.2.1, h1.2.2] at h; exact h
end Go.Proofs.YtkafflbakgkpcaaGreat
namespace Go.Proofs.YtkafflbakgkpcaaGreat
set_option linter.unusedSimpArgs false
set_option linter.unusedVariables false
open Go.RowKit Go.Ow
attribute [local irreducible] wpQuiet
set_option maxRecDepth 100000
set_option maxHeartbeats 2000000 in
theorem heldLeafS (xs : List Lf) (v : Value) (k : Nat) (w : World) (hv : Rd w v (mls xs k)) (hk : k + lsz xs ≤ 4611686018427387904) : Calls Tryz.prog 39 #[v, .int .i64 k] w fun e w' => e = .returned (.int .i64 ((k + lsz xs : Nat) : Int)) ∧ Below w.heap.size w w' := by
  obtain ⟨A, c, rfl, hc, hl⟩ := hv.val
  have hlen := mls_len xs k
  rw [hlen] at hv hc hl ⊢
  have HS := Own.start w
  go_enter Tryz.func39, Tryz.ntmps39
  go_wp2
  go_loopw [1, 5] (fun kk i wr => ∃ j : Nat, j ≤ xs.length ∧ i = .int .i64 j ∧ kk = .int .i64 ((k + lsz (xs.take j) : Nat) : Int) ∧ Own w [] wr) (fun _ i _ => xs.length - (intOf i).toNat)
  case atStart => exact ⟨0, by omega, rfl, rfl, HS⟩
  case round =>
    obtain ⟨j, hj, rfl, rfl, HS'⟩ := hrel
    clear HS
    by_cases hlt : j < xs.length
    · have hlt2 : j < (mls xs k).length := by rw [mls_len]; exact hlt
      obtain ⟨b, o, rfl⟩ := hv.fix (by omega)
      obtain ⟨vp, hx⟩ := Lf.rd hv j hlt2
      simp only [mls_at xs k j hlt] at hx
      have hs1 := lsz_succ xs j hlt
      have hle := lsz_le xs (j + 1)
      obtain ⟨k', hk'⟩ : ∃ k', k + lsz (xs.take j) = k' := ⟨_, rfl⟩
      have hk2 : k + lsz (xs.take (j + 1)) = k' + (xs[j].p.length + 4) := by omega
      obtain ⟨n, hn⟩ : ∃ n, xs[j].p.length = n := ⟨_, rfl⟩
      simp only [hk', mlf, hn] at hx
      rw [hn] at hk2
      have HK := Lib.hid hk2
      have hb : k' + n + 4 ≤ 4611686018427387904 := by omega
      rw [hk']
      have HX := Lib.hid hx
      clear hk' hk2 hs1 hle hn hx hlt2 hlen
      obtain ⟨hpx, c0, c1, c2, c3, c4⟩ := HX.out wr HS'.below
      obtain ⟨A', c', rfl, _, _⟩ := hpx.val
      have hnn : (0 : Int) ≤ ((k' + n : Nat) : Int) := by omega
      go_wp2_with fail
      refine (heldStringS n _ k' _ hpx (by omega)).mono ?_
      rintro e w2 ⟨rfl, hb2⟩
      have HS := HS'.of_below hb2
      clear c0 c1 c2 c3 c4 hpx
      obtain ⟨-, c0, c1, c2, c3, c4⟩ := HX.out w2 HS.below
      go_wp2
      go_region_held3 (fun w' => w'.cell? ⟨b, o + j * 5 + 4, none⟩ = some (.string (mtx (k' + n + 3)))) (first | go_keep) (first | (go_at_call 38; refine (markText (k' + n + 3) _ (by omega)).mono ?_; rintro e w1 ⟨rfl, hb⟩; skip; (first | have H' := HS.of_below hb | have H' := HS.drew.of_below hb | have H' := (HS.box0 [_] _).of_below hb | have H' := ((HS.box0 [_] _).box0 [_] _).of_below hb | have H' := (HS.box0 [_] _).drew.of_below hb | have H' := (HS.alloc _).of_below hb | have H' := ((HS.alloc _).alloc _).of_below hb | have H' := (HS.alloc _).drew.of_below hb); clear HS; have HS := H'; clear H'; have F := HS.facts; simp only [Own.Facts, Own.Cells, World.size_alloc, List.cons_append, List.nil_append, List.eraseIdx_cons_succ, List.eraseIdx_cons_zero, List.eraseIdx_zero, List.tail_cons, Nat.zero_add] at F; try (have r1 := (HX.out _ HS.below).2.2.2.2.2)))
      go_wp2
      go_roundw
      case rel => exact ⟨j + 1, by omega, by go_num, by rw [HK.out]; go_num, HS⟩
      case measure => simp [intOf]; omega
    · go_wp2
      go_ret
      obtain rfl : j = xs.length := by omega
      exact ⟨by rw [List.take_length]; rfl, HS'.below⟩
theorem heldState {W : World} {R : List Ds} (s : St) (vl vc : Value) (k : Nat) (w : World) (HS0 : Own W (.own vl (mst s k).l :: .own vc (mst s k).c :: R) w) (hk : k + msz s ≤ 4611686018427387904) : Calls Tryz.prog 16 #[.agg #[vl, vc], .int .i64 k] w fun e w' => e = .returned (.int .i64 ((k + msz s : Nat) : Int)) ∧ Below w.heap.size w w' := by
  change Own W (.own vl (mls s.l k) :: .own vc (rmarks s.c.length (k + lsz s.l)) :: R) w at HS0
  obtain ⟨A, c, rfl, _, _⟩ := (HS0.rd 0 rfl).val
  obtain ⟨B, d, rfl, _, hcl⟩ := (HS0.rd 1 rfl).val
  have hcl2 : s.c.length ≤ 140737488355328 := by rw [← rmarks_len s.c.length (k + lsz s.l)]; exact hcl
  have hm : k + lsz s.l + 3 * s.c.length ≤ 4611686018427387904 := by unfold msz at hk; omega
  have HS := HS0.box [.slice A (mls s.l k).length c, .slice B (rmarks s.c.length (k + lsz s.l)).length d] 36
  have HB := (Own.start w).box [.slice A (mls s.l k).length c, .slice B (rmarks s.c.length (k + lsz s.l)).length d] 36
  clear HS0 hcl hk
  go_enter Tryz.func16, Tryz.ntmps16
  have F := HS.facts; simp only [Own.Facts, Own.Cells, World.size_alloc, List.cons_append, List.nil_append, List.eraseIdx_cons_succ, List.eraseIdx_cons_zero, List.eraseIdx_zero, List.tail_cons, Nat.zero_add] at F
  go_wp2_with fail
  refine (heldLeafS s.l _ k _ (HS.rd 1 rfl) (by omega)).mono ?_
  rintro e w1 ⟨rfl, hb⟩
  replace HS := HS.of_below hb
  replace HB := HB.of_below hb
  clear F hb
  have F := HS.facts; simp only [Own.Facts, Own.Cells, World.size_alloc, List.cons_append, List.nil_append, List.eraseIdx_cons_succ, List.eraseIdx_cons_zero, List.eraseIdx_zero, List.tail_cons, Nat.zero_add] at F
  have hnn : (0 : Int) ≤ ((k + lsz s.l : Nat) : Int) := by omega
  go_wp2_with fail
  refine (heldContext s.c _ (k + lsz s.l) _ (HS.pick 2 rfl) (by omega) hcl2).mono ?_
  rintro e w2 ⟨rfl, hb⟩
  replace HB := HB.of_below hb
  clear F hb HS
  have hnn2 : (0 : Int) ≤ ((k + lsz s.l + 3 * s.c.length : Nat) : Int) := by omega
  go_wp2
  go_ret
  exact ⟨by unfold msz; rw [← Nat.add_assoc]; rfl, HB.below⟩
end Go.Proofs.YtkafflbakgkpcaaGreat
