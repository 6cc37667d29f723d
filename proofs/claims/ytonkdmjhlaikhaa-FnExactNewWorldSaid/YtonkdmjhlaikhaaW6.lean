/- NewWorld: marks of pipes, and what is held. -/
import Derived.Test.YtonkdmjhlaikhaaW5
namespace Go.Proofs.Ytonkdmjhlaikhaa
set_option linter.unusedSimpArgs false
set_option linter.unusedVariables false
open Go.RowKit Go.Ow
attribute [local irreducible] wpQuiet
set_option maxRecDepth 100000
theorem Pz.row {W w : World} {R : List Ds} {g n cap : Nat} {xs : List Pz} (h : Own W (.own (.slice (some ⟨g, 0, none⟩) n cap) xs :: R) w) (i : Nat) (hi : i < xs.length) :
    (w.cell? ⟨g, i * 6, none⟩ = some (.int .i64 xs[i].f) ∧ w.cell? ⟨g, i * 6 + 1, none⟩ = some (.int .i64 xs[i].t) ∧ w.cell? ⟨g, i * 6 + 2, none⟩ = some (.slice xs[i].M.a 0 0) ∧ w.cell? ⟨g, i * 6 + 3, none⟩ = some (.slice xs[i].B.a 0 0) ∧ w.cell? ⟨g, i * 6 + 4, none⟩ = some (.int .i64 xs[i].n) ∧ w.cell? ⟨g, i * 6 + 5, none⟩ = some (.int .i64 xs[i].m)) ∧ ∀ j, w.frozen? ⟨g, j, none⟩ = false :=
  ⟨⟨h.rowc.1 i hi 0 (by decide), h.rowc.1 i hi 1 (by decide), h.rowc.1 i hi 2 (by decide), h.rowc.1 i hi 3 (by decide), h.rowc.1 i hi 4 (by decide), h.rowc.1 i hi 5 (by decide)⟩, h.rowc.2⟩
theorem Pz.putA {W w : World} {R : List Ds} {g n cap : Nat} {xs : List Pz} (h : Own W (.own (.slice (some ⟨g, 0, none⟩) n cap) xs :: R) w) (i : Nat) (hi : i < xs.length) (x y : Int) :
    Own W (.own (.slice (some ⟨g, 0, none⟩) n cap) (xs.set i ⟨x, y, xs[i].M, xs[i].B, xs[i].n, xs[i].m⟩) :: R) ((w.setCell ⟨g, i * 6, none⟩ (.int .i64 x)).setCell ⟨g, i * 6 + 1, none⟩ (.int .i64 y)) := by
  have h1 := h.put i hi 0 (by decide) (.int .i64 x) ⟨x, xs[i].t, xs[i].M, xs[i].B, xs[i].n, xs[i].m⟩ rfl
  have h2 := h1.put i (by simpa using hi) 1 (by decide) (.int .i64 y) ⟨x, y, xs[i].M, xs[i].B, xs[i].n, xs[i].m⟩ (by simp; rfl)
  rw [List.set_set] at h2
  exact h2
theorem Pz.putB {W w : World} {R : List Ds} {g n cap : Nat} {xs : List Pz} (h : Own W (.own (.slice (some ⟨g, 0, none⟩) n cap) xs :: R) w) (i : Nat) (hi : i < xs.length) (x y : Int) :
    Own W (.own (.slice (some ⟨g, 0, none⟩) n cap) (xs.set i ⟨xs[i].f, xs[i].t, xs[i].M, xs[i].B, x, y⟩) :: R) ((w.setCell ⟨g, i * 6 + 4, none⟩ (.int .i64 x)).setCell ⟨g, i * 6 + 5, none⟩ (.int .i64 y)) := by
  have h1 := h.put i hi 4 (by decide) (.int .i64 x) ⟨xs[i].f, xs[i].t, xs[i].M, xs[i].B, x, xs[i].m⟩ rfl
  have h2 := h1.put i (by simpa using hi) 5 (by decide) (.int .i64 y) ⟨xs[i].f, xs[i].t, xs[i].M, xs[i].B, x, y⟩ (by simp; rfl)
  rw [List.set_set] at h2
  exact h2
def pmark (k i : Nat) (p : Pz) : Prop := p.f = ((k + 4 * i : Nat) : Int) ∧ p.t = ((k + 4 * i + 1 : Nat) : Int) ∧ p.n = ((k + 4 * i + 2 : Nat) : Int) ∧ p.m = ((k + 4 * i + 3 : Nat) : Int)
set_option maxHeartbeats 2000000 in
theorem markPipeS {W : World} {R : List Ds} (xs : List Pz) (v : Value) (k : Nat) (w : World) (HS : Own W (.own v xs :: R) w) (hk : k ≤ 1000) (hx : xs.length ≤ 100) : Calls Try.prog 73 #[v, .int .i64 k] w fun e w' => e = .returned (.int .i64 ((k + 4 * xs.length : Nat) : Int)) ∧ ∃ zs : List Pz, Hid (zs.length = xs.length) ∧ Hid (∀ i (h : i < zs.length), pmark k i zs[i]) ∧ Own W (.own v zs :: R) w' := by
  obtain ⟨A, c, rfl, hc, hl⟩ := (HS.rd 0 rfl).val
  obtain ⟨n, hn⟩ : ∃ n, xs.length = n := ⟨_, rfl⟩
  rw [hn] at HS hx ⊢
  have HN := Lib.hid hn
  clear hn hc hl
  go_enter Try.func73, Try.ntmps73
  go_wp2
  go_loopw [1, 5] (fun kk i wr => ∃ (j : Nat) (zs : List Pz), j ≤ n ∧ i = .int .i64 j ∧ kk = .int .i64 ((k + 4 * j : Nat) : Int) ∧ Hid (zs.length = n) ∧ Hid (∀ i (h : i < zs.length), i < j → pmark k i zs[i]) ∧ Own W (.own (.slice A n c) zs :: R) wr) (fun _ i _ => n - (intOf i).toNat)
  case atStart => exact ⟨0, xs, by omega, rfl, rfl, HN, Lib.hid (fun i h h' => by omega), HS⟩
  case round =>
    obtain ⟨j, zs, hj, rfl, rfl, hzl, hz, H1⟩ := hrel
    clear HS
    by_cases hlt : j < n
    · have hjz : j < zs.length := by have := hzl.out; omega
      obtain ⟨g, rfl⟩ : ∃ g, A = some ⟨g, 0, none⟩ := by
        have := hzl.out
        subst this
        exact H1.fix (by omega)
      obtain ⟨r0, hfr⟩ := Pz.row H1 j hjz
      have H2 := Pz.putA H1 j hjz ((k + 4 * j : Nat) : Int) ((k + 4 * j + 1 : Nat) : Int)
      obtain ⟨ys, hys⟩ : ∃ ys, zs.set j ⟨((k + 4 * j : Nat) : Int), ((k + 4 * j + 1 : Nat) : Int), zs[j].M, zs[j].B, zs[j].n, zs[j].m⟩ = ys := ⟨_, rfl⟩
      rw [hys] at H2
      have hyl : ys.length = n := by rw [← hys, List.length_set]; exact hzl.out
      have hjz2 : j < ys.length := by omega
      have HYL := Lib.hid hyl
      have HYF := Lib.hid (show ys[j].f = ((k + 4 * j : Nat) : Int) ∧ ys[j].t = ((k + 4 * j + 1 : Nat) : Int) by subst hys; simp)
      have HY := Lib.hid (show ∀ i (h : i < ys.length), i < j → pmark k i ys[i] by
        subst hys
        intro i h h'
        rw [List.getElem_set, if_neg (by omega)]
        exact hz.out i (by simpa using h) h')
      clear hys hyl
      have F2 := Pz.row H2 j hjz2
      go_wp2_with fail
      refine (markByteSS0 _ (k + 4 * j + 2) _ (by omega)).mono ?_
      rintro e w3 ⟨rfl, hb3⟩
      have H3 := H2.of_below hb3
      clear F2 r0 hfr H1 H2 hb3
      have F3 := Pz.row H3 j hjz2
      go_wp2_with fail
      refine (markByteS0 _ (k + 4 * j + 2) _ (by omega)).mono ?_
      rintro e w4 ⟨rfl, hb4⟩
      have H4 := H3.of_below hb4
      clear F3 H3 hb4
      have F4 := Pz.row H4 j hjz2
      have H5 := Pz.putB H4 j hjz2 ((k + 4 * j + 2 : Nat) : Int) ((k + 4 * j + 3 : Nat) : Int)
      go_wp2
      go_roundw
      case rel => exact ⟨j + 1, _, by omega, by go_num, by go_num, Lib.hid (by rw [List.length_set]; exact HYL.out), Lib.hid (fun i h h' => by
        rw [List.getElem_set]
        split
        · rename_i e; subst e; exact ⟨HYF.out.1, HYF.out.2, rfl, rfl⟩
        · exact HY.out i (by simpa using h) (by omega)), H5⟩
      case measure => simp [intOf]; omega
    · obtain rfl : j = n := by omega
      go_wp2
      go_ret
      exact ⟨rfl, zs, hzl, Lib.hid (fun i h => hz.out i h (by have := hzl.out; omega)), H1⟩
set_option maxHeartbeats 2000000 in
theorem heldReplicaS (zs : List Rz) (v : Value) (k : Nat) (w : World) (hv : Rd w v zs) (hk : k ≤ 1000) (hx : zs.length ≤ 100) (hz : ∀ i (h : i < zs.length), zs[i].i = ((k + i : Nat) : Int)) : Calls Try.prog 74 #[v, .int .i64 k] w fun e w' => e = .returned (.int .i64 ((k + zs.length : Nat) : Int)) ∧ Below w.heap.size w w' := by
  obtain ⟨A, c, rfl, hc, hl⟩ := hv.val
  have HS := Own.start w
  have HZ := Lib.hid hz
  clear hz
  go_enter Try.func74, Try.ntmps74
  go_wp2
  go_loopw [1, 5] (fun kk i wr => ∃ j : Nat, j ≤ zs.length ∧ i = .int .i64 j ∧ kk = .int .i64 ((k + j : Nat) : Int) ∧ Own w [] wr) (fun _ i _ => zs.length - (intOf i).toNat)
  case atStart => exact ⟨0, by omega, rfl, rfl, HS⟩
  case round =>
    obtain ⟨j, hj, rfl, rfl, HS'⟩ := hrel
    by_cases hlt : j < zs.length
    · obtain ⟨b, o, rfl⟩ := hv.fix (by omega)
      have r0 := Rz.rd (HS'.old hv) j hlt
      rw [HZ.out j hlt] at r0
      go_wp2_with fail
      refine (leafH _ (k + j + 1) _ (by omega)).mono ?_
      rintro e w3 ⟨rfl, hb3⟩
      replace HS' := HS'.of_below hb3
      clear r0 hb3
      have r0 := Rz.rd (HS'.old hv) j hlt
      go_wp2_with fail
      refine (heldRunS0 _ (k + j + 1) _ (by omega)).mono ?_
      rintro e w4 ⟨rfl, hb3⟩
      replace HS' := HS'.of_below hb3
      clear r0 hb3
      have r0 := Rz.rd (HS'.old hv) j hlt
      go_wp2_with fail
      refine (leafH _ (k + j + 1) _ (by omega)).mono ?_
      rintro e w5 ⟨rfl, hb3⟩
      replace HS' := HS'.of_below hb3
      clear r0 hb3
      have r0 := Rz.rd (HS'.old hv) j hlt
      go_wp2_with fail
      refine (heldRunS0 _ (k + j + 1) _ (by omega)).mono ?_
      rintro e w6 ⟨rfl, hb3⟩
      replace HS' := HS'.of_below hb3
      clear r0 hb3
      go_wp2
      go_roundw
      case rel => exact ⟨j + 1, by omega, by go_num, by go_num, HS'⟩
      case measure => simp [intOf]; omega
    · obtain rfl : j = zs.length := by omega
      go_wp2
      go_ret
      exact ⟨rfl, HS'.below⟩
set_option maxHeartbeats 2000000 in
theorem heldPipeS (zs : List Pz) (v : Value) (k : Nat) (w : World) (hv : Rd w v zs) (hk : k ≤ 1000) (hx : zs.length ≤ 100) (hz : ∀ i (h : i < zs.length), pmark k i zs[i]) : Calls Try.prog 75 #[v, .int .i64 k] w fun e w' => e = .returned (.int .i64 ((k + 4 * zs.length : Nat) : Int)) ∧ Below w.heap.size w w' := by
  obtain ⟨A, c, rfl, hc, hl⟩ := hv.val
  have HS := Own.start w
  have HZ := Lib.hid hz
  clear hz
  go_enter Try.func75, Try.ntmps75
  go_wp2
  go_loopw [1, 5] (fun kk i wr => ∃ j : Nat, j ≤ zs.length ∧ i = .int .i64 j ∧ kk = .int .i64 ((k + 4 * j : Nat) : Int) ∧ Own w [] wr) (fun _ i _ => zs.length - (intOf i).toNat)
  case atStart => exact ⟨0, by omega, rfl, rfl, HS⟩
  case round =>
    obtain ⟨j, hj, rfl, rfl, HS'⟩ := hrel
    by_cases hlt : j < zs.length
    · obtain ⟨b, o, rfl⟩ := hv.fix (by omega)
      obtain ⟨p1, p2, p3, p4⟩ := HZ.out j hlt
      have P := Lib.hid (And.intro p1 (And.intro p2 (And.intro p3 p4)))
      clear p1 p2 p3 p4
      have r0 := Pz.rd (HS'.old hv) j hlt
      rw [P.out.1, P.out.2.1, P.out.2.2.1, P.out.2.2.2] at r0
      go_wp2_with fail
      refine (heldByteSS0 _ (k + 4 * j + 2) _ (by omega)).mono ?_
      rintro e w3 ⟨rfl, hb3⟩
      replace HS' := HS'.of_below hb3
      clear r0 hb3
      have r0 := Pz.rd (HS'.old hv) j hlt
      rw [P.out.1, P.out.2.1, P.out.2.2.1, P.out.2.2.2] at r0
      go_wp2_with fail
      refine (heldByteS0 _ (k + 4 * j + 2) _ (by omega)).mono ?_
      rintro e w4 ⟨rfl, hb3⟩
      replace HS' := HS'.of_below hb3
      clear r0 hb3
      have r0 := Pz.rd (HS'.old hv) j hlt
      rw [P.out.1, P.out.2.1, P.out.2.2.1, P.out.2.2.2] at r0
      go_wp2
      go_roundw
      case rel => exact ⟨j + 1, by omega, by go_num, by go_num, HS'⟩
      case measure => simp [intOf]; omega
    · obtain rfl : j = zs.length := by omega
      go_wp2
      go_ret
      exact ⟨rfl, HS'.below⟩
end Go.Proofs.Ytonkdmjhlaikhaa
