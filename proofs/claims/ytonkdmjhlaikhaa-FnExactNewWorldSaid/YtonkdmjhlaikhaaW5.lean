/- NewWorld: marks of replicas and pipes. -/
import Derived.Test.YtonkdmjhlaikhaaW4
namespace Go.Proofs.Ytonkdmjhlaikhaa
set_option linter.unusedSimpArgs false
set_option linter.unusedVariables false
open Go.RowKit Go.Ow
attribute [local irreducible] wpQuiet
set_option maxRecDepth 100000
theorem markRunS0 (A : Option Addr) (k : Nat) (w : World) (hk : k ≤ 4000) : Calls Try.prog 59 #[.slice A 0 0, .int .i64 k] w fun e w' => e = .returned (.int .i64 k) ∧ Below w.heap.size w w' := by
  have HS := Own.start w
  go_enter Try.func59, Try.ntmps59
  go_wp2
  go_loopw [1, 5] (fun kk i wr => kk = .int .i64 k ∧ i = .int .i64 0 ∧ Own w [] wr) (fun _ _ _ => 0)
  case atStart => exact ⟨rfl, rfl, HS⟩
  case round =>
    obtain ⟨rfl, rfl, HS'⟩ := hrel
    go_wp2
    go_ret
    exact ⟨rfl, HS'.below⟩
theorem heldRunS0 (A : Option Addr) (k : Nat) (w : World) (hk : k ≤ 4000) : Calls Try.prog 84 #[.slice A 0 0, .int .i64 k] w fun e w' => e = .returned (.int .i64 k) ∧ Below w.heap.size w w' := by
  have HS := Own.start w
  go_enter Try.func84, Try.ntmps84
  go_wp2
  go_loopw [1, 5] (fun kk i wr => kk = .int .i64 k ∧ i = .int .i64 0 ∧ Own w [] wr) (fun _ _ _ => 0)
  case atStart => exact ⟨rfl, rfl, HS⟩
  case round =>
    obtain ⟨rfl, rfl, HS'⟩ := hrel
    go_wp2
    go_ret
    exact ⟨rfl, HS'.below⟩
theorem markByteS0 (A : Option Addr) (k : Nat) (w : World) (hk : k ≤ 4000) : Calls Try.prog 21 #[.slice A 0 0, .int .i64 k] w fun e w' => e = .returned (.int .i64 k) ∧ Below w.heap.size w w' := by
  have HS := Own.start w
  go_enter Try.func21, Try.ntmps21
  go_wp2
  go_loopw [1, 5] (fun kk i wr => kk = .int .i64 k ∧ i = .int .i64 0 ∧ Own w [] wr) (fun _ _ _ => 0)
  case atStart => exact ⟨rfl, rfl, HS⟩
  case round =>
    obtain ⟨rfl, rfl, HS'⟩ := hrel
    go_wp2
    go_ret
    exact ⟨rfl, HS'.below⟩
theorem heldByteS0 (A : Option Addr) (k : Nat) (w : World) (hk : k ≤ 4000) : Calls Try.prog 22 #[.slice A 0 0, .int .i64 k] w fun e w' => e = .returned (.int .i64 k) ∧ Below w.heap.size w w' := by
  have HS := Own.start w
  go_enter Try.func22, Try.ntmps22
  go_wp2
  go_loopw [1, 5] (fun kk i wr => kk = .int .i64 k ∧ i = .int .i64 0 ∧ Own w [] wr) (fun _ _ _ => 0)
  case atStart => exact ⟨rfl, rfl, HS⟩
  case round =>
    obtain ⟨rfl, rfl, HS'⟩ := hrel
    go_wp2
    go_ret
    exact ⟨rfl, HS'.below⟩
theorem markByteSS0 (A : Option Addr) (k : Nat) (w : World) (hk : k ≤ 4000) : Calls Try.prog 103 #[.slice A 0 0, .int .i64 k] w fun e w' => e = .returned (.int .i64 k) ∧ Below w.heap.size w w' := by
  have HS := Own.start w
  go_enter Try.func103, Try.ntmps103
  go_wp2
  go_loopw [1, 5] (fun kk i wr => kk = .int .i64 k ∧ i = .int .i64 0 ∧ Own w [] wr) (fun _ _ _ => 0)
  case atStart => exact ⟨rfl, rfl, HS⟩
  case round =>
    obtain ⟨rfl, rfl, HS'⟩ := hrel
    go_wp2
    go_ret
    exact ⟨rfl, HS'.below⟩
theorem heldByteSS0 (A : Option Addr) (k : Nat) (w : World) (hk : k ≤ 4000) : Calls Try.prog 104 #[.slice A 0 0, .int .i64 k] w fun e w' => e = .returned (.int .i64 k) ∧ Below w.heap.size w w' := by
  have HS := Own.start w
  go_enter Try.func104, Try.ntmps104
  go_wp2
  go_loopw [1, 5] (fun kk i wr => kk = .int .i64 k ∧ i = .int .i64 0 ∧ Own w [] wr) (fun _ _ _ => 0)
  case atStart => exact ⟨rfl, rfl, HS⟩
  case round =>
    obtain ⟨rfl, rfl, HS'⟩ := hrel
    go_wp2
    go_ret
    exact ⟨rfl, HS'.below⟩

theorem leafM (A : Option Addr) (k : Nat) (w : World) (hk : k ≤ 4000) : Calls Try.prog 94 #[.slice A 0 0, .int .i64 k] w fun e w' => e = .returned (.int .i64 k) ∧ Below w.heap.size w w' := by
  have HS := Own.start w
  go_enter Try.func94, Try.ntmps94
  go_wp2
  go_loopw [1, 5] (fun kk i wr => kk = .int .i64 k ∧ i = .int .i64 0 ∧ Own w [] wr) (fun _ _ _ => 0)
  case atStart => exact ⟨rfl, rfl, HS⟩
  case round =>
    obtain ⟨rfl, rfl, HS'⟩ := hrel
    go_wp2
    go_ret
    exact ⟨rfl, HS'.below⟩
theorem leafH (A : Option Addr) (k : Nat) (w : World) (hk : k ≤ 4000) : Calls Try.prog 95 #[.slice A 0 0, .int .i64 k] w fun e w' => e = .returned (.int .i64 k) ∧ Below w.heap.size w w' := by
  have HS := Own.start w
  go_enter Try.func95, Try.ntmps95
  go_wp2
  go_loopw [1, 5] (fun kk i wr => kk = .int .i64 k ∧ i = .int .i64 0 ∧ Own w [] wr) (fun _ _ _ => 0)
  case atStart => exact ⟨rfl, rfl, HS⟩
  case round =>
    obtain ⟨rfl, rfl, HS'⟩ := hrel
    go_wp2
    go_ret
    exact ⟨rfl, HS'.below⟩
theorem Rz.row {W w : World} {R : List Ds} {g n cap : Nat} {xs : List Rz} (h : Own W (.own (.slice (some ⟨g, 0, none⟩) n cap) xs :: R) w) (i : Nat) (hi : i < xs.length) :
    (w.cell? ⟨g, i * 5, none⟩ = some (.int .i64 xs[i].i) ∧ w.cell? ⟨g, i * 5 + 1, none⟩ = some (.slice xs[i].A.a 0 0) ∧ w.cell? ⟨g, i * 5 + 2, none⟩ = some (.slice xs[i].B.a 0 0) ∧ w.cell? ⟨g, i * 5 + 3, none⟩ = some (.slice xs[i].C.a 0 0) ∧ w.cell? ⟨g, i * 5 + 4, none⟩ = some (.slice xs[i].D.a 0 0)) ∧ ∀ j, w.frozen? ⟨g, j, none⟩ = false :=
  ⟨⟨h.rowc.1 i hi 0 (by decide), h.rowc.1 i hi 1 (by decide), h.rowc.1 i hi 2 (by decide), h.rowc.1 i hi 3 (by decide), h.rowc.1 i hi 4 (by decide)⟩, h.rowc.2⟩
theorem Rz.put {W w : World} {R : List Ds} {g n cap : Nat} {xs : List Rz} (h : Own W (.own (.slice (some ⟨g, 0, none⟩) n cap) xs :: R) w) (i : Nat) (hi : i < xs.length) (x : Int) :
    Own W (.own (.slice (some ⟨g, 0, none⟩) n cap) (xs.set i ⟨x, xs[i].A, xs[i].B, xs[i].C, xs[i].D⟩) :: R) (w.setCell ⟨g, i * 5, none⟩ (.int .i64 x)) :=
  h.put i hi 0 (by decide) (.int .i64 x) ⟨x, xs[i].A, xs[i].B, xs[i].C, xs[i].D⟩ rfl
set_option maxHeartbeats 2000000 in
theorem markReplicaS {W : World} {R : List Ds} (xs : List Rz) (v : Value) (k : Nat) (w : World) (HS : Own W (.own v xs :: R) w) (hk : k ≤ 1000) (hx : xs.length ≤ 100) : Calls Try.prog 72 #[v, .int .i64 k] w fun e w' => e = .returned (.int .i64 ((k + xs.length : Nat) : Int)) ∧ ∃ zs : List Rz, Hid (zs.length = xs.length) ∧ Hid (∀ i (h : i < zs.length), zs[i].i = ((k + i : Nat) : Int)) ∧ Own W (.own v zs :: R) w' := by
  obtain ⟨A, c, rfl, hc, hl⟩ := (HS.rd 0 rfl).val
  obtain ⟨n, hn⟩ : ∃ n, xs.length = n := ⟨_, rfl⟩
  rw [hn] at HS hx ⊢
  have HN := Lib.hid hn
  clear hn hc hl
  go_enter Try.func72, Try.ntmps72
  go_wp2
  go_loopw [1, 5] (fun kk i wr => ∃ (j : Nat) (zs : List Rz), j ≤ n ∧ i = .int .i64 j ∧ kk = .int .i64 ((k + j : Nat) : Int) ∧ Hid (zs.length = n) ∧ Hid (∀ i (h : i < zs.length), i < j → zs[i].i = ((k + i : Nat) : Int)) ∧ Own W (.own (.slice A n c) zs :: R) wr) (fun _ i _ => n - (intOf i).toNat)
  case atStart => exact ⟨0, xs, by omega, rfl, rfl, HN, Lib.hid (fun i h h' => by omega), HS⟩
  case round =>
    obtain ⟨j, zs, hj, rfl, rfl, hzl, hz, H1⟩ := hrel
    clear HS
    by_cases hlt : j < n
    · have hjz : j < zs.length := by have := hzl.out; omega
      obtain ⟨g, rfl⟩ : ∃ g, A = some ⟨g, 0, none⟩ := by
        have := hzl.out
        subst this
        exact H1.fix (by omega)
      obtain ⟨r0, hfr⟩ := Rz.row H1 j hjz
      have H2 := Rz.put H1 j hjz ((k + j : Nat) : Int)
      have hjz2 : j < (zs.set j ⟨((k + j : Nat) : Int), zs[j].A, zs[j].B, zs[j].C, zs[j].D⟩).length := by simpa using hjz
      have HZ2 := Lib.hid (show (zs.set j ⟨((k + j : Nat) : Int), zs[j].A, zs[j].B, zs[j].C, zs[j].D⟩).length = n by rw [List.length_set]; exact hzl.out)
      have HY := Lib.hid (show ∀ i (h : i < (zs.set j ⟨((k + j : Nat) : Int), zs[j].A, zs[j].B, zs[j].C, zs[j].D⟩).length), i < j + 1 → ((zs.set j ⟨((k + j : Nat) : Int), zs[j].A, zs[j].B, zs[j].C, zs[j].D⟩)[i]).i = ((k + i : Nat) : Int) by
        intro i h h'
        rw [List.getElem_set]
        split
        · rename_i e; subst e; rfl
        · exact hz.out i (by simpa using h) (by omega))
      clear r0 hfr
      obtain ⟨r0, hfr⟩ := Rz.row H1 j hjz
      generalize hys : zs.set j ⟨((k + j : Nat) : Int), zs[j].A, zs[j].B, zs[j].C, zs[j].D⟩ = ys at H2 hjz2 HZ2 HY
      clear hys
      have F2 := Rz.row H2 j hjz2
      go_wp2_with fail
      refine (leafM _ (k + j + 1) _ (by omega)).mono ?_
      rintro e w3 ⟨rfl, hb3⟩
      have H3 := H2.of_below hb3
      clear F2 r0 hfr H1 H2 hb3
      have F3 := Rz.row H3 j hjz2
      go_wp2_with fail
      refine (markRunS0 _ (k + j + 1) _ (by omega)).mono ?_
      rintro e w4 ⟨rfl, hb4⟩
      have H4 := H3.of_below hb4
      clear F3 H3 hb4
      have F4 := Rz.row H4 j hjz2
      go_wp2_with fail
      refine (leafM _ (k + j + 1) _ (by omega)).mono ?_
      rintro e w5 ⟨rfl, hb5⟩
      have H5 := H4.of_below hb5
      clear F4 H4 hb5
      have F5 := Rz.row H5 j hjz2
      go_wp2_with fail
      refine (markRunS0 _ (k + j + 1) _ (by omega)).mono ?_
      rintro e w6 ⟨rfl, hb6⟩
      have H6 := H5.of_below hb6
      clear F5 H5 hb6
      go_wp2
      go_roundw
      case rel => exact ⟨j + 1, ys, by omega, by go_num, by go_num, HZ2, HY, H6⟩
      case measure => simp [intOf]; omega
    · obtain rfl : j = n := by omega
      go_wp2
      go_ret
      exact ⟨rfl, zs, hzl, Lib.hid (fun i h => hz.out i h (by have := hzl.out; omega)), H1⟩
end Go.Proofs.Ytonkdmjhlaikhaa
