/- A live context put into another one: the program's add. The runs of a live context: the program's context. -/
import Derived.Test.YtkafflbakgkpcaaGreatVa
import Derived.Test.YtkafflbakgkpcaaGreatL1
/-FM-/
namespace Go.Proofs.YtkafflbakgkpcaaGreat
set_option linter.unusedSimpArgs false
set_option linter.unusedVariables false
open Go.RowKit Go.Ow Go.MapKept
attribute [local irreducible] wpQuiet
set_option maxRecDepth 100000
end Go.Proofs.YtkafflbakgkpcaaGreat
namespace Go.Proofs.YtkafflbakgkpcaaGreat
set_option linter.unusedSimpArgs false
set_option linter.unusedVariables false
open Go.RowKit Go.Ow Go.MapKept
attribute [local irreducible] wpQuiet
set_option maxRecDepth 100000
theorem runsN_step (g : List (Int × List Sp)) (k : Nat) (h : k < 8) : runsN g (8 - k) k = ((mget g (k : Int)).map fun s => (⟨(k : Int), s.f, s.t⟩ : Rn)) ++ runsN g (8 - (k + 1)) (k + 1) := by
  rw [show 8 - k = (8 - (k + 1)) + 1 by omega, runsN]
set_option maxHeartbeats 2000000 in
theorem contextCloud {W0 : World} {R : List Ds} (g : List (Int × List Sp)) (es : Array MapEntry) (clock b1 : Nat) (w : World) (HS : Own W0 (.mapf es clock b1 g :: R) w) (hlen : (runsN g 8 0).length ≤ 4194304) :
    Calls Tryz.prog 88 #[.map (some b1)] w fun e w' => ∃ v, e = .returned (.agg #[v]) ∧ Own W0 (.own v (runsN g 8 0) :: .mapf es clock b1 g :: R) w' := by
  have HT := Lib.hid hlen
  clear hlen
  replace HS := (((HS.box (b := w.heap.size) [.slice none 0 0] 34).box (b := w.heap.size + 1) [.slice none 0 0] 34).nil (α := Rn))
  obtain ⟨sz, hsz⟩ : ∃ n, w.heap.size = n := ⟨_, rfl⟩
  go_enter Tryz.func88, Tryz.ntmps88
  rw [hsz] at HS
  go_wp2
  clear hsz
  go_loopw [8] (fun i wr => ∃ (k : Nat) (u : Value) (acc : List Rn), k ≤ 8 ∧ i = .int .i64 k ∧ Own W0 (.own u acc :: .box (sz + 1) 34 [u] :: .box sz 34 [.slice none 0 0] :: .mapf es clock b1 g :: R) wr ∧ runsN g 8 0 = acc ++ runsN g (8 - k) k) (fun i _ => 8 - (intOf i).toNat)
  case atStart => exact ⟨0, _, [], by omega, rfl, HS, rfl⟩
  case round =>
    obtain ⟨k, u, acc, hk, rfl, HS', he⟩ := hrel
    have HE := Lib.hid he
    clear he HS
    by_cases hlt : k < 8
    · have HM := HS'.pick 3 rfl
      simp only [List.eraseIdx_cons_succ, List.eraseIdx_cons_zero] at HM
      obtain ⟨v, hrun, hrd⟩ := HM.look Tryz.underlying87 Tryz.underlying3 zeroSpans (k : Int)
      have hl := hrun false wr (hrd HM).1
      have hrd2 : ∀ (w' : World) (R' : List Ds), Own W0 (.mapf es clock b1 g :: R') w' → Rd w' v (mget g (k : Int)) := fun _ _ h => (hrd h).2
      have HRD := Lib.hid hrd2
      have hrv := (hrd HM).2
      clear hrun hrd hrd2 HM
      have HK := Lib.hid (runsN_step g k hlt)
      obtain ⟨l, hll⟩ : ∃ l, mget g (k : Int) = l := ⟨_, rfl⟩
      rw [hll] at HK hrv
      obtain ⟨A3, c3, rfl, _, hl3⟩ := hrv.val
      clear hrv
      go_wp2
      obtain ⟨q9, hq9⟩ : ∃ q, decide ((k : Int) < 8) = q := ⟨_, rfl⟩
      rw [hq9]
      clear hq9
      go_loopw [15] (fun i wr => ∃ (j : Nat) (u : Value), j ≤ l.length ∧ i = .int .i64 j ∧ Own W0 (.own u (acc ++ (l.take j).map fun s => (⟨(k : Int), s.f, s.t⟩ : Rn)) :: .box (sz + 1) 34 [u] :: .box sz 34 [.slice none 0 0] :: .mapf es clock b1 g :: R) wr) (fun i _ => l.length - (intOf i).toNat)
      case atStart => exact ⟨0, u, by omega, rfl, by simpa using HS'⟩
      case round =>
        obtain ⟨j, u, hj, rfl, HS2⟩ := hrel
        have HLL := Lib.hid hll
        clear HS' hll
        by_cases hjl : j < l.length
        · have hrv := HRD.out _ _ (HS2.pick 3 rfl)
          rw [HLL.out] at hrv
          obtain ⟨b0, o, rfl⟩ := hrv.fix (by omega)
          have r0 := Sp.rd hrv j hjl
          have HTK := Lib.hid (List.take_succ_eq_append_getElem hjl)
          obtain ⟨s, hs⟩ : ∃ s, l[j] = s := ⟨_, rfl⟩
          rw [hs] at r0 HTK
          clear hs hrv
          obtain ⟨acc2, ha2⟩ : ∃ acc2, acc ++ (l.take j).map (fun s => (⟨(k : Int), s.f, s.t⟩ : Rn)) = acc2 := ⟨_, rfl⟩
          rw [ha2] at HS2
          have hal : acc2.length ≤ 4194304 := by
            have h1 := HT.out
            have h2 := congrArg List.length ha2
            rw [HE.out, HK.out, List.length_append, List.length_append, List.length_map] at h1
            rw [List.length_append, List.length_map, List.length_take] at h2
            omega
          have HA := Lib.hid ha2
          clear ha2
          obtain ⟨A6, c6, rfl, _, _⟩ := (HS2.rd 0 rfl).val
          have HS := HS2.box (b := wr.heap.size) [.int .i64 s.f, .int .i64 s.t] 116
          have HL := (HS.lit [(⟨(k : Int), s.f, s.t⟩ : Rn)] #[.int .i64 (k : Int), .int .i64 s.f, .int .i64 s.t] 81 rfl rfl (by simp)).pick 2 rfl
          simp only [List.eraseIdx_cons_succ, List.eraseIdx_cons_zero, World.size_alloc] at HL
          have F := HS.facts; simp only [Own.Facts, Ds.map, Own.Cells, World.size_alloc, List.cons_append, List.nil_append, List.eraseIdx_cons_succ, List.eraseIdx_cons_zero, List.eraseIdx_zero, List.tail_cons, Nat.zero_add] at F
          go_wp2_with (refine wp_app2 (α := Rn) rfl _ _ 32 rfl (by kernel_rfl) _ _ HL rfl _ _ rfl (HL.rd 1 rfl) (by show (_ + 1) * 24 ≤ _; omega) (by show _ + 1 ≤ _; omega) ?_; clear HL F; intro v5 q5 w5 hq5 hl5 H5; obtain ⟨A5, c5, rfl, _, _⟩ := (H5.rd 0 rfl).val; have F := H5.facts; simp only [Own.Facts, Ds.map, Ds.mapf, Own.Cells, List.eraseIdx_cons_succ, List.eraseIdx_cons_zero, Nat.zero_add] at F)
          have H6 := (H5.pick 3 rfl).set 0 (.slice A5 q5.length c5)
          simp only [List.eraseIdx_cons_succ, List.eraseIdx_cons_zero, List.set_cons_zero] at H6
          have H7 := (((H6.pick 2 rfl).drop.pick 2 rfl).drop.pick 1 rfl)
          simp only [List.eraseIdx_cons_succ, List.eraseIdx_cons_zero] at H7
          go_roundw
          case rel => exact ⟨j + 1, _, by omega, by go_num, by rw [HTK.out, List.map_append, ← List.append_assoc, HA.out, List.map_cons, List.map_nil, ← hq5.out]; exact H7⟩
          case measure => simp [intOf]; omega
        · obtain rfl : j = l.length := by omega
          rw [List.take_length] at HS2
          go_wp2
          go_roundw
          case rel => exact ⟨k + 1, _, _, by omega, by go_num, HS2, by rw [HE.out, HK.out, List.append_assoc]⟩
          case measure => simp [intOf]; omega
    · obtain rfl : k = 8 := by omega
      have HQ := Lib.hid (show runsN g 8 0 = acc by rw [HE.out]; simp [runsN])
      obtain ⟨A6, c6, rfl, _, _⟩ := (HS'.rd 0 rfl).val
      have HS := HS'
      have F := HS.facts; simp only [Own.Facts, Ds.map, Own.Cells, World.size_alloc, List.cons_append, List.nil_append, List.eraseIdx_cons_succ, List.eraseIdx_cons_zero, List.eraseIdx_zero, List.tail_cons, Nat.zero_add] at F
      go_wp2
      have H6 := (((HS'.pick 1 rfl).drop.pick 1 rfl).set 0 (.slice A6 acc.length c6)).drop
      exact bodyPost_ret (v := .agg #[.slice A6 acc.length c6]) (by simp [results, Tryz.results88, go_sem, *]) rfl ⟨_, rfl, by rw [HQ.out]; exact H6⟩
end Go.Proofs.YtkafflbakgkpcaaGreat
