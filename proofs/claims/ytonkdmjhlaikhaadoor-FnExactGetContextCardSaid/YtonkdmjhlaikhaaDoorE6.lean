/- GetUvarint: the reference. -/
import Derived.Test.YtonkdmjhlaikhaaDoorTy
import Derived.Test.YtonkdmjhlaikhaaDoorRn1
import Derived.Outline
namespace Go.Proofs.YtonkdmjhlaikhaaDoor
set_option linter.unusedSimpArgs false
set_option linter.unusedVariables false
open Go.RowKit Go.Ow
attribute [local irreducible] wpQuiet
set_option maxRecDepth 100000
theorem l1Power (k : Nat) (w : World) (hk : k ≤ 9) : Calls Tryd.prog 30 #[.int .i64 k] w fun e w' => e = .returned (.int .u64 ((128 ^ k : Nat) : Int)) ∧ Below w.heap.size w w' := by
  have HS := Own.start w
  go_enter Tryd.func30, Tryd.ntmps30
  go_wp2
  go_loopw [3, 4] (fun x i wr => ∃ j m : Nat, j ≤ k ∧ m ≤ 9223372036854775808 ∧ i = .int .i64 j ∧ x = .int .u64 m ∧ m = 128 ^ j ∧ Own w [] wr) (fun _ i _ => k - (intOf i).toNat)
  case atStart => exact ⟨0, 1, by omega, by omega, rfl, rfl, rfl, HS⟩
  case round =>
    obtain ⟨j, m, hj, hm, rfl, rfl, he, HS'⟩ := hrel
    have HE := Lib.hid he
    clear he HS
    by_cases hlt : j < k
    · have hm2 : m * 128 ≤ 9223372036854775808 := by have := pow_le (j + 1) (by omega); rw [Nat.pow_succ, ← HE.out] at this; exact this
      have hm3 : m ≤ 72057594037927936 := by omega
      go_wp2
      go_roundw
      case rel => exact ⟨j + 1, m * 128, by omega, hm2, by go_num, by go_num, by rw [Nat.pow_succ, HE.out], HS'⟩
      case measure => simp [intOf]; omega
    · obtain rfl : j = k := by omega
      go_wp2
      go_ret
      exact ⟨by rw [HE.out]; rfl, HS'.below⟩
def getUv (bs : List UInt8) (pos : Int) : Nat × Int × Nat :=
  if pos < 0 ∨ (bs.length : Int) < pos then (0, pos, 1) else
    if (rdNum (bs.drop pos.toNat) 0 0).2.2 = 0 then ((rdNum (bs.drop pos.toNat) 0 0).1, pos + (rdNum (bs.drop pos.toNat) 0 0).2.1, 0) else (0, pos, (rdNum (bs.drop pos.toNat) 0 0).2.2)
def gV (g : Nat × Int × Nat) : Value := .tuple #[.int .u64 g.1, .int .i64 g.2.1, .int .i64 g.2.2]
set_option maxHeartbeats 4000000 in
theorem specGetUvarint (bs : List UInt8) (pos : Int) (v : Value) (w : World) (hv : Rd w v bs) :
    Calls Tryd.prog 8 #[v, .int .i64 pos] w fun e w' => e = .returned (gV (getUv bs pos)) ∧ Below w.heap.size w w' := by
  obtain ⟨A, c, rfl, hc, hl⟩ := hv.val
  have HS := Own.start w
  by_cases h0 : pos < 0
  · have HX := Lib.hid (show getUv bs pos = (0, pos, 1) by unfold getUv; rw [if_pos (.inl h0)])
    go_enter Tryd.func8, Tryd.ntmps8
    go_wp2
    exact bodyPost_ret (v := .tuple #[.int .u64 0, .int .i64 pos, .int .i64 1]) (by simp [results, Tryd.results8, go_sem, *]) rfl ⟨by rw [HX.out]; rfl, HS.below⟩
  · by_cases h1 : (bs.length : Int) < pos
    · have HX := Lib.hid (show getUv bs pos = (0, pos, 1) by unfold getUv; rw [if_pos (.inr h1)])
      go_enter Tryd.func8, Tryd.ntmps8
      go_wp2
      exact bodyPost_ret (v := .tuple #[.int .u64 0, .int .i64 pos, .int .i64 1]) (by simp [results, Tryd.results8, go_sem, *]) rfl ⟨by rw [HX.out]; rfl, HS.below⟩
    · obtain ⟨p, rfl⟩ : ∃ p : Nat, pos = p := ⟨pos.toNat, by omega⟩
      have hp : p ≤ bs.length := by omega
      obtain ⟨N, hN⟩ : ∃ N, cntB (bs.drop p) 0 = N := ⟨_, rfl⟩
      have hN9 : N ≤ 9 := by rw [← hN]; exact cntB_le _ _ (by omega)
      obtain ⟨r, hr⟩ : ∃ r, rdNum (bs.drop p) 0 0 = r := ⟨_, rfl⟩
      have HX := Lib.hid (show getUv bs (p : Int) = (if r.2.2 = 0 then (r.1, (p : Int) + r.2.1, 0) else (0, (p : Int), r.2.2)) by unfold getUv; rw [if_neg (by omega), Int.toNat_natCast, hr])
      have HR := Lib.hid (show r = finB (bs.drop p) 0 0 N by rw [← hr, ← hN]; exact rdNum_cnt _ _ _ (by omega))
      have HLT := Lib.hid (show r.1 < 18446744073709551616 by rw [← hr]; exact rdNum_lt _ _ _ (by omega) (by simp))
      have HN := Lib.hid hN
      clear hr h0 h1 hN
      have hpb : decide ((p : Int) < 0) = false := by simp
      have hpc : decide (bs.length < p) = false := by simp; omega
      go_enter Tryd.func8, Tryd.ntmps8
      go_wp2
      go_loopw [7] (fun i wr => ∃ n : Nat, p + n ≤ bs.length ∧ n ≤ N ∧ i = .int .i64 n ∧ Own w [] wr ∧ cntB (bs.drop (p + n)) n = N) (fun i _ => 10 - (intOf i).toNat)
      case atStart => exact ⟨0, by omega, by omega, rfl, HS, HN.out⟩
      case round =>
        obtain ⟨n, hn, hnN, rfl, HS', he⟩ := hrel
        have HE := Lib.hid he
        clear he HS
        by_cases hlt : p + n < bs.length
        · obtain ⟨b, o, rfl⟩ := hv.fix (by omega)
          have r0 := By.rd (HS'.old hv) (p + n) hlt
          have HD := Lib.hid (show bs.drop (p + n) = bs[p + n] :: bs.drop (p + n + 1) from List.drop_eq_getElem_cons hlt)
          obtain ⟨x, hx⟩ : ∃ x, bs[p + n] = x := ⟨_, rfl⟩
          rw [hx] at HD r0
          have HXX := Lib.hid hx
          clear hx
          have hx256 := UInt8.toNat_lt x
          have HCN := Lib.hid (show N = if n < 9 ∧ 128 ≤ x.toNat then cntB (bs.drop (p + n + 1)) (n + 1) else n by rw [← HE.out, HD.out, cntB])
          obtain ⟨y, hy⟩ : ∃ y, x.toNat = y := ⟨_, rfl⟩
          have HY := Lib.hid hy
          rw [hy] at hx256 r0 HCN
          clear hy
          by_cases hgo : n < 9 ∧ 128 ≤ y
          · rw [if_pos hgo] at HCN
            obtain ⟨hg1, hg2⟩ := hgo
            have hnN2 : n + 1 ≤ N := by rw [HCN.out]; exact cntB_ge _ _
            go_wp2
            go_roundw
            case rel => exact ⟨n + 1, by omega, hnN2, by go_num, HS', HCN.out.symm⟩
            case measure => simp [intOf]; omega
          · rw [if_neg hgo] at HCN
            have hNn : N = n := HCN.out
            have HZ := Lib.hid (show r = if n = 9 ∧ 1 < y then (0, 0, 2) else if 0 < n ∧ y = 0 then (0, 0, 3) else (0 + sumB (bs.drop p) 0 (n + 1 - 0), n + 1, 0) by
              rw [HR.out, hNn]; unfold finB
              rw [show (bs.drop p)[n - 0]? = some x by rw [Nat.sub_zero, List.getElem?_drop, List.getElem?_eq_getElem hlt, HXX.out]]
              simp only [HY.out])
            clear hNn
            have hb : (((n : Int) == 9) = true ∧ decide (1 < (y : Int)) = false ∧ decide ((n : Int) < 9) = false ∨ (((n : Int) == 9) = true ∧ decide (1 < (y : Int)) = true ∧ decide ((n : Int) < 9) = false)) ∨ (((n : Int) == 9) = false ∧ decide (128 ≤ (y : Int)) = false ∧ decide ((n : Int) < 9) = true) := by
              by_cases h9 : n = 9
              · left
                by_cases hy1 : 1 < y
                · right; exact ⟨by simp; omega, by simp; omega, by simp; omega⟩
                · left; exact ⟨by simp; omega, by simp; omega, by simp; omega⟩
              · right; exact ⟨by simp; omega, by simp; omega, by simp; omega⟩
            have HGO := Lib.hid hgo
            clear hgo
            by_cases h91 : n = 9 ∧ 1 < y
            · have f1 : ((n : Int) == 9) = true := by simp; omega
              have f2 : decide (1 < (y : Int)) = true := by simp; omega
              have f3 : decide ((n : Int) < 9) = false := by simp; omega
              rw [if_pos h91] at HZ
              clear hb h91
              go_wp2
              exact bodyPost_ret (v := .tuple #[.int .u64 0, .int .i64 p, .int .i64 2]) (by simp [results, Tryd.results8, go_sem, *]) rfl ⟨by rw [HX.out, HZ.out]; rfl, HS'.below⟩
            · rw [if_neg h91] at HZ
              have hb2 : (((n : Int) == 9) = true ∧ decide (1 < (y : Int)) = false ∧ decide ((n : Int) < 9) = false) ∨ (((n : Int) == 9) = false ∧ decide (128 ≤ (y : Int)) = false ∧ decide ((n : Int) < 9) = true) := by
                rcases hb with (hb | hb) | hb
                · exact .inl hb
                · exfalso; apply h91; simp at hb; omega
                · exact .inr hb
              clear hb h91
              by_cases h3 : 0 < n ∧ y = 0
              · rw [if_pos h3] at HZ
                obtain ⟨h3a, h3b⟩ := h3
                have f4 : ((y : Int) == 0) = true := by simp; exact h3b
                clear h3b
                rcases hb2 with ⟨f1, f2, f3⟩ | ⟨f1, f2, f3⟩ <;>
                · go_wp2
                  exact bodyPost_ret (v := .tuple #[.int .u64 0, .int .i64 p, .int .i64 3]) (by simp [results, Tryd.results8, go_sem, *]) rfl ⟨by rw [HX.out, HZ.out]; rfl, HS'.below⟩
              · rw [if_neg h3] at HZ
                have hb3 : (0 < n ∧ ((y : Int) == 0) = false) ∨ (¬ 0 < n) := by
                  by_cases h0n : 0 < n
                  · left; exact ⟨h0n, by simp; omega⟩
                  · right; omega
                clear h3
                have HT := Lib.hid (show sumB (bs.drop p) 0 (n + 1) < 18446744073709551616 by have := HLT.out; rw [HZ.out] at this; simpa using this)
                rcases hb2 with ⟨f1, f2, f3⟩ | ⟨f1, f2, f3⟩
                all_goals rcases hb3 with ⟨f5, f6⟩ | f5
                all_goals
                  go_wp2
                  go_loopw [9, 10] (fun vv i w2 => ∃ k m : Nat, k ≤ n + 1 ∧ i = .int .i64 k ∧ vv = .int .u64 m ∧ Own w [] w2 ∧ m + sumB (bs.drop (p + k)) k (n + 1 - k) = sumB (bs.drop p) 0 (n + 1)) (fun _ i _ => n + 2 - (intOf i).toNat)
                  case atStart => exact ⟨0, 0, by omega, rfl, rfl, HS', by simp⟩
                  case round =>
                    clear f1 f2 f3 f5
                    obtain ⟨k, m, hk, rfl, rfl, HS2, he2⟩ := hrel
                    have HE2 := Lib.hid he2
                    clear he2 r0
                    by_cases hkn : k ≤ n
                    · have hpk : p + k < bs.length := by omega
                      have hB := fun q : Ext wr => By.rd ((HS2.of_below q.h).old hv) (p + k) hpk
                      have HD2 := Lib.hid (show sumB (bs.drop (p + k)) k (n + 1 - k) = bs[p + k].toNat % 128 * 128 ^ k + sumB (bs.drop (p + k + 1)) (k + 1) (n + 1 - (k + 1)) by rw [List.drop_eq_getElem_cons hpk, show n + 1 - k = (n + 1 - (k + 1)) + 1 by omega]; rfl)
                      have hz256 := UInt8.toNat_lt bs[p + k]
                      obtain ⟨z, hz⟩ : ∃ z, bs[p + k].toNat = z := ⟨_, rfl⟩
                      rw [hz] at HD2 hz256
                      simp only [hz] at hB
                      clear hz
                      have hpw := pow_le k (by omega)
                      have HPW := Lib.hid (l1Power k)
                      obtain ⟨q, hq⟩ : ∃ q, 128 ^ k = q := ⟨_, rfl⟩
                      rw [hq] at HD2 hpw
                      have hq2 : ∀ w, Calls Tryd.prog 30 #[.int .i64 k] w fun e w' => e = .returned (.int .u64 (q : Int)) ∧ Below w.heap.size w w' := fun w => by rw [← hq]; exact l1Power k w (by omega)
                      have HQ2 := Lib.hid hq2
                      clear hq hq2 HPW
                      have hT := HT.out
                      have hE := HE2.out
                      rw [HD2.out] at hE
                      obtain ⟨t, ht⟩ : ∃ t, z % 128 * q = t := ⟨_, rfl⟩
                      rw [ht] at HD2 hE
                      have e1 : IntKind.u64.wrap ((z : Int) % 128 * q) = (t : Int) := by
                        rw [← ht]
                        have := wrap64u (z % 128 * q) (by omega)
                        simpa using this
                      have e2 : IntKind.u64.wrap ((m : Int) + t) = ((m + t : Nat) : Int) := by
                        have := wrap64u (m + t) (by omega)
                        simpa using this
                      have e4 : (z : Int).tmod 128 = (z : Int) % 128 := Int.tmod_eq_emod_of_nonneg (by omega)
                      have e5 : IntKind.u8.wrap ((z : Int) % 128) = (z : Int) % 128 := by simp [IntKind.wrap, IntKind.bits, IntKind.signed]; omega
                      have e6 : IntKind.u64.wrap ((z : Int) % 128) = (z : Int) % 128 := by simp [IntKind.wrap, IntKind.bits, IntKind.signed]; omega
                      obtain ⟨pk, hpk2⟩ : ∃ pk, p + k = pk := ⟨_, rfl⟩
                      have e3 : IntKind.i64.wrap ((p : Int) + k) = (pk : Int) := i64w (by omega) (by omega) (by omega)
                      rw [hpk2] at hpk
                      simp only [hpk2] at hB
                      have HPK := Lib.hid hpk2
                      clear hpk2
                      clear ht hT hE
                      go_wp2
                      (refine wp_region_ext (by kernel_rfl) (by kernel_rfl) ?_; (repeat (quiet_step (first | exact q_call (HQ2.out _)))); refine wpQuiet_nil ?_; rintro _ ⟨⟨w1, hw1⟩, rfl⟩)
                      have HS3 := HS2.of_below hw1
                      clear e1 e2 e3 e4 e5 e6 hB
                      go_wp2
                      go_roundw
                      case rel => exact ⟨k + 1, m + t, by omega, by go_num, by go_num, HS3, by rw [← HE2.out, HD2.out, Nat.add_assoc]; rfl⟩
                      case measure => simp [intOf]; omega
                    · obtain rfl : k = n + 1 := by omega
                      have hmS : m = sumB (bs.drop p) 0 (n + 1) := by
                        rw [← HE2.out, Nat.sub_self]
                        have : ∀ l i, sumB l i 0 = 0 := fun l i => by cases l <;> rfl
                        rw [this]; rfl
                      have HMS := Lib.hid hmS
                      clear hmS
                      go_wp2
                      exact bodyPost_ret (v := .tuple #[.int .u64 m, .int .i64 ((p : Int) + n + 1), .int .i64 0]) (by simp [results, Tryd.results8, go_sem, *]) rfl ⟨by rw [HX.out, HZ.out, HMS.out]; simp [gV]; omega, HS2.below⟩
        · have HZ := Lib.hid (show r = (0, N, 1) by
            rw [HR.out]; unfold finB
            rw [show (bs.drop p)[N - 0]? = none by rw [Nat.sub_zero, List.getElem?_drop, List.getElem?_eq_none (by omega)]])
          go_wp2
          exact bodyPost_ret (v := .tuple #[.int .u64 0, .int .i64 p, .int .i64 1]) (by simp [results, Tryd.results8, go_sem, *]) rfl ⟨by rw [HX.out, HZ.out]; rfl, HS'.below⟩
end Go.Proofs.YtonkdmjhlaikhaaDoor
