/- Marks of texts, leaves and states. -/
import Derived.Test.YtbcgbkeldcaalaaH5
import Derived.Test.YtbcgbkeldcaalaaC5
import Derived.Test.YtbcgbkeldcaalaaL1
import Derived.Laws.Concat
namespace Go.Proofs.Ytbcgbkeldcaalaa
set_option linter.unusedSimpArgs false
set_option linter.unusedVariables false
open Go.RowKit Go.Ow
attribute [local irreducible] wpQuiet
set_option maxRecDepth 100000
def mtxD (k : Nat) (acc : List UInt8) : List UInt8 := if h : k = 0 then acc else mtxD (k / 10) (UInt8.ofNat (48 + k % 10) :: acc)
termination_by k
decreasing_by omega
def mtx (k : Nat) : ByteArray := if k = 0 then ⟨#[109, 48]⟩ else ⟨#[109]⟩ ++ ⟨(mtxD k []).toArray⟩
theorem mtxD_z (acc : List UInt8) : mtxD 0 acc = acc := by rw [mtxD]; simp
theorem mtxD_s (k : Nat) (acc : List UInt8) (h : 0 < k) : mtxD k acc = mtxD (k / 10) (UInt8.ofNat (48 + k % 10) :: acc) := by rw [mtxD, dif_neg (by omega)]
theorem u8dig (k : Nat) : ((UInt8.ofNat (48 + k % 10)).toNat : Int) = 48 + (k : Int) % 10 := by
  have : (UInt8.ofNat (48 + k % 10)).toNat = (48 + k % 10) % 256 := by simp
  rw [this, Nat.mod_eq_of_lt (by omega)]; omega
theorem markText (k : Nat) (w : World) (hk : k ≤ 4611686018427387904) : Calls Try.prog 67 #[.int .i64 k] w fun e w' => e = .returned (.string (mtx k)) ∧ Below w.heap.size w w' := by
  have HS := Own.start w
  go_enter Try.func67, Try.ntmps67
  by_cases h0 : k = 0
  · subst h0
    go_wp2
    go_ret
    exact ⟨rfl, HS.below⟩
  · have HM := Lib.hid (show mtx k = ⟨#[109]⟩ ++ ⟨(mtxD k []).toArray⟩ by rw [mtx, if_neg h0])
    go_wp2
    go_loopw [0, 3] (fun kk o wr => ∃ (m : Nat) (acc : List UInt8), m + acc.length ≤ k ∧ kk = .int .i64 m ∧ o = .string ⟨acc.toArray⟩ ∧ Hid (mtxD m acc = mtxD k []) ∧ Own w [] wr) (fun kk _ _ => (intOf kk).toNat)
    case atStart => exact ⟨k, [], by simp, rfl, rfl, Lib.hid rfl, HS⟩
    case round =>
      obtain ⟨m, acc, hm, rfl, rfl, HD, HS'⟩ := hrel
      by_cases hz : m = 0
      · subst hz
        have hadd : ∀ q : World, (Op.stringOp .add ⟨#[109]⟩ ⟨acc.toArray⟩).run Try.prog q = .ok (.string (⟨#[109]⟩ ++ ⟨acc.toArray⟩)) q := fun q => run_string_add_sum q _ _ (by
          have h1 : (ByteArray.mk acc.toArray).size = acc.length := by show acc.toArray.size = _; simp
          have h2 : (ByteArray.mk #[109]).size = 1 := rfl
          rw [h1, h2]; omega)
        go_wp2
        go_ret
        exact ⟨by rw [HM.out, ← HD.out, mtxD_z]; rfl, HS'.below⟩
      · obtain ⟨d, hd⟩ : ∃ d : UInt8, UInt8.ofNat (48 + m % 10) = d := ⟨_, rfl⟩
        have hu := u8dig m
        rw [hd] at hu
        have HD2 := Lib.hid (show mtxD (m / 10) (d :: acc) = mtxD k [] by rw [← HD.out, mtxD_s m acc (by omega), hd])
        have HL := HS'.lit [d] #[.int .u8 (d.toNat : Int)] 5 rfl rfl (by simp)
        rw [hu] at HL
        have hcv := run_cv (P := Try.prog) (src := 44) (dst := 9) Try.underlying44 Try.underlying5 Try.underlying9 (HL.rd 0 rfl)
        have hadd : ∀ q : World, (Op.stringOp .add ⟨[d].toArray⟩ ⟨acc.toArray⟩).run Try.prog q = .ok (.string ⟨(d :: acc).toArray⟩) q := fun q => by
          have h1 : (ByteArray.mk acc.toArray).size = acc.length := by show acc.toArray.size = _; simp
          have h2 : (ByteArray.mk [d].toArray).size = 1 := rfl
          rw [run_string_add_sum q _ _ (by rw [h1, h2]; omega), ByteArray.mk_append_mk]
          simp
        simp only [List.length_cons, List.length_nil, Nat.zero_add] at hcv
        clear hd hu
        go_wp2
        go_roundw
        case rel => exact ⟨m / 10, d :: acc, by simp only [List.length_cons]; omega, by go_num, rfl, HD2, HL.drop⟩
        case measure => simp [intOf]; omega
def mts (n k : Nat) : List ByteArray := (List.range n).map (fun i => mtx (k + i))
theorem mts_len (n k : Nat) : (mts n k).length = n := by simp [mts]
theorem mts_at (n k i : Nat) (h : i < n) : (mts n k)[i]'(by simp [mts, h]) = mtx (k + i) := by simp [mts]
theorem mts_set (xs : List ByteArray) (k i : Nat) (h : i < xs.length) : (mts i k ++ xs.drop i).set i (mtx (k + i)) = mts (i + 1) k ++ xs.drop (i + 1) := by
  rw [List.set_append_right _ _ (by simp [mts])]
  rw [mts_len, Nat.sub_self, List.drop_eq_getElem_cons h, List.set_cons_zero]
  simp [mts, List.range_succ]
theorem markStringS {W : World} {R : List Ds} (xs : List ByteArray) (v : Value) (k : Nat) (w : World) (HS : Own W (.own v xs :: R) w) (hk : k + xs.length ≤ 4611686018427387904) : Calls Try.prog 36 #[v, .int .i64 k] w fun e w' => e = .returned (.int .i64 ((k + xs.length : Nat) : Int)) ∧ Own W (.own v (mts xs.length k) :: R) w' := by
  have hv := HS.rd 0 rfl
  obtain ⟨A, c, rfl, hc, hl⟩ := hv.val
  go_enter Try.func36, Try.ntmps36
  go_wp2
  go_loopw [1, 5] (fun kk i wr => ∃ j : Nat, j ≤ xs.length ∧ i = .int .i64 j ∧ kk = .int .i64 ((k + j : Nat) : Int) ∧ Own W (.own (.slice A xs.length c) (mts j k ++ xs.drop j) :: R) wr) (fun _ i _ => xs.length - (intOf i).toNat)
  case atStart => exact ⟨0, by omega, rfl, rfl, by simpa [mts] using HS⟩
  case round =>
    obtain ⟨j, hj, rfl, rfl, HS'⟩ := hrel
    by_cases hlt : j < xs.length
    · have hl2 : (mts j k ++ xs.drop j).length = xs.length := by simp [mts_len]; omega
      obtain ⟨g, rfl⟩ := HS'.fix (by omega)
      go_wp2_with fail
      refine (markText (k + j) _ (by omega)).mono ?_
      rintro e w2 ⟨rfl, hb⟩
      have HS2 := HS'.of_below hb
      obtain ⟨r0, hfr⟩ := Sg.row HS2 j (by omega)
      have HP := Sg.put HS2 j (by omega) (mtx (k + j))
      rw [mts_set xs k j hlt] at HP
      generalize ((mts j k ++ xs.drop j)[j]'(by omega)) = u at r0
      clear hl2
      go_wp2
      go_roundw
      case rel => exact ⟨j + 1, by omega, by go_num, by go_num, HP⟩
      case measure => simp [intOf]; omega
    · go_wp2
      go_ret
      obtain rfl : j = xs.length := by omega
      exact ⟨by go_num, by simpa using HS'⟩
end Go.Proofs.Ytbcgbkeldcaalaa
