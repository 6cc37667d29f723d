/- Byte slices: the law's own helpers. PutUvarint, PutText: the program's and the reference's. Numbers put behind bytes. The sum of 32 bits: the program's and the reference's. Frames: what the law and both sides compute. -/
import Derived.Test.YtohgelmkagcimaaGreatTy
import Derived.Outline
import Derived.Test.YtohgelmkagcimaaGreatL1
import Derived.Test.YtohgelmkagcimaaGreatCa
namespace Go.Proofs.YtohgelmkagcimaaGreat
set_option linter.unusedSimpArgs false
set_option linter.unusedVariables false
open Go.RowKit Go.Ow
attribute [local irreducible] wpQuiet

/-- The bytes k, k + 1, .. -/
def bmarks (n k : Nat) : List UInt8 := (List.range n).map fun i => UInt8.ofNat (k + i)
theorem bmarks_len (n k : Nat) : (bmarks n k).length = n := by simp [bmarks]
theorem bmarks_at (n k i : Nat) (h : i < n) : (bmarks n k)[i]'(by simp [bmarks, h]) = UInt8.ofNat (k + i) := by simp [bmarks]
theorem bmarks_set (xs : List UInt8) (k i : Nat) (h : i < xs.length) : (bmarks i k ++ xs.drop i).set i (UInt8.ofNat (k + i)) = bmarks (i + 1) k ++ xs.drop (i + 1) := by
  rw [List.set_append_right _ _ (by simp [bmarks])]
  rw [bmarks_len, Nat.sub_self, List.drop_eq_getElem_cons h, List.set_cons_zero]
  simp [bmarks, List.range_succ]

theorem markByteS {W : World} {R : List Ds} (xs : List UInt8) (v : Value) (k : Nat) (w : World) (HS : Own W (.own v xs :: R) w) (hk : k ≤ 4611686018427387904) : Calls Tryz.prog 54 #[v, .int .i64 k] w fun e w' => e = .returned (.int .i64 ((k + xs.length : Nat) : Int)) ∧ Own W (.own v (bmarks xs.length k) :: R) w' := by
  have hv := HS.rd 0 rfl
  obtain ⟨A, c, rfl, hc, hl⟩ := hv.val
  go_enter Tryz.func54, Tryz.ntmps54
  go_wp2
  go_loopw [1, 5] (fun kk i wr => ∃ j : Nat, j ≤ xs.length ∧ i = .int .i64 j ∧ kk = .int .i64 ((k + j : Nat) : Int) ∧ Own W (.own (.slice A xs.length c) (bmarks j k ++ xs.drop j) :: R) wr) (fun _ i _ => xs.length - (intOf i).toNat)
  case atStart => exact ⟨0, by omega, rfl, rfl, by simpa [bmarks] using HS⟩
  case round =>
    obtain ⟨j, hj, rfl, rfl, HS'⟩ := hrel
    by_cases hlt : j < xs.length
    · have hl2 : (bmarks j k ++ xs.drop j).length = xs.length := by simp [bmarks_len]; omega
      obtain ⟨g, rfl⟩ := HS'.fix (by omega)
      obtain ⟨r0, hfr⟩ := By.row HS' j (by omega)
      generalize hu : ((bmarks j k ++ xs.drop j)[j]'(by omega)) = u at r0
      have HP := By.put HS' j (by omega) (UInt8.ofNat (k + j))
      rw [bmarks_set xs k j hlt, ← u8_of] at HP
      clear hu hl2
      go_wp2
      go_roundw
      case rel => exact ⟨j + 1, by omega, by go_num, by go_num, HP⟩
      case measure => simp [intOf]; omega
    · go_wp2
      go_ret
      obtain rfl : j = xs.length := by omega
      exact ⟨by go_num, by simpa using HS'⟩

theorem heldByteS {W : World} {R : List Ds} (xs : List UInt8) (v : Value) (k : Nat) (w : World) (HS : Own W (.own v (bmarks xs.length k) :: R) w) (hk : k ≤ 4611686018427387904) (hx : xs.length ≤ 140737488355328) : Calls Tryz.prog 55 #[v, .int .i64 k] w fun e w' => e = .returned (.int .i64 ((k + xs.length : Nat) : Int)) ∧ Below w.heap.size w w' := by
  have hv : Rd w v (bmarks xs.length k) := HS.rd 0 rfl
  clear HS
  obtain ⟨A, c, rfl, hc, hl⟩ := hv.val
  have HL := Lib.hid (bmarks_len xs.length k)
  obtain ⟨zs, hz⟩ : ∃ zs, bmarks xs.length k = zs := ⟨_, rfl⟩
  rw [hz] at hv HL hc hl ⊢
  have HS := Own.start w
  have HE : ∀ i (h : i < zs.length), zs[i] = UInt8.ofNat (k + i) := by
    subst hz; intro i h; exact bmarks_at _ _ _ (by simpa [bmarks_len] using h)
  clear hz
  go_enter Tryz.func55, Tryz.ntmps55
  go_wp2
  go_loopw [1, 5] (fun kk i wr => ∃ j : Nat, j ≤ zs.length ∧ i = .int .i64 j ∧ kk = .int .i64 ((k + j : Nat) : Int) ∧ Own w [] wr) (fun _ i _ => zs.length - (intOf i).toNat)
  case atStart => exact ⟨0, by omega, rfl, rfl, HS⟩
  case round =>
    obtain ⟨j, hj, rfl, rfl, HS'⟩ := hrel
    by_cases hlt : j < zs.length
    · obtain ⟨b, o, rfl⟩ := hv.fix (by omega)
      have r0 := By.rd (HS'.old hv) j (by omega)
      rw [HE j hlt, ← u8_of] at r0
      clear HE
      go_wp2
      go_roundw
      case rel => exact ⟨j + 1, by omega, by go_num, by go_num, HS'⟩
      case measure => simp [intOf]; omega
    · clear HE
      go_wp2
      go_ret
      obtain rfl : j = zs.length := by omega
      exact ⟨by rw [HL.out]; rfl, HS'.below⟩
theorem eqByteS (xs ys : List UInt8) (v u : Value) (w : World) (hv : Rd w v xs) (hu : Rd w u ys) : Calls Tryz.prog 53 #[v, u] w fun e w' => e = .returned (.bool (decide (xs = ys))) ∧ Below w.heap.size w w' := by
  obtain ⟨A, c, rfl, hc, hl⟩ := hv.val
  obtain ⟨B, d, rfl, hd, hm⟩ := hu.val
  have HS := Own.start w
  by_cases hn : xs.length = ys.length
  · have hb2 : ((xs.length : Int) != (ys.length : Int)) = false := by simp; omega
    have hb3 : ((xs.length : Int) == (ys.length : Int)) = true := by simp; omega
    have HN := Lib.hid hn
    clear hn
    go_enter Tryz.func53, Tryz.ntmps53
    go_wp2
    go_loopw [5] (fun i wr => ∃ k : Nat, k ≤ xs.length ∧ i = .int .i64 k ∧ Own w [] wr ∧ xs.take k = ys.take k) (fun i _ => xs.length - (intOf i).toNat)
    case atStart => exact ⟨0, by omega, rfl, HS, rfl⟩
    case round =>
      obtain ⟨k, hk, rfl, HS', hok⟩ := hrel
      have HOK := Lib.hid hok
      clear hok
      by_cases hlt : k < xs.length
      · have hlt2 : k < ys.length := by have := HN.out; omega
        obtain ⟨b, o, rfl⟩ := hv.fix (by omega)
        obtain ⟨b2, o2, rfl⟩ := hu.fix (by omega)
        have hF : ∀ p : Ext wr, _ := fun p => By.rd ((HS'.of_below p.h).old hv) k hlt
        have hG : ∀ p : Ext wr, _ := fun p => By.rd ((HS'.of_below p.h).old hu) k hlt2
        by_cases h1 : xs[k] = ys[k]
        · rw [h1] at hF
          have H1 := Lib.hid h1
          clear h1
          generalize (ys[k].toNat : Int) = m at hF hG
          go_wp2
          (refine wp_region_ext (by kernel_rfl) (by kernel_rfl) ?_; (repeat (quiet_step (first | fail))); refine wpQuiet_nil ?_; rintro _ ⟨⟨w1, hw1⟩, rfl⟩)
          have H2 := HS'.of_below hw1
          clear hF hG
          go_wp2
          go_roundw
          case rel => exact ⟨k + 1, by omega, by go_num, H2, by rw [List.take_succ_eq_append_getElem hlt, List.take_succ_eq_append_getElem hlt2, HOK.out, H1.out]⟩
          case measure => simp [intOf]; omega
        · have hne : xs ≠ ys := fun h => h1 (by simp [h])
          have hq : ¬ ((xs[k].toNat : Int) = (ys[k].toNat : Int)) := fun h => h1 (UInt8.toNat_inj.1 (by omega))
          have H1 := Lib.hid hne
          clear h1 hne
          generalize (xs[k].toNat : Int) = m at hF hq
          generalize (ys[k].toNat : Int) = m' at hG hq
          have hq2 : (m == m') = false := by simpa using hq
          have hq3 : (m != m') = true := by simpa using hq
          go_wp2
          (refine wp_region_ext (by kernel_rfl) (by kernel_rfl) ?_; (repeat (quiet_step (first | fail))); refine wpQuiet_nil ?_; rintro _ ⟨⟨w1, hw1⟩, rfl⟩)
          have H2 := HS'.of_below hw1
          clear hF hG
          go_wp2
          go_ret
          exact ⟨by simp [H1.out], H2.below⟩
      · go_wp2
        go_ret
        obtain rfl : k = xs.length := by omega
        have h := HOK.out
        rw [List.take_length, HN.out, List.take_length] at h
        exact ⟨by simp [h], HS'.below⟩
  · have hb1 : (xs.length == ys.length) = false := by simp [hn]
    have hb2 : ((xs.length : Int) != (ys.length : Int)) = true := by simp; omega
    have hb3 : ((xs.length : Int) == (ys.length : Int)) = false := by simp; omega
    have hne : xs ≠ ys := fun h => hn (by rw [h])
    have H1 := Lib.hid hne
    clear hne
    go_enter Tryz.func53, Tryz.ntmps53
    go_wp2
    go_ret
    exact ⟨by simp [H1.out], HS.below⟩
end Go.Proofs.YtohgelmkagcimaaGreat
namespace Go.Proofs.YtohgelmkagcimaaGreat
set_option linter.unusedSimpArgs false
set_option linter.unusedVariables false
open Go.RowKit Go.Ow
attribute [local irreducible] wpQuiet
set_option maxRecDepth 100000

def uv (n : Nat) : List UInt8 := if h : n < 128 then [UInt8.ofNat n] else UInt8.ofNat (128 + n % 128) :: uv (n / 128)
termination_by n
decreasing_by omega
theorem uv_len : ∀ (k n : Nat), n < 128 ^ (k + 1) → (uv n).length ≤ k + 1
  | 0, n, h => by rw [uv, dif_pos (by simpa using h)]; simp
  | k + 1, n, h => by
    rw [uv]
    split
    · simp
    · have := uv_len k (n / 128) (by rw [Nat.pow_succ] at h; omega)
      simp; omega
theorem uv_len10 (n : Nat) (h : n < 18446744073709551616) : (uv n).length ≤ 10 := uv_len 9 n (by omega)

theorem specPutUvarint (n : Nat) (w : World) (hn : n < 18446744073709551616) : Calls Tryz.prog 177 #[.int .u64 n] w fun e w' => ∃ v', e = .returned v' ∧ Own w [.own v' (uv n)] w' := by
  induction n using Nat.strongRecOn generalizing w with
  | ind n ih =>
    have HS := Own.start w
    have IH := Lib.hid ih
    have HN := Lib.hid hn
    clear ih hn
    by_cases h : n < 128
    · rw [uv, dif_pos h]
      have hw : IntKind.u8.wrap (n : Int) = (n : Int) := by have := u8_of n; rw [this]; simp; omega
      go_enter Tryz.func177, Tryz.ntmps177
      go_wp2
      go_ret
      exact ⟨_, rfl, HS.lit [UInt8.ofNat n] _ _ rfl (by show [_] = [_]; congr 1; simp; omega) (by simp)⟩
    · rw [uv, dif_neg h]
      have hd : IntKind.u64.wrap ((n : Int) / 128) = ((n / 128 : Nat) : Int) := by have := HN.out; simp [IntKind.wrap, IntKind.bits, IntKind.signed]; omega
      go_enter Tryz.func177, Tryz.ntmps177
      go_wp2_with fail
      refine (IH.out (n / 128) (by omega) _ (by have := HN.out; omega)).mono ?_
      rintro e w1 ⟨v', rfl, hs⟩
      have HS1 := ((HS.lit [UInt8.ofNat (128 + n % 128)] #[.int .u8 (128 + (n : Int) % 128)] 5 rfl (by show [_] = [_]; congr 1; simp; omega) (by simp)).call hs).pick 1 rfl
      have hl := uv_len10 (n / 128) (by have := HN.out; omega)
      go_wp2_with (refine wp_app (α := UInt8) rfl _ _ 39 rfl (by kernel_rfl) _ _ HS1 rfl _ _ rfl (HS1.rd 1 rfl) (by show (1 + _) * 1 ≤ _; omega) (by show 1 + _ ≤ _; omega) ?_; clear HS1; intro v2 w2 HS1)
      have HS2 := (HS1.pick 1 rfl).drop
      obtain ⟨A, c, rfl, _, _⟩ := (HS2.rd 0 rfl).val
      go_ret
      exact ⟨_, rfl, HS2⟩
theorem or128 (m : Nat) : Go.bits .or .u8 ((m : Int) % 256) 128 = ((UInt8.ofNat (128 + m % 128)).toNat : Int) := by
  have : ∀ m : Fin 256, Go.bits .or .u8 (m.val : Int) 128 = 128 + (m.val : Int) % 128 := by decide +kernel
  have h := this ⟨m % 256, by omega⟩
  simp only at h
  rw [show ((m : Int) % 256) = ((m % 256 : Nat) : Int) by omega, h]
  simp; omega
theorem implPutUvarint (n : Nat) (w : World) (hn : n < 18446744073709551616) : Calls Tryz.prog 163 #[.int .u64 n] w fun e w' => ∃ v', e = .returned v' ∧ Own w [.own v' (uv n)] w' := by
  have HS := (Own.start w).lit ([] : List UInt8) #[] 5 rfl rfl (by simp)
  have HN := Lib.hid hn
  have HN2 := Lib.hid (uv_len10 n hn)
  clear hn
  go_enter Tryz.func163, Tryz.ntmps163
  go_wp2
  go_loopw [0, 3] (fun x v wr => ∃ (xs : List UInt8) (m : Nat), x = .int .u64 m ∧ uv n = xs ++ uv m ∧ m ≤ n ∧ Own w [.own v xs] wr) (fun x _ _ => (intOf x).toNat)
  case atStart => exact ⟨[], n, rfl, rfl, by omega, HS⟩
  case round =>
    obtain ⟨xs, m, rfl, he, hm, HS'⟩ := hrel
    have HE := Lib.hid he
    clear he HS
    have hl : xs.length ≤ 10 := by have := HN2.out; rw [HE.out] at this; simp at this; omega
    by_cases h : m < 128
    · have HL := (HS'.lit [UInt8.ofNat m] #[.int .u8 (m : Int)] 5 rfl (by show [_] = [_]; congr 1; simp; omega) (by simp)).pick 1 rfl
      have hw : IntKind.u8.wrap (m : Int) = (m : Int) := by have := u8_of m; rw [this]; simp; omega
      have H2 := Lib.hid (show uv m = [UInt8.ofNat m] by rw [uv, dif_pos h])
      go_wp2_with (refine wp_app (α := UInt8) rfl _ _ 39 rfl (by kernel_rfl) _ _ HL rfl _ _ rfl (HL.rd 1 rfl) (by show (_ + 1) * 1 ≤ _; omega) (by show _ + 1 ≤ _; omega) ?_; clear HL; intro v2 w2 HL)
      have HS2 := (HL.pick 1 rfl).drop
      obtain ⟨A, c, rfl, _, _⟩ := (HS2.rd 0 rfl).val
      go_ret
      exact ⟨_, rfl, by rw [HE.out, H2.out]; exact HS2⟩
    · have H2 := Lib.hid (show uv m = UInt8.ofNat (128 + m % 128) :: uv (m / 128) by rw [uv, dif_neg h])
      have HL := (HS'.lit [UInt8.ofNat (128 + m % 128)] #[.int .u8 (Go.bits .or .u8 ((m : Int) % 256) 128)] 5 rfl (by rw [or128]; rfl) (by simp)).pick 1 rfl
      go_wp2_with (refine wp_app (α := UInt8) rfl _ _ 39 rfl (by kernel_rfl) _ _ HL rfl _ _ rfl (HL.rd 1 rfl) (by show (_ + 1) * 1 ≤ _; omega) (by show _ + 1 ≤ _; omega) ?_; clear HL; intro v2 w2 HL)
      have HS2 := (HL.pick 1 rfl).drop
      go_roundw
      case rel => exact ⟨xs ++ [UInt8.ofNat (128 + m % 128)], m / 128, by go_num, by rw [HE.out, H2.out]; simp, by omega, HS2⟩
      case measure => simp [intOf]; omega
def txt (s : ByteArray) : List UInt8 := uv s.size ++ s.data.toList
theorem specPutText (s : ByteArray) (w : World) (hs : s.size ≤ 140737488351232) : Calls Tryz.prog 162 #[.string s] w fun e w' => ∃ v', e = .returned v' ∧ Own w [.own v' (txt s)] w' := by
  have hl := uv_len10 s.size (by omega)
  have HZ := Lib.hid (size_list s)
  go_enter Tryz.func162, Tryz.ntmps162
  go_wp2_with fail
  refine (specPutUvarint s.size w (by omega)).mono ?_
  rintro e w1 ⟨v', rfl, HS⟩
  go_wp2_with (first | (refine wp_conv_bytes (by rfl) _ _ _ (by rfl) Tryz.underlying9 Tryz.underlying39 Tryz.underlying5 HS s rfl (by omega) ?_; clear HS; intro A c w2 HS hb hy) | (refine wp_app (α := UInt8) rfl _ _ 39 rfl (by kernel_rfl) _ _ HS rfl _ _ rfl hy (by rw [HZ.out]; show _ * 1 ≤ _; omega) (by rw [HZ.out]; omega) ?_; clear HS; intro v2 w3 HS))
  obtain ⟨A, c, rfl, _, _⟩ := (HS.rd 0 rfl).val
  go_ret
  exact ⟨_, rfl, HS⟩
theorem implPutText (s : ByteArray) (w : World) (hs : s.size ≤ 140737488351232) : Calls Tryz.prog 140 #[.string s] w fun e w' => ∃ v', e = .returned v' ∧ Own w [.own v' (txt s)] w' := by
  have hl := uv_len10 s.size (by omega)
  go_enter Tryz.func140, Tryz.ntmps140
  go_wp2_with fail
  refine (implPutUvarint s.size w (by omega)).mono ?_
  rintro e w1 ⟨v', rfl, HS⟩
  go_wp2_with (refine wp_app_str rfl _ _ 39 9 rfl Tryz.underlying39 Tryz.underlying9 (by kernel_rfl) _ _ HS rfl s rfl (by omega) ?_; clear HS; intro v2 w3 HS)
  obtain ⟨A, c, rfl, _, _⟩ := (HS.rd 0 rfl).val
  go_ret
  exact ⟨_, rfl, HS⟩
end Go.Proofs.YtohgelmkagcimaaGreat
namespace Go.Proofs.YtohgelmkagcimaaGreat
set_option linter.unusedSimpArgs false
set_option linter.unusedVariables false
open Go.RowKit Go.Ow
attribute [local irreducible] wpQuiet
set_option maxRecDepth 100000

theorem putInt {W : World} {R : List Ds} (xs : List UInt8) (n : Nat) (v : Value) (w : World) (HS : Own W (.own v xs :: R) w) (hn : n ≤ 140737488351232) (hx : xs.length ≤ 140737488351232) :
    Calls Tryz.prog 138 #[v, .int .i64 n] w fun e w' => ∃ v', e = .returned v' ∧ Own W (.own v' (xs ++ uv n) :: R) w' := by
  obtain ⟨A, c, rfl, _, _⟩ := (HS.rd 0 rfl).val
  have hl := uv_len10 n (by omega)
  go_enter Tryz.func138, Tryz.ntmps138
  go_wp2_with fail
  refine (implPutUvarint n w (by omega)).mono ?_
  rintro e w1 ⟨v', rfl, hs⟩
  have H1 := (HS.call hs).pick 1 rfl
  go_wp2_with (refine wp_app (α := UInt8) rfl _ _ 39 rfl (by kernel_rfl) _ _ H1 rfl _ _ rfl (H1.rd 1 rfl) (by show (_ + _) * 1 ≤ _; omega) (by omega) ?_; clear H1; intro v2 w2 H1)
  obtain ⟨A2, c2, rfl, _, _⟩ := (H1.rd 0 rfl).val
  go_ret
  exact ⟨_, rfl, (H1.pick 1 rfl).drop⟩
theorem putInt2 {W : World} {R : List Ds} (xs : List UInt8) (n : Nat) (v : Value) (w : World) (HS : Own W (.own v xs :: R) w) (hn : n ≤ 140737488351232) (hx : xs.length ≤ 140737488351232) :
    Calls Tryz.prog 138 #[v, .int .i64 n] w fun e w' => ∃ (A : Option Addr) (c : Nat) (q : List UInt8), e = .returned (.slice A q.length c) ∧ Hid (q = xs ++ uv n) ∧ q.length ≤ xs.length + 10 ∧ Own W (.own (.slice A q.length c) q :: R) w' :=
  (putInt xs n v w HS hn hx).mono fun e w' ⟨v', he, h⟩ => by
    obtain ⟨A, c, rfl, _, _⟩ := (h.rd 0 rfl).val
    exact ⟨A, c, _, he, Lib.hid rfl, by have := uv_len10 n (by omega); rw [List.length_append]; omega, h⟩
theorem l2Put (n : Nat) (w : World) (hn : n ≤ 140737488351232) : Calls Tryz.prog 159 #[.int .i64 n] w fun e w' => ∃ v', e = .returned v' ∧ Own w [.own v' (uv n)] w' := by
  go_enter Tryz.func159, Tryz.ntmps159
  go_wp2_with fail
  refine (specPutUvarint n w (by omega)).mono ?_
  rintro e w1 ⟨v', rfl, hs⟩
  obtain ⟨A2, c2, rfl, _, _⟩ := (hs.rd 0 rfl).val
  go_wp2
  go_ret
  exact ⟨_, rfl, hs⟩

end Go.Proofs.YtohgelmkagcimaaGreat
namespace Go.Proofs.YtohgelmkagcimaaGreat
set_option linter.unusedSimpArgs false
set_option linter.unusedVariables false
open Go.RowKit Go.Ow
attribute [local irreducible] wpQuiet
set_option maxRecDepth 100000

theorem wrap32 (n : Int) (h : 0 ≤ n) (h2 : n < 4294967296) : IntKind.u32.wrap n = n := by simp [IntKind.wrap, IntKind.bits, IntKind.signed]; omega
theorem xor32 (a b : Nat) (ha : a < 4294967296) (hb : b < 4294967296) : bits .xor .u32 (a : Int) (b : Int) = ((a ^^^ b : Nat) : Int) := u32_xor_nat a b ha hb
end Go.Proofs.YtohgelmkagcimaaGreat
namespace Go.Proofs.YtohgelmkagcimaaGreat
set_option linter.unusedSimpArgs false
set_option linter.unusedVariables false
open Go.RowKit Go.Ow
attribute [local irreducible] wpQuiet
set_option maxRecDepth 100000

theorem eqFrame (k k' : Int) (xs ys : List UInt8) (v u : Value) (w : World) (hv : Rd w v xs) (hu : Rd w u ys) : Calls Tryz.prog 15 #[.agg #[.int .i64 k, v], .agg #[.int .i64 k', u]] w fun e w' => e = .returned (.bool (decide (k = k' ∧ xs = ys))) ∧ Below w.heap.size w w' := by
  obtain ⟨A, c, rfl, hc, hl⟩ := hv.val
  obtain ⟨B, d, rfl, hd, hm⟩ := hu.val
  by_cases hk : k = k'
  · cases h1 : decide (xs = ys)
    all_goals
      go_enter Tryz.func15, Tryz.ntmps15
      go_wp2_with (go_at_call 53; refine (eqByteS xs ys _ _ _ ((hv.alloc _).alloc _) ((hu.alloc _).alloc _)).mono ?_; rintro e w1 ⟨rfl, hb⟩)
      go_ret
      exact ⟨by simp at h1; simp [hk, h1], (((Own.start w).alloc _).alloc _ |>.of_below hb).below⟩
  · go_enter Tryz.func15, Tryz.ntmps15
    go_wp2
    go_ret
    exact ⟨by simp [hk], (((Own.start w).alloc _).alloc _).below⟩
theorem markFrame {W : World} {R : List Ds} (k0 : Int) (xs : List UInt8) (v : Value) (k : Nat) (w : World) (HS : Own W (.own v xs :: R) w) (hk : k ≤ 4611686018427387904) : Calls Tryz.prog 17 #[.agg #[.int .i64 k0, v], .int .i64 k] w fun e w' => e = .returned (.int .i64 ((k + xs.length : Nat) : Int)) ∧ Own W (.own v (bmarks xs.length k) :: R) w' := by
  obtain ⟨A, c, rfl, hc, hl⟩ := (HS.rd 0 rfl).val
  go_enter Tryz.func17, Tryz.ntmps17
  go_wp2_with fail
  refine (markByteS xs _ k _ (HS.alloc _) hk).mono ?_
  rintro e w1 ⟨rfl, H1⟩
  go_wp2
  go_ret
  exact ⟨rfl, H1⟩
end Go.Proofs.YtohgelmkagcimaaGreat
