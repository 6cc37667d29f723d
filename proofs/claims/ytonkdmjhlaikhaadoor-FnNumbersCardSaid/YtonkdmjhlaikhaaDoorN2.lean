/- The draws of numbers and texts: that they return, and how long what they return is. -/
import Derived.Test.YtonkdmjhlaikhaaDoorB2
import Derived.Test.YtonkdmjhlaikhaaDoorRn1
import Derived.Test.YtonkdmjhlaikhaaDoorCv
import Derived.Test.YtonkdmjhlaikhaaDoorDr
import Derived.Test.YtonkdmjhlaikhaaDoorE6
import Derived.Test.YtonkdmjhlaikhaaDoorAp
import Derived.Test.YtonkdmjhlaikhaaDoorSt
import Derived.Outline
namespace Go.Proofs.YtonkdmjhlaikhaaDoor
set_option linter.unusedSimpArgs false
set_option linter.unusedVariables false
open Go.RowKit Go.Ow
attribute [local irreducible] wpQuiet
set_option maxRecDepth 100000
abbrev Rdr (bc : Nat) (vb : Value) (p : Nat) : Ds := .box bc 116 [vb, .int .i64 p]
theorem l1Open (bs : List UInt8) (v : Value) (w : World) (hv : Rd w v bs) :
    Calls Tryd.prog 41 #[v] w fun e w' => e = .returned (.pointer (some ⟨w.heap.size, 0, none⟩)) ∧ ∃ (vb : Value) (xs : List UInt8), xs.length ≤ 1000 ∧ Rd w vb xs ∧ Own w [Rdr w.heap.size vb 0] w' := by
  obtain ⟨A, c, rfl, hc, hl⟩ := hv.val
  by_cases h : bs.length ≤ 1000
  · have HS := (Own.start w).box [.slice A bs.length c, .int .i64 ((0 : Nat) : Int)] 116
    go_enter Tryd.func41, Tryd.ntmps41
    go_wp2
    go_ret
    exact ⟨rfl, _, _, h, hv, HS⟩
  · obtain ⟨V, hV⟩ : ∃ V, sliced A 0 1000 c 1 = V := ⟨_, rfl⟩
    have hs1 : ∀ q : World, (Instr.sliceAt 22 (.slice A bs.length c) none (some (.int .i64 1000)) none).run Tryd.prog q = .ok V q := fun q => by
      rw [show (Instr.sliceAt 22 (.slice A bs.length c) none (some (.int .i64 1000)) none).run Tryd.prog q = (Instr.sliceAt 22 (.slice A bs.length c) (some (.int .i64 0)) (some (.int .i64 1000)) none).run Tryd.prog q from rfl]
      have := run_subV (P := Tryd.prog) (w := q) (z := 1) Tryd.underlying22 (by kernel_rfl) A bs.length c 0 1000 (by omega) (by omega) (by omega)
      rw [this]; exact congrArg (Result.ok · q) hV
    have hr : Rd w V (bs.take 1000) := by
      have := rd_subV hv 0 1000 (by omega) (by omega)
      rw [show sliced A 0 1000 c (Cd.z UInt8) = V from hV] at this
      simpa using this
    clear hV
    obtain ⟨ys, hys⟩ : ∃ ys, bs.take 1000 = ys := ⟨_, rfl⟩
    rw [hys] at hr
    have HR := Lib.hid (show ys.length ≤ 1000 by rw [← hys]; simp; omega)
    clear hys
    obtain ⟨A2, c2, rfl, _, _⟩ := hr.val
    have HS := (Own.start w).box [.slice A2 ys.length c2, .int .i64 ((0 : Nat) : Int)] 116
    go_enter Tryd.func41, Tryd.ntmps41
    go_wp2
    go_ret
    exact ⟨rfl, _, _, HR.out, hr, HS⟩
theorem l1Next {W : World} {R : List Ds} (xs : List UInt8) (bc p : Nat) (vb : Value) (w : World) (HS : Own W (Rdr bc vb p :: R) w) (hv : Rd W vb xs) (hp : p ≤ xs.length) (hx : xs.length ≤ 1000) :
    Calls Tryd.prog 42 #[.pointer (some ⟨bc, 0, none⟩)] w fun e w' => ∃ n q : Nat, e = .returned (.int .i64 n) ∧ n < 256 ∧ q ≤ xs.length ∧ Own W (Rdr bc vb q :: R) w' := by
  obtain ⟨A, c, rfl, hc, hl⟩ := hv.val
  have hF : ∀ q : Ext w, q.to.cell? ⟨bc, 0, none⟩ = some (.slice A xs.length c) ∧ q.to.cell? ⟨bc, 1, none⟩ = some (.int .i64 p) := by
    intro q
    have F := (HS.of_below q.h).facts
    simp only [Own.Facts, Own.Cells, Nat.zero_add] at F
    exact ⟨F.1.1.1, F.1.1.2.1⟩
  by_cases h : p < xs.length
  · obtain ⟨b, o, rfl⟩ := hv.fix (by omega)
    have hB := fun q : Ext w => By.rd ((HS.of_below q.h).old hv) p h
    have hx256 := UInt8.toNat_lt xs[p]
    obtain ⟨y, hy⟩ : ∃ y, xs[p].toNat = y := ⟨_, rfl⟩
    simp only [hy] at hB
    rw [hy] at hx256
    clear hy
    have hy64 : IntKind.i64.wrap (y : Int) = (y : Int) := i64w rfl (by omega) (by omega)
    go_enter Tryd.func42, Tryd.ntmps42
    go_wp2
    (refine wp_region_ext (by kernel_rfl) (by kernel_rfl) ?_; (repeat (quiet_step (first | fail))); refine wpQuiet_nil ?_; rintro _ ⟨⟨w1, hw1⟩, rfl⟩)
    have hF2 := fun p => hF (Ext.up hw1 p)
    have hB2 := fun p => hB (Ext.up hw1 p)
    have H2 := HS.of_below hw1
    simp only [Ext.up] at hF2 hB2
    clear hF hB
    go_wp2
    (refine wp_region_ext (by kernel_rfl) (by kernel_rfl) ?_; (repeat (quiet_step (first | fail))); refine wpQuiet_nil ?_; rintro _ ⟨⟨w1, hw1⟩, rfl⟩)
    have H3 := H2.of_below hw1
    clear hF2 hB2
    have F := H3.facts
    simp only [Own.Facts, Own.Cells, Nat.zero_add] at F
    have H4 := H3.set 1 (.int .i64 ((p + 1 : Nat) : Int))
    go_wp2
    go_ret
    exact ⟨y, p + 1, rfl, by omega, by omega, H4⟩
  · obtain rfl : p = xs.length := by omega
    have hd : decide ((xs.length : Int) < (xs.length : Int)) = false := by simp
    go_enter Tryd.func42, Tryd.ntmps42
    go_wp2
    (refine wp_region_ext (by kernel_rfl) (by kernel_rfl) ?_; (repeat (quiet_step (first | fail))); refine wpQuiet_nil ?_; rintro _ ⟨⟨w1, hw1⟩, rfl⟩)
    have H2 := HS.of_below hw1
    clear hF
    go_wp2
    go_ret
    exact ⟨0, xs.length, rfl, by omega, by omega, H2⟩
def AnyB (W : World) (R : List Ds) (v : Value) (n : Nat) (w : World) : Prop := ∃ xs : List UInt8, xs.length ≤ n ∧ Own W (.own v xs :: R) w
set_option maxHeartbeats 1000000 in
theorem l1DrawNumber {W : World} {R : List Ds} (xs : List UInt8) (bc p : Nat) (vb : Value) (w : World) (HS : Own W (Rdr bc vb p :: R) w) (hv : Rd W vb xs) (hp : p ≤ xs.length) (hx : xs.length ≤ 1000) :
    Calls Tryd.prog 40 #[.pointer (some ⟨bc, 0, none⟩)] w fun e w' => ∃ n q : Nat, e = .returned (.int .u64 n) ∧ n < 18446744073709551616 ∧ q ≤ xs.length ∧ Own W (Rdr bc vb q :: R) w' := by
  go_enter Tryd.func40, Tryd.ntmps40
  go_wp2_with fail
  refine (l1Next xs bc p vb _ HS hv hp hx).mono ?_
  rintro e w1 ⟨k, q, rfl, hk, hq, H1⟩
  clear HS
  have e1 : (k : Int) / 8 % 10 = ((k / 8 % 10 : Nat) : Int) := by omega
  obtain ⟨j, hj⟩ : ∃ j, k / 8 % 10 = j := ⟨_, rfl⟩
  have hj9 : j ≤ 9 := by omega
  rw [hj] at e1
  clear hj
  have hpw := pow_le j hj9
  have hpp : 0 < 128 ^ j := Nat.pow_pos (by omega)
  go_wp2_with fail
  refine (l1Power j _ hj9).mono ?_
  rintro e w2 ⟨rfl, hb⟩
  have H2 := H1.of_below hb
  clear H1
  obtain ⟨P, hP⟩ : ∃ P, 128 ^ j = P := ⟨_, rfl⟩
  rw [hP] at hpw hpp ⊢
  clear hP e1 hj9
  by_cases h0 : k % 8 = 0
  · have hb0 : ((k : Int) % 8 == 0) = true := by simp; omega
    go_wp2
    go_ret
    exact ⟨P, q, rfl, by omega, hq, H2⟩
  · have hb0 : ((k : Int) % 8 == 0) = false := by simp; omega
    by_cases h1 : k % 8 = 1
    · have hb1 : ((k : Int) % 8 == 1) = true := by simp; omega
      have e3 : IntKind.u64.wrap ((P : Int) - 1) = ((P - 1 : Nat) : Int) := by rw [← wrap64u (P - 1) (by omega)]; congr 1; omega
      go_wp2
      go_ret
      exact ⟨P - 1, q, rfl, by omega, hq, H2⟩
    · have hb1 : ((k : Int) % 8 == 1) = false := by simp; omega
      by_cases h2 : k % 8 = 2
      · have hb2 : ((k : Int) % 8 == 2) = true := by simp; omega
        obtain ⟨d, hd⟩ : ∃ d, k / 128 = d := ⟨_, rfl⟩
        have e3 : (k : Int) / 128 = (d : Int) := by omega
        have hd1 : d ≤ 1 := by omega
        have e4 := wrap64u d (by omega)
        have e5 : IntKind.u64.wrap ((18446744073709551615 : Int) - d) = ((18446744073709551615 - d : Nat) : Int) := by rw [← wrap64u (18446744073709551615 - d) (by omega)]; congr 1; omega
        clear hd
        go_wp2
        go_ret
        exact ⟨18446744073709551615 - d, q, rfl, by omega, hq, H2⟩
      · have hb2 : ((k : Int) % 8 == 2) = false := by simp; omega
        go_wp2
        go_loopw [4, 5] (fun v i wr => ∃ n j q : Nat, n < 18446744073709551616 ∧ j ≤ k % 8 ∧ v = .int .u64 n ∧ i = .int .i64 j ∧ q ≤ xs.length ∧ Own W (Rdr bc vb q :: R) wr) (fun _ i _ => 8 - (intOf i).toNat)
        case atStart => exact ⟨0, 0, q, by omega, by omega, rfl, rfl, hq, H2⟩
        case round =>
          obtain ⟨n, j, q, hn, hj, rfl, rfl, hq, H3⟩ := hrel
          clear H2
          by_cases hlt : j < k % 8
          · have hd : decide ((j : Int) < (k : Int) % 8) = true := by simp; omega
            obtain ⟨a, ha⟩ : ∃ a, n * 256 % 18446744073709551616 = a := ⟨_, rfl⟩
            have ea : IntKind.u64.wrap ((n : Int) * 256) = (a : Int) := by simp [IntKind.wrap, IntKind.bits, IntKind.signed]; omega
            clear ha
            go_wp2_with fail
            refine (l1Next xs bc q vb _ H3 hv hq hx).mono ?_
            rintro e w3 ⟨y, q2, rfl, hy, hq2, H4⟩
            clear H3
            obtain ⟨b, hbb⟩ : ∃ b, (a + y) % 18446744073709551616 = b := ⟨_, rfl⟩
            have eb : IntKind.u64.wrap ((a : Int) + y) = (b : Int) := by simp [IntKind.wrap, IntKind.bits, IntKind.signed]; omega
            have hb64 : b < 18446744073709551616 := by omega
            clear hbb
            have ey := wrap64u y (by omega)
            go_wp2
            go_roundw
            case rel => exact ⟨b, j + 1, q2, hb64, by omega, by go_num, by go_num, hq2, H4⟩
            case measure => simp [intOf]; omega
          · have hd : decide ((j : Int) < (k : Int) % 8) = false := by simp; omega
            go_wp2
            go_ret
            exact ⟨n, q, rfl, hn, hq, H3⟩
theorem l1Bytes {W : World} {R : List Ds} (xs : List UInt8) (bc p n : Nat) (vb : Value) (w : World) (HS : Own W (Rdr bc vb p :: R) w) (hv : Rd W vb xs) (hp : p ≤ xs.length) (hx : xs.length ≤ 1000) (hn : n ≤ 1000) :
    Calls Tryd.prog 45 #[.pointer (some ⟨bc, 0, none⟩), .int .i64 n] w fun e w' => ∃ (v : Value) (q : Nat) (ys : List UInt8), e = .returned v ∧ q ≤ xs.length ∧ ys.length = n ∧ Own W (.own v ys :: Rdr bc vb q :: R) w' := by
  have HL := HS.lit ([] : List UInt8) #[] 5 rfl rfl (by simp)
  go_enter Tryd.func45, Tryd.ntmps45
  go_wp2
  go_loopw [5, 6] (fun v i wr => ∃ (j q : Nat) (ys : List UInt8), j ≤ n ∧ i = .int .i64 j ∧ q ≤ xs.length ∧ Hid (ys.length = j) ∧ Own W (.own v ys :: Rdr bc vb q :: R) wr) (fun _ i _ => n - (intOf i).toNat)
  case atStart => exact ⟨0, p, [], by omega, rfl, hp, Lib.hid rfl, HL⟩
  case round =>
    obtain ⟨j, q, ys, hj, rfl, hq, hys, H1⟩ := hrel
    clear HL HS
    by_cases hlt : j < n
    · go_wp2_with fail
      refine (l1Next xs bc q vb _ (H1.pick 1 rfl) hv hq hx).mono ?_
      rintro e w2 ⟨y, q2, rfl, hy, hq2, H2⟩
      clear H1
      have hyl : ys.length ≤ 1000 := by have := hys.out; omega
      have hw : IntKind.u8.wrap (y : Int) = (y : Int) := by have := u8_of y; rw [this]; simp; omega
      have HL := ((H2.lit [UInt8.ofNat y] #[.int .u8 (y : Int)] 5 rfl (by show [_] = [_]; congr 1; simp; omega) (by simp)).pick 2 rfl)
      go_wp2_with (refine wp_app2 (α := UInt8) rfl _ _ 22 rfl (by kernel_rfl) _ _ HL rfl _ _ rfl (HL.rd 1 rfl) (by show (_ + 1) * 1 ≤ _; omega) (by show _ + 1 ≤ _; omega) ?_; clear HL; intro v2 zs w3 hzs _ HL)
      have H3 := (HL.pick 1 rfl).drop
      go_roundw
      case rel => exact ⟨j + 1, q2, zs, by omega, by go_num, hq2, Lib.hid (by rw [hzs.out, List.length_append, hys.out]; rfl), H3⟩
      case measure => simp [intOf]; omega
    · obtain ⟨A, c, rfl, _, _⟩ := (H1.rd 0 rfl).val
      go_wp2
      go_ret
      exact ⟨_, q, ys, rfl, hq, by have := hys.out; omega, H1⟩
theorem l1Word {W : World} {R : List Ds} (xs : List UInt8) (bc p : Nat) (vb : Value) (w : World) (HS : Own W (Rdr bc vb p :: R) w) (hv : Rd W vb xs) (hp : p ≤ xs.length) (hx : xs.length ≤ 1000) :
    Calls Tryd.prog 44 #[.pointer (some ⟨bc, 0, none⟩)] w fun e w' => ∃ (s : ByteArray) (q : Nat), e = .returned (.string s) ∧ q ≤ xs.length ∧ s.size ≤ 20 ∧ Own W (Rdr bc vb q :: R) w' := by
  go_enter Tryd.func44, Tryd.ntmps44
  go_wp2_with fail
  refine (l1Next xs bc p vb _ HS hv hp hx).mono ?_
  rintro e w1 ⟨k, q, rfl, hk, hq, H1⟩
  clear HS
  by_cases h : k % 16 = 15
  · have hb : ((k : Int) % 16 == 15) = true := by simp; omega
    obtain ⟨d, hd⟩ : ∃ d, k / 16 = d := ⟨_, rfl⟩
    have e3 : (k : Int) / 16 = (d : Int) := by omega
    have hd16 : d ≤ 16 := by omega
    clear hd
    go_wp2_with fail
    refine (l1Bytes xs bc q d vb _ H1 hv hq hx (by omega)).mono ?_
    rintro e w2 ⟨v, q2, ys, rfl, hq2, hys, H2⟩
    have hr := H2.rd 0 rfl
    have hcv := run_cv (P := Tryd.prog) (src := 22) (dst := 9) Tryd.underlying22 Tryd.underlying5 Tryd.underlying9 hr
    obtain ⟨A, c, rfl, _, _⟩ := hr.val
    obtain ⟨S, hS⟩ : ∃ S : ByteArray, (⟨ys.toArray⟩ : ByteArray) = S := ⟨_, rfl⟩
    have hSz : S.size ≤ 20 := by rw [← hS]; show ys.toArray.size ≤ 20; simp; omega
    rw [hS] at hcv
    clear hS hr hys
    go_wp2
    go_ret
    exact ⟨S, q2, rfl, hq2, hSz, H2.drop⟩
  · have hb : ((k : Int) % 16 == 15) = false := by simp; omega
    have HSZ := Lib.hid (show (({ data := #[97, 98, 99, 100, 101, 102, 103, 104] } : ByteArray).extract (k % 8) (k % 8 + 1)).size ≤ 20 by rw [ByteArray.size_extract, show ({ data := #[97, 98, 99, 100, 101, 102, 103, 104] } : ByteArray).size = 8 from rfl]; omega)
    go_wp2
    go_ret
    exact ⟨_, q, rfl, hq, HSZ.out, H1⟩
theorem l1Repeat (s : ByteArray) (n : Nat) (w : World) (hs : s.size ≤ 4) (hn : n ≤ 1000) :
    Calls Tryd.prog 43 #[.string s, .int .i64 n] w fun e w' => ∃ t : ByteArray, e = .returned (.string t) ∧ t.size ≤ 4 * n ∧ Below w.heap.size w w' := by
  have HL := (Own.start w).lit ([] : List UInt8) #[] 5 rfl rfl (by simp)
  have HZ := Lib.hid (size_list s)
  go_enter Tryd.func43, Tryd.ntmps43
  go_wp2
  go_loopw [5, 6] (fun v i wr => ∃ (j : Nat) (ys : List UInt8), j ≤ n ∧ i = .int .i64 j ∧ Hid (ys.length ≤ 4 * j) ∧ Own w [.own v ys] wr) (fun _ i _ => n - (intOf i).toNat)
  case atStart => exact ⟨0, [], by omega, rfl, Lib.hid (by simp), HL⟩
  case round =>
    obtain ⟨j, ys, hj, rfl, hys, H1⟩ := hrel
    clear HL
    by_cases hlt : j < n
    · have hyl : ys.length ≤ 4000 := by have := hys.out; omega
      go_wp2_with (first | (refine wp_conv_bytes (by rfl) _ _ _ (by rfl) Tryd.underlying9 Tryd.underlying22 Tryd.underlying5 H1 s rfl (by omega) ?_; clear H1; intro A c w2 H1 hb hy) | (refine wp_app2 (α := UInt8) rfl _ _ 22 rfl (by kernel_rfl) _ _ H1 rfl _ _ rfl hy (by rw [HZ.out]; show _ * 1 ≤ _; omega) (by rw [HZ.out]; omega) ?_; clear H1; intro v2 zs w3 hzs hzl H1))
      rw [HZ.out] at hzl
      have HZL := Lib.hid hzl
      clear hzl
      go_roundw
      case rel => exact ⟨j + 1, zs, by omega, by go_num, Lib.hid (by have := HZL.out; have := hys.out; omega), H1⟩
      case measure => simp [intOf]; omega
    · have hr := H1.rd 0 rfl
      have hcv := run_cv (P := Tryd.prog) (src := 22) (dst := 9) Tryd.underlying22 Tryd.underlying5 Tryd.underlying9 hr
      obtain ⟨A, c, rfl, _, _⟩ := hr.val
      obtain ⟨S, hS⟩ : ∃ S : ByteArray, (⟨ys.toArray⟩ : ByteArray) = S := ⟨_, rfl⟩
      have hSz : S.size ≤ 4 * n := by rw [← hS]; show ys.toArray.size ≤ _; have := hys.out; simp; omega
      rw [hS] at hcv
      have HSZ := Lib.hid hSz
      clear hS hr hSz
      go_wp2
      go_ret
      exact ⟨S, rfl, HSZ.out, H1.below⟩
theorem drawPutUvarint (bs : List UInt8) (v : Value) (w : World) (hv : Rd w v bs) :
    Calls Tryd.prog 20 #[v] w fun e w' => ∃ n : Nat, e = .returned (.int .u64 n) ∧ n < 18446744073709551616 ∧ Below w.heap.size w w' := by
  obtain ⟨A, c, rfl, hc, hl⟩ := hv.val
  go_enter Tryd.func20, Tryd.ntmps20
  go_wp2_with fail
  refine (l1Open bs _ _ hv).mono ?_
  rintro e w1 ⟨rfl, vb, xs, hx, hr, H1⟩
  go_wp2_with fail
  refine (l1DrawNumber xs _ 0 vb _ H1 hr (by omega) hx).mono ?_
  rintro e w2 ⟨n, q, rfl, hn, hq, H2⟩
  go_wp2
  go_ret
  exact ⟨n, rfl, hn, H2.below⟩
theorem drawPutText (bs : List UInt8) (v : Value) (w : World) (hv : Rd w v bs) :
    Calls Tryd.prog 21 #[v] w fun e w' => ∃ s : ByteArray, e = .returned (.string s) ∧ s.size ≤ 4000 ∧ Below w.heap.size w w' := by
  obtain ⟨A, c, rfl, hc, hl⟩ := hv.val
  go_enter Tryd.func21, Tryd.ntmps21
  go_wp2_with fail
  refine (l1Open bs _ _ hv).mono ?_
  rintro e w1 ⟨rfl, vb, xs, hx, hr, H1⟩
  go_wp2_with fail
  refine (l1Next xs _ 0 vb _ H1 hr (by omega) hx).mono ?_
  rintro e w2 ⟨k, q, rfl, hk, hq, H2⟩
  clear H1
  by_cases h : k % 8 = 7
  · have hb : ((k : Int) % 8 == 7) = true := by simp; omega
    go_wp2_with fail
    refine (l1Repeat ⟨#[120]⟩ (120 + k) _ (by show 1 ≤ 4; omega) (by omega)).mono ?_
    rintro e w3 ⟨t, rfl, ht, hb3⟩
    have H3 := H2.of_below hb3
    go_wp2
    go_ret
    exact ⟨t, rfl, by omega, H3.below⟩
  · have hb : ((k : Int) % 8 == 7) = false := by simp; omega
    go_wp2_with fail
    refine (l1Word xs _ q vb _ H2 hr hq hx).mono ?_
    rintro e w3 ⟨s, q2, rfl, hq2, hs, H3⟩
    clear H2
    go_wp2_with fail
    refine (l1Word xs _ q2 vb _ H3 hr hq2 hx).mono ?_
    rintro e w4 ⟨t, q3, rfl, hq3, ht, H4⟩
    go_wp2
    go_ret
    exact ⟨_, rfl, by rw [ByteArray.size_append]; omega, H4.below⟩
end Go.Proofs.YtonkdmjhlaikhaaDoor
