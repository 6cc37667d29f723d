/- The draw of bytes to be read. -/
import Derived.Test.YtonkdmjhlaikhaaDoorN2
import Derived.Test.YtonkdmjhlaikhaaDoorHp
namespace Go.Proofs.YtonkdmjhlaikhaaDoor
set_option linter.unusedSimpArgs false
set_option linter.unusedVariables false
open Go.RowKit Go.Ow
attribute [local irreducible] wpQuiet
set_option maxRecDepth 100000
theorem sub_ex (P : Program) {t e : Nat} (ht : P.underlying t = some (.slice e)) (hz : ∀ w, (sizeOf e).run P w = .ok 1 w) (A : Option Addr) (c n lo hi : Nat) (hlo : lo ≤ hi) (hhi : hi ≤ n) (hc : n ≤ c) :
    ∃ V, (∀ w, (Instr.sliceAt t (.slice A n c) (some (.int .i64 (lo : Int))) (some (.int .i64 (hi : Int))) none).run P w = .ok V w) ∧ ∀ (w : World) (ys : List UInt8), n = ys.length → Rd w (.slice A n c) ys → ∃ zs : List UInt8, zs.length = hi - lo ∧ Rd w V zs := by
  refine ⟨sliced A lo hi c 1, fun w => ?_, fun w ys hn hr => ?_⟩
  · have := run_subV (P := P) (w := w) (z := 1) ht (hz w) A n c (lo : Int) (hi : Int) (by omega) (by omega) (by omega)
    rw [this]; simp
  · subst hn
    exact ⟨_, by simp; omega, rd_subV hr lo hi hlo hhi⟩
theorem sub_ex2 (P : Program) {t e : Nat} (ht : P.underlying t = some (.slice e)) (hz : ∀ w, (sizeOf e).run P w = .ok 1 w) (A : Option Addr) (c n lo : Nat) (l : Int) (hll : l = lo) (hlo : lo ≤ n) (hc : n ≤ c) :
    ∃ V, (∀ w, (Instr.sliceAt t (.slice A n c) (some (.int .i64 l)) none none).run P w = .ok V w) ∧ ∀ (w : World) (ys : List UInt8), n = ys.length → Rd w (.slice A n c) ys → ∃ zs : List UInt8, zs.length = n - lo ∧ Rd w V zs := by
  refine ⟨sliced A lo n c 1, fun w => ?_, fun w ys hn hr => ?_⟩
  · have he : P.elem t = e := by simp [Program.elem, ht]
    have ht' : P.underlying t = some (.slice (P.elem t)) := by rw [he]; exact ht
    rw [run_sliceAt_slice w t _ _ _ _ ht', run_slice_l w t A n c ht' .i64 l (by omega) (by omega), he, hz, hll]
    simp [Result.andThen]
  · subst hn
    exact ⟨_, by simp, rd_subV hr lo ys.length hlo (Nat.le_refl _)⟩
set_option maxHeartbeats 4000000 in
theorem l1Change {W : World} {R : List Ds} (xs ys : List UInt8) (bc p : Nat) (vb v : Value) (w : World) (HS : Own W (.own v ys :: Rdr bc vb p :: R) w) (hv : Rd W vb xs) (hp : p ≤ xs.length) (hx : xs.length ≤ 1000) (hy : ys.length ≤ 1000) :
    Calls Tryd.prog 47 #[.pointer (some ⟨bc, 0, none⟩), v] w fun e w' => ∃ (v' : Value) (q : Nat) (zs : List UInt8), e = .returned v' ∧ q ≤ xs.length ∧ zs.length ≤ 1001 ∧ Own W (.own v' zs :: Rdr bc vb q :: R) w' := by
  obtain ⟨A, c, rfl, hc, hl⟩ := (HS.rd 0 rfl).val
  obtain ⟨n, hn⟩ : ∃ n, ys.length = n := ⟨_, rfl⟩
  rw [hn] at HS hc hl hy ⊢
  have HN := Lib.hid hn
  clear hn
  go_enter Tryd.func47, Tryd.ntmps47
  go_wp2_with fail
  refine (l1Next xs bc p vb _ (HS.pick 1 rfl) hv hp hx).mono ?_
  rintro e w1 ⟨k, q, rfl, hk, hq, H1⟩
  clear HS
  go_wp2_with fail
  refine (l1Next xs bc q vb _ H1 hv hq hx).mono ?_
  rintro e w2 ⟨k1, q1, rfl, hk1, hq1, H2⟩
  clear H1
  go_wp2_with fail
  refine (l1Next xs bc q1 vb _ H2 hv hq1 hx).mono ?_
  rintro e w3 ⟨k2, q2, rfl, hk2, hq2, H3⟩
  clear H2
  have HL := (H3.lit ([] : List UInt8) #[] 5 rfl rfl (by simp))
  by_cases h0 : n = 0
  · have hb0 : ((n : Int) == 0) = true := by simp; omega
    have hw : IntKind.u8.wrap (k : Int) = (k : Int) := by have := u8_of k; rw [this]; simp; omega
    have H4 := ((HL.lit [UInt8.ofNat k] #[.int .u8 (k : Int)] 5 rfl (by show [_] = [_]; congr 1; simp; omega) (by simp)).pick 1 rfl)
    simp only [World.size_alloc] at H4
    clear HL H3
    go_wp2_with (refine wp_app2 (α := UInt8) rfl _ _ 22 rfl (by kernel_rfl) _ _ H4 rfl _ _ rfl (H4.rd 1 rfl) (by show (0 + 1) * 1 ≤ _; omega) (by show 0 + 1 ≤ _; omega) ?_; clear H4; intro v2 zs w4 hzs hzl H4)
    have H5 := (((H4.pick 1 rfl).drop.pick 2 rfl).drop)
    obtain ⟨A5, c5, rfl, _, _⟩ := (H5.rd 0 rfl).val
    go_ret
    exact ⟨_, q2, zs, rfl, hq2, by simp at hzl; omega, H5⟩
  · have hb0 : ((n : Int) == 0) = false := by simp; omega
    obtain ⟨m, hm⟩ : ∃ m, (k1 * 256 + k2) % n = m := ⟨_, rfl⟩
    have hmn : m < n := by rw [← hm]; exact Nat.mod_lt _ (by omega)
    have e1 : ((k1 : Int) * 256 + k2).tmod n = (m : Int) := by rw [← hm, Int.tmod_eq_emod_of_nonneg (by omega)]; simp
    have e2 : ((k1 : Int) * 256 + k2) % n = (m : Int) := by rw [← hm]; simp
    clear hm
    obtain ⟨V1, hs1, hr1⟩ := sub_ex Tryd.prog Tryd.underlying22 (fun _ => by kernel_rfl) A c n 0 m (by omega) (by omega) hc
    obtain ⟨V2, hs2, hr2⟩ := sub_ex2 Tryd.prog Tryd.underlying22 (fun _ => by kernel_rfl) A c n (m + 1) ((m : Int) + 1) (by omega) (by omega) hc
    obtain ⟨V3, hs3, hr3⟩ := sub_ex2 Tryd.prog Tryd.underlying22 (fun _ => by kernel_rfl) A c n m (m : Int) rfl (by omega) hc
    replace hs1 : ∀ w, (Instr.sliceAt 22 (.slice A n c) none (some (.int .i64 (m : Int))) none).run Tryd.prog w = .ok V1 w := hs1
    obtain ⟨z1, hz1, hr1⟩ := hr1 _ ys HN.out.symm (HL.rd 2 rfl)
    have HR2 := Lib.hid hr2
    have HR3 := Lib.hid hr3
    have hz1l : z1.length ≤ m := by omega
    clear hr2 hr3 hz1 H3
    by_cases q0 : k % 4 = 0
    · have hq0 : ((k : Int) % 4 == 0) = true := by simp; omega
      have HRR := HR2
      clear hs3 HR2 HR3
      go_wp2_with (first | (refine wp_app2 (α := UInt8) rfl _ _ 22 rfl (by kernel_rfl) _ _ HL rfl _ _ rfl hr1 (by show (0 + _) * 1 ≤ _; omega) (by show 0 + _ ≤ _; omega) ?_; clear HL hs1 e1 e2; intro v2 z2 w4 hz2 hz2l H4; obtain ⟨z3, hz3, hr3⟩ := HRR.out _ ys HN.out.symm (H4.rd 2 rfl); have hl2 : z2.length ≤ m := (by simp at hz2l; omega); have hl3 : z2.length + z3.length ≤ n := (by omega); clear hz2l hz2 hz3 hz1l hr1) | (refine wp_app2 (α := UInt8) rfl _ _ 22 rfl (by kernel_rfl) _ _ H4 rfl _ _ rfl hr3 (by show (_ + _) * 1 ≤ _; omega) (by omega) ?_; clear H4 hr3; intro v4 z4 w5 hz4 hz4l H4))
      have H5 := (H4.pick 2 rfl).drop
      obtain ⟨A5, c5, rfl, _, _⟩ := (H5.rd 0 rfl).val
      go_ret
      exact ⟨_, q2, z4, rfl, hq2, by omega, H5⟩
    · have hq0 : ((k : Int) % 4 == 0) = false := by simp; omega
      by_cases q1 : k % 4 = 1
      · have hq1 : ((k : Int) % 4 == 1) = true := by simp; omega
        have HRR := HR3
        clear hs2 HR2 HR3
        go_wp2_with (refine wp_app2 (α := UInt8) rfl _ _ 22 rfl (by kernel_rfl) _ _ HL rfl _ _ rfl hr1 (by show (0 + _) * 1 ≤ _; omega) (by show 0 + _ ≤ _; omega) ?_; clear HL hs1 e1 e2; intro v2 z2 w4 hz2 hz2l H4; obtain ⟨z3, hz3, hr3⟩ := HRR.out _ ys HN.out.symm (H4.rd 2 rfl); have hl2 : z2.length ≤ m := (by simp at hz2l; omega); have hl3 : z2.length + z3.length ≤ n := (by omega); clear hz2l hz2 hz3 hz1l hr1)
        obtain ⟨d, hd⟩ : ∃ d, k / 4 = d := ⟨_, rfl⟩
        have e3 : (k : Int) / 4 = (d : Int) := by omega
        have hd64 : d < 64 := by omega
        have hwd : IntKind.u8.wrap (d : Int) = (d : Int) := by have := u8_of d; rw [this]; simp; omega
        clear hd
        have HB : Own W (.own v2 z2 :: .own (.slice (some ⟨w4.heap.size, 0, none⟩) 1 1) [UInt8.ofNat d] :: Rdr bc vb q2 :: .own (.slice A n c) ys :: R) (w4.alloc (.cells #[.int .u8 (IntKind.u8.wrap (IntKind.i64.wrap (d : Int)))] 5)).drew := by
          have := ((H4.lit [UInt8.ofNat d] #[.int .u8 (IntKind.u8.wrap (IntKind.i64.wrap (d : Int)))] 5 rfl (by rw [i64w (m := (d : Int)) rfl (by omega) (by omega), hwd]; show [_] = [_]; congr 1; simp; omega) (by simp)).drew).pick 1 rfl
          exact this
        clear H4
        go_region_held3 (fun _ => True) (first | trivial | go_keep) (first | (refine hp_app2 (α := UInt8) _ _ 22 rfl (by rfl) (by kernel_rfl) _ _ HB rfl _ _ rfl (HB.rd 1 rfl) (by show (_ + 1) * 1 ≤ _; omega) (by show _ + 1 ≤ _; omega) ?_; clear HB; intro v4 z4 w5 hz4 hz4l H5; replace hz4l : z4.length ≤ z2.length + 1 := hz4l; clear hr3; obtain ⟨z3, hz3, hr3⟩ := HRR.out _ ys HN.out.symm (H5.rd 3 rfl)) | (refine hp_app2 (α := UInt8) _ _ 22 rfl (by rfl) (by kernel_rfl) _ _ H5 rfl _ _ rfl hr3 (by show (_ + _) * 1 ≤ _; omega) (by omega) ?_; clear H5 hr3; intro v5 z5 w6 hz5 hz5l H5))
        all_goals
          go_wp2
          have H6 := ((H5.pick 1 rfl).drop.pick 2 rfl).drop
          obtain ⟨A6, c6, rfl, _, _⟩ := (H6.rd 0 rfl).val
          go_ret
          exact ⟨_, q2, z5, rfl, hq2, by omega, H6⟩
      · have hq1 : ((k : Int) % 4 == 1) = false := by simp; omega
        by_cases q2' : k % 4 = 2
        · have hqb : ((k : Int) % 4 == 2) = true := by simp; omega
          have HRR := HR3
          clear hs2 hs3 HR2 HR3
          go_wp2_with (refine wp_app2 (α := UInt8) rfl _ _ 22 rfl (by kernel_rfl) _ _ HL rfl _ _ rfl hr1 (by show (0 + _) * 1 ≤ _; omega) (by show 0 + _ ≤ _; omega) ?_; clear HL hs1 e1 e2; intro v2 z2 w4 hz2 hz2l H4; obtain ⟨z3, hz3, hr3⟩ := HRR.out _ ys HN.out.symm (H4.rd 2 rfl); have hl2 : z2.length ≤ m := (by simp at hz2l; omega); have hl3 : z2.length + z3.length ≤ n := (by omega); clear hz2l hz2 hz3 hz1l hr1)
          have H5 := (H4.pick 2 rfl).drop
          obtain ⟨A5, c5, rfl, _, _⟩ := (H5.rd 0 rfl).val
          go_ret
          exact ⟨_, q2, z2, rfl, hq2, by omega, H5⟩
        · have hqb : ((k : Int) % 4 == 2) = false := by simp; omega
          have HRR := HR2
          clear hs3 HR2 HR3
          go_wp2_with (refine wp_app2 (α := UInt8) rfl _ _ 22 rfl (by kernel_rfl) _ _ HL rfl _ _ rfl hr1 (by show (0 + _) * 1 ≤ _; omega) (by show 0 + _ ≤ _; omega) ?_; clear HL hs1 e1 e2; intro v2 z2 w4 hz2 hz2l H4; obtain ⟨z3, hz3, hr3⟩ := HRR.out _ ys HN.out.symm (H4.rd 2 rfl); have hl2 : z2.length ≤ m := (by simp at hz2l; omega); have hl3 : z2.length + z3.length ≤ n := (by omega); clear hz2l hz2 hz3 hz1l hr1)
          obtain ⟨d, hd⟩ : ∃ d, k / 4 = d := ⟨_, rfl⟩
          have e3 : (k : Int) / 4 = (d : Int) := by omega
          have hd64 : d < 64 := by omega
          clear hd
          obtain ⟨b, o, rfl⟩ := (H4.rd 2 rfl).fix (by rw [HN.out]; omega)
          have hB := By.rd (H4.rd 2 rfl) m (by rw [HN.out]; omega)
          obtain ⟨y, hy'⟩ : ∃ y, (ys[m]'(by rw [HN.out]; omega)).toNat = y := ⟨_, rfl⟩
          rw [hy'] at hB
          have HY := Lib.hid hy'
          clear hy'
          have HB : ∀ x : Int, Own W (.own v2 z2 :: .own (.slice (some ⟨w4.heap.size, 0, none⟩) 1 1) [UInt8.ofNat (IntKind.u8.wrap x).toNat] :: Rdr bc vb q2 :: .own (.slice (some ⟨b, o, none⟩) n c) ys :: R) (w4.alloc (.cells #[.int .u8 (IntKind.u8.wrap x)] 5)).drew := by
            intro x
            have hx0 : 0 ≤ IntKind.u8.wrap x ∧ IntKind.u8.wrap x < 256 := by simp [IntKind.wrap, IntKind.bits, IntKind.signed]; omega
            have := ((H4.lit [UInt8.ofNat (IntKind.u8.wrap x).toNat] #[.int .u8 (IntKind.u8.wrap x)] 5 rfl (by show [_] = [_]; congr 1; simp; omega) (by simp)).drew).pick 1 rfl
            exact this
          replace hs2 : ∀ w, (Instr.sliceAt 22 (.slice (some ⟨b, o, none⟩) n c) (some (.int .i64 (IntKind.i64.wrap ((m : Int) + 1)))) none none).run Tryd.prog w = .ok V2 w := fun w => by rw [i64w (m := (m : Int) + 1) rfl (by omega) (by omega)]; exact hs2 w
          clear H4
          go_region_held3 (fun w' => w'.cell? ⟨b, o + m, none⟩ = some (.int .u8 (y : Int))) (first | go_keep) (first | (refine hp_app2 (α := UInt8) _ _ 22 rfl (by rfl) (by kernel_rfl) _ _ (HB _) rfl _ _ rfl ((HB _).rd 1 rfl) (by show (_ + 1) * 1 ≤ _; omega) (by show _ + 1 ≤ _; omega) ?_; clear HB; intro v4 z4 w5 hz4 hz4l H5; replace hz4l : z4.length ≤ z2.length + 1 := hz4l; clear hr3; obtain ⟨z3, hz3, hr3⟩ := HRR.out _ ys HN.out.symm (H5.rd 3 rfl); have hB5 := By.rd (H5.rd 3 rfl) m (by rw [HN.out]; omega); rw [HY.out] at hB5) | (refine hp_app2 (α := UInt8) _ _ 22 rfl (by rfl) (by kernel_rfl) _ _ H5 rfl _ _ rfl hr3 (by show (_ + _) * 1 ≤ _; omega) (by omega) ?_; clear H5 hr3; intro v5 z5 w6 hz5 hz5l H5; have hB5 := By.rd (H5.rd 3 rfl) m (by rw [HN.out]; omega); rw [HY.out] at hB5))
          all_goals
            go_wp2
            have H6 := ((H5.pick 1 rfl).drop.pick 2 rfl).drop
            obtain ⟨A6, c6, rfl, _, _⟩ := (H6.rd 0 rfl).val
            go_ret
            exact ⟨_, rfl, q2, hq2, z5, by omega, H6⟩
theorem lit3 : (#[.int .u8 129, .int .u8 128, .int .u8 0] : Array Value).toList = (([129, 128, 0] : List UInt8).map Fl.fl).flatten := rfl
set_option maxHeartbeats 4000000 in
theorem drawGetUvarint (bs : List UInt8) (v : Value) (w : World) (hv : Rd w v bs) :
    Calls Tryd.prog 24 #[v] w fun e w' => ∃ (v' : Value) (pos : Int) (zs : List UInt8), e = .returned (.tuple #[v', .int .i64 pos]) ∧ zs.length ≤ 2000 ∧ Own w [.own v' zs] w' := by
  obtain ⟨A, c, rfl, hc, hl⟩ := hv.val
  go_enter Tryd.func24, Tryd.ntmps24
  go_wp2_with fail
  refine (l1Open bs _ _ hv).mono ?_
  rintro e w1 ⟨rfl, vb, xs, hx, hr, H1⟩
  go_wp2_with fail
  refine (l1Next xs _ 0 vb _ H1 hr (by omega) hx).mono ?_
  rintro e w2 ⟨k, q, rfl, hk, hq, H2⟩
  clear H1
  obtain ⟨m3, hm3⟩ : ∃ m, k % 3 = m := ⟨_, rfl⟩
  have hm3l : m3 < 3 := by omega
  have e3 : (k : Int) % 3 = (m3 : Int) := by omega
  clear hm3
  go_wp2_with fail
  refine (l1Bytes xs _ q m3 vb _ H2 hr hq hx (by omega)).mono ?_
  rintro e w3 ⟨v3, q3, ys, rfl, hq3, hys, H3⟩
  clear H2
  have HYS := Lib.hid hys
  clear hys
  go_wp2_with fail
  refine (l1DrawNumber xs _ q3 vb _ (H3.pick 1 rfl) hr hq3 hx).mono ?_
  rintro e w4 ⟨n, q4, rfl, hn, hq4, H4⟩
  clear H3
  go_wp2_with fail
  refine (specPutUvarint n _ hn).mono ?_
  rintro e w5 ⟨v5, rfl, hs⟩
  have hun := uv_len10 n hn
  have H5 := (H4.call hs).pick 2 rfl
  clear H4 hs e3
  obtain ⟨us, hus⟩ : ∃ us, uv n = us := ⟨_, rfl⟩
  have hyl : ys.length ≤ 3 := by have := HYS.out; omega
  rw [hus] at H5 hun
  clear hus hn
  by_cases k7 : k % 8 = 7
  · have b7 : ((k : Int) % 8 == 7) = true := by simp; omega
    have b6 : ((k : Int) % 8 == 6) = false := by simp; omega
    have b5 : ((k : Int) % 8 == 5) = false := by simp; omega
    have b4 : ((k : Int) % 16 == 4) = false := by simp; omega
    go_wp2_with (first | (go_at_call 47; refine (l1Change xs za1 _ q4 vb _ _ ((H5.pick 2 rfl).pick 1 rfl) hr hq4 hx (by omega)).mono ?_; rintro e w7 ⟨v7, q7, z7, rfl, hq7, hz7, H7⟩; clear H5) | (refine wp_app2 (α := UInt8) rfl _ _ 22 rfl (by kernel_rfl) _ _ H5 rfl _ _ rfl (H5.rd 1 rfl) (by show (_ + _) * 1 ≤ _; omega) (by show _ + _ ≤ _; omega) ?_; clear H5; intro va1 za1 wa1 ha1 la1 H5))
    have HZ := ((H7.pick 1 rfl).drop.pick 1 rfl).drop
    obtain ⟨Az, cz, rfl, _, _⟩ := (HZ.rd 0 rfl).val
    go_wp2
    go_ret2
    exact ⟨_, _, _, rfl, by omega, HZ⟩
  · by_cases k6 : k % 8 = 6
    · have b7 : ((k : Int) % 8 == 7) = false := by simp; omega
      have b6 : ((k : Int) % 8 == 6) = true := by simp; omega
      have b5 : ((k : Int) % 8 == 5) = false := by simp; omega
      have b4 : ((k : Int) % 16 == 4) = false := by simp; omega
      obtain ⟨d, hd⟩ : ∃ d, k / 8 % 2 = d := ⟨_, rfl⟩
      have ed : (k : Int) / 8 % 2 = (d : Int) := by omega
      obtain ⟨d2, hd2⟩ : ∃ d, k / 128 = d := ⟨_, rfl⟩
      have ed2 : (k : Int) / 128 = (d2 : Int) := by omega
      obtain ⟨d3, hd3⟩ : ∃ d, k / 16 % 4 = d := ⟨_, rfl⟩
      have ed3 : (k : Int) / 16 % 4 = (d3 : Int) := by omega
      have hdl : d < 2 ∧ d2 < 2 ∧ d3 < 4 := by omega
      have hw1 : IntKind.u8.wrap (128 + (d : Int)) = 128 + (d : Int) := by simp [IntKind.wrap, IntKind.bits, IntKind.signed]; omega
      have hw3 : IntKind.u8.wrap (d3 : Int) = (d3 : Int) := by have := u8_of d3; rw [this]; simp; omega
      obtain ⟨hdl1, hdl2, hdl3⟩ := hdl
      clear hd hd2 hd3 k6 k7
      go_wp2_with (refine wp_app2 (α := UInt8) rfl _ _ 22 rfl (by kernel_rfl) _ _ H5 rfl _ _ rfl (H5.rd 1 rfl) (by show (_ + _) * 1 ≤ _; omega) (by show _ + _ ≤ _; omega) ?_; clear H5; intro va1 za1 wa1 ha1 la1 H5)
      go_loopw [7, 9] (fun v i wr => ∃ (j : Nat) (zs : List UInt8), j ≤ 9 + d2 ∧ i = .int .i64 j ∧ Hid (zs.length ≤ 13 + j) ∧ Own w [.own v zs, .own v5 us, Rdr w.heap.size vb q4] wr) (fun _ i _ => 20 - (intOf i).toNat)
      case atStart => exact ⟨0, za1, by omega, rfl, Lib.hid (by omega), H5⟩
      case round =>
        obtain ⟨j, zs, hj, rfl, hzs, H6⟩ := hrel
        have hzl : zs.length ≤ 30 := by have := hzs.out; omega
        clear H5
        by_cases hlt : j < 9 + d2
        · have hd : decide ((j : Int) < 9 + (d2 : Int)) = true := by simp; omega
          have H7 := ((H6.lit [UInt8.ofNat (128 + d)] #[.int .u8 (128 + (d : Int))] 5 rfl (by show [_] = [_]; congr 1; simp; omega) (by simp)).pick 1 rfl)
          clear H6
          go_wp2_with (refine wp_app2 (α := UInt8) rfl _ _ 22 rfl (by kernel_rfl) _ _ H7 rfl _ _ rfl (H7.rd 1 rfl) (by show (_ + 1) * 1 ≤ _; omega) (by show _ + 1 ≤ _; omega) ?_; clear H7; intro va2 za2 wa2 ha2 la2 H7)
          have H8 := (H7.pick 1 rfl).drop
          replace la2 : za2.length ≤ zs.length + 1 := la2
          go_roundw
          case rel => exact ⟨j + 1, za2, by omega, by go_num, Lib.hid (by have := hzs.out; omega), H8⟩
          case measure => simp [intOf]; omega
        · have hd : decide ((j : Int) < 9 + (d2 : Int)) = false := by simp; omega
          have H7 := ((H6.lit [UInt8.ofNat d3] #[.int .u8 (d3 : Int)] 5 rfl (by show [_] = [_]; congr 1; simp; omega) (by simp)).pick 1 rfl)
          clear H6
          go_wp2_with ((refine wp_app2 (α := UInt8) rfl _ _ 22 rfl (by kernel_rfl) _ _ H7 rfl _ _ rfl (H7.rd 1 rfl) (by show (_ + 1) * 1 ≤ _; omega) (by show _ + 1 ≤ _; omega) ?_; clear H7; intro va2 za2 wa2 ha2 la2 H7); obtain ⟨Az, cz, rfl, _, _⟩ := (H7.rd 0 rfl).val)
          replace la2 : za2.length ≤ zs.length + 1 := la2
          have HZ := (((H7.pick 1 rfl).drop.pick 1 rfl).drop.pick 1 rfl).drop
          go_ret2
          exact ⟨_, _, _, rfl, by omega, HZ⟩
    · by_cases k5 : k % 8 = 5
      · have b7 : ((k : Int) % 8 == 7) = false := by simp; omega
        have b6 : ((k : Int) % 8 == 6) = false := by simp; omega
        have b5 : ((k : Int) % 8 == 5) = true := by simp; omega
        have b4 : ((k : Int) % 16 == 4) = false := by simp; omega
        obtain ⟨d, hd⟩ : ∃ d, k / 64 % 2 = d := ⟨_, rfl⟩
        have ed : (k : Int) / 64 % 2 = (d : Int) := by omega
        have hdl : d < 2 := by omega
        clear hd
        go_wp2_with (first | (have hgu := hun; refine wp_app2 (α := UInt8) rfl _ _ 22 rfl (by kernel_rfl) _ _ H5 rfl _ _ rfl (H5.rd 1 rfl) (by show (_ + _) * 1 ≤ _; omega) (by show _ + _ ≤ _; omega) ?_; clear H5; intro va1 za1 wa1 ha1 la1 H5; replace la1 : za1.length ≤ 13 := (by omega); clear hun hgu; replace H5 := ((H5.lit [129, 128, 0] #[.int .u8 129, .int .u8 128, .int .u8 0] 5 rfl lit3 (by simp)).pick 1 rfl)) | (refine wp_app2 (α := UInt8) rfl _ _ 22 rfl (by kernel_rfl) _ _ H5 rfl _ _ rfl (H5.rd 1 rfl) (by show (_ + 3) * 1 ≤ _; omega) (by show _ + 3 ≤ _; omega) ?_; clear H5; intro va2 za2 wa2 ha2 la2 H5; obtain ⟨Az, cz, rfl, _, _⟩ := (H5.rd 0 rfl).val))
        replace la2 : za2.length ≤ za1.length + 3 := la2
        have HZ := (((H5.pick 1 rfl).drop.pick 1 rfl).drop.pick 1 rfl).drop
        go_ret2
        exact ⟨_, _, _, rfl, by omega, HZ⟩
      · by_cases k4 : k % 16 = 4
        · have b7 : ((k : Int) % 8 == 7) = false := by simp; omega
          have b6 : ((k : Int) % 8 == 6) = false := by simp; omega
          have b5 : ((k : Int) % 8 == 5) = false := by simp; omega
          have b4 : ((k : Int) % 16 == 4) = true := by simp; omega
          obtain ⟨d, hd⟩ : ∃ d, k / 16 = d := ⟨_, rfl⟩
          have ed : (k : Int) / 16 = (d : Int) := by omega
          have hdl : d < 16 := by omega
          clear hd
          go_wp2_with (refine wp_app2 (α := UInt8) rfl _ _ 22 rfl (by kernel_rfl) _ _ H5 rfl _ _ rfl (H5.rd 1 rfl) (by show (_ + _) * 1 ≤ _; omega) (by show _ + _ ≤ _; omega) ?_; clear H5; intro va1 za1 wa1 ha1 la1 H5)
          have HZ := ((H5.pick 1 rfl).drop.pick 1 rfl).drop
          obtain ⟨Az, cz, rfl, _, _⟩ := (HZ.rd 0 rfl).val
          go_ret2
          exact ⟨_, _, _, rfl, by omega, HZ⟩
        · have b7 : ((k : Int) % 8 == 7) = false := by simp; omega
          have b6 : ((k : Int) % 8 == 6) = false := by simp; omega
          have b5 : ((k : Int) % 8 == 5) = false := by simp; omega
          have b4 : ((k : Int) % 16 == 4) = false := by simp; omega
          go_wp2_with (refine wp_app2 (α := UInt8) rfl _ _ 22 rfl (by kernel_rfl) _ _ H5 rfl _ _ rfl (H5.rd 1 rfl) (by show (_ + _) * 1 ≤ _; omega) (by show _ + _ ≤ _; omega) ?_; clear H5; intro va1 za1 wa1 ha1 la1 H5)
          have HZ := ((H5.pick 1 rfl).drop.pick 1 rfl).drop
          obtain ⟨Az, cz, rfl, _, _⟩ := (HZ.rd 0 rfl).val
          go_ret2
          exact ⟨_, _, _, rfl, by omega, HZ⟩
end Go.Proofs.YtonkdmjhlaikhaaDoor
