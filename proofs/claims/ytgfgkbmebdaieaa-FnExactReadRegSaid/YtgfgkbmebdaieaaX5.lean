/- ReadReg: the reference's texts each once. -/
import Derived.Test.YtgfgkbmebdaieaaX4
namespace Go.Proofs.Ytgfgkbmebdaieaa
set_option linter.unusedSimpArgs false
set_option linter.unusedVariables false
open Go.RowKit Go.Ow
attribute [local irreducible] wpQuiet
set_option maxRecDepth 100000
theorem insO_skip (x : ByteArray) : ∀ (a b : List ByteArray), (∀ y ∈ a, sLt y x = true) → insO x (a ++ b) = a ++ insO x b
  | [], b, _ => rfl
  | y :: a, b, h => by
    rw [List.cons_append, insO, if_pos (h y (by simp)), insO_skip x a b fun z hz => h z (List.mem_cons_of_mem _ hz)]; rfl
theorem insO_end (x : ByteArray) (l : List ByteArray) (h : ∀ y ∈ l, sLt y x = true) : insO x l = l ++ [x] := by
  have := insO_skip x l [] h
  rw [List.append_nil] at this
  exact this
theorem insO_eq (x : ByteArray) (l : List ByteArray) (j : Nat) (hj : j < l.length) (h : ∀ y ∈ l.take j, sLt y x = true) (e : l[j] = x) : insO x l = l := by
  have := insO_skip x (l.take j) (l.drop j) h
  rw [List.take_append_drop, List.drop_eq_getElem_cons hj, insO, e] at this
  have hi : sLt x x = false := by unfold sLt; exact bytesLess_irr _
  rw [hi, if_neg (by simp), if_pos rfl] at this
  rw [this]
  conv => rhs; rw [← List.take_append_drop j l, List.drop_eq_getElem_cons hj, e]
theorem insO_mid (x : ByteArray) (l : List ByteArray) (j : Nat) (hj : j < l.length) (h : ∀ y ∈ l.take j, sLt y x = true) (h1 : sLt l[j] x = false) (e : l[j] ≠ x) : insO x l = (l.take j ++ [x]) ++ l.drop j := by
  have := insO_skip x (l.take j) (l.drop j) h
  rw [List.take_append_drop] at this
  rw [this, List.drop_eq_getElem_cons hj, insO, h1, if_neg (by simp), if_neg e]
  simp
theorem subS_lo {w : World} {A : Option Addr} {n c : Nat} (k : Nat) (h1 : k ≤ n) (h2 : n ≤ c) :
    (Instr.sliceAt 39 (.slice A n c) none (some (.int .i64 (k : Int))) none).run Try.prog w = .ok (sliced A 0 k c 1) w := by
  have := run_subV (P := Try.prog) (w := w) (z := 1) Try.underlying39 (by kernel_rfl) A n c ((0 : Nat) : Int) (k : Int) (by omega) (by omega) (by omega)
  rw [Int.toNat_natCast, Int.toNat_natCast] at this
  exact this
theorem subS_hi {w : World} {A : Option Addr} {n c : Nat} (k : Nat) (h1 : k ≤ n) (h2 : n ≤ c) :
    (Instr.sliceAt 39 (.slice A n c) (some (.int .i64 (k : Int))) none none).run Try.prog w = .ok (sliced A k n c 1) w := by
  have he : Try.prog.elem 39 = 9 := by simp [Program.elem, Try.underlying39]
  have ht' : Try.prog.underlying 39 = some (.slice (Try.prog.elem 39)) := by rw [he]; exact Try.underlying39
  have hz : (sizeOf 9).run Try.prog w = .ok 1 w := by kernel_rfl
  rw [run_sliceAt_slice w 39 _ _ _ _ ht', run_slice_l w 39 A n c ht' .i64 (k : Int) (by omega) (by omega), he, hz]
  simp [Result.andThen]
theorem subS {n c : Nat} (A : Option Addr) (l : List ByteArray) (j : Nat) (hn : n = l.length) (h1 : j ≤ n) (h2 : n ≤ c) :
    ∃ V1 V2, (∀ q, (Instr.sliceAt 39 (.slice A n c) none (some (.int .i64 (j : Int))) none).run Try.prog q = .ok V1 q) ∧ (∀ q, (Instr.sliceAt 39 (.slice A n c) (some (.int .i64 (j : Int))) none none).run Try.prog q = .ok V2 q) ∧
      Hid (∀ w, Rd w (.slice A n c) l → Rd w V1 (l.take j) ∧ Rd w V2 (l.drop j)) := by
  subst hn
  refine ⟨_, _, fun q => subS_lo j h1 h2, fun q => subS_hi j h1 h2, Lib.hid fun w h => ⟨?_, ?_⟩⟩
  · have := rd_subV h 0 j (by omega) h1
    rwa [List.drop_zero, Nat.sub_zero] at this
  · have := rd_subV h j l.length h1 (Nat.le_refl _)
    rwa [List.take_of_length_le (by simp)] at this
set_option maxHeartbeats 4000000 in
theorem l3Once (xs : List ByteArray) (v : Value) (w : World) (hv : Rd w v xs) (hn : xs.length ≤ 1048576) :
    Calls Try.prog 79 #[v] w fun e w' => ∃ v', e = .returned v' ∧ Own w [.own v' (onceF [] xs)] w' := by
  obtain ⟨A, c, rfl, hc, hl⟩ := hv.val
  have HS := (Own.start w).lit ([] : List ByteArray) #[] 9 rfl rfl (by simp)
  go_enter Try.func79, Try.ntmps79
  go_wp2
  go_loopw [3, 4] (fun q i wr => ∃ (k : Nat) (out : List ByteArray) (g cap : Nat), k ≤ xs.length ∧ i = .int .i64 k ∧ q = .slice (some ⟨g, 0, none⟩) out.length cap ∧ out.length ≤ k ∧ Hid (onceF out (xs.drop k) = onceF [] xs) ∧ Own w [.own (.slice (some ⟨g, 0, none⟩) out.length cap) out] wr) (fun _ i _ => xs.length - (intOf i).toNat)
  case atStart => exact ⟨0, [], w.heap.size, 0, by omega, rfl, rfl, by simp, Lib.hid rfl, HS⟩
  case round =>
    obtain ⟨k, out, g, cap, hk, rfl, rfl, hol, HO, HS'⟩ := hrel
    clear HS
    by_cases hlt : k < xs.length
    · obtain ⟨b, o, rfl⟩ := hv.fix (by omega)
      have HX := HO.out
      rw [List.drop_eq_getElem_cons hlt] at HX
      have hg : ∀ (w0 : World) (L : List Ds), Own w L w0 → _ := fun w0 L H => Sg.rd (H.old hv) k hlt
      obtain ⟨x, hx⟩ : ∃ x, xs[k] = x := ⟨_, rfl⟩
      simp only [hx] at HX hg
      clear hx
      have HG := Lib.hid hg
      have HX2 := Lib.hid (show onceF (insO x out) (xs.drop (k + 1)) = onceF [] xs from HX)
      clear hg HO HX
      have HX := HX2
      clear HX2
      have hcb : out.length ≤ cap ∧ out.length ≤ 140737488355328 := by
        obtain ⟨_, _, he, h3, h4⟩ := (HS'.rd 0 rfl).val
        injection he with _ _ he
        subst he
        exact ⟨h3, h4⟩
      obtain ⟨hcap, hbig⟩ := hcb
      go_wp2
      go_loopw [5] (fun i wr2 => ∃ j : Nat, j ≤ out.length ∧ i = .int .i64 j ∧ Hid (∀ y ∈ out.take j, sLt y x = true) ∧ Own w [.own (.slice (some ⟨g, 0, none⟩) out.length cap) out] wr2) (fun i _ => out.length - (intOf i).toNat)
      case atStart => exact ⟨0, by omega, rfl, Lib.hid (by simp), HS'⟩
      case round =>
        obtain ⟨j, hj, rfl, HJ, HS⟩ := hrel
        clear HS'
        have hF : ∀ p : Ext _, _ := fun p => HG.out p.to _ (HS.of_below p.h)
        by_cases hj2 : j < out.length
        · have hGo : ∀ p : Ext _, _ := fun p => (Sg.row (HS.of_below p.h) j hj2).1
          have hd : decide ((j : Int) < (out.length : Int)) = true := by simp; omega
          have hd2 : ((j : Int) == (out.length : Int)) = false := by simp; omega
          have HJ2 := Lib.hid (insO_eq x out j hj2 HJ.out)
          have HJ3 := Lib.hid (insO_mid x out j hj2 HJ.out)
          have HJ4 : Hid (sLt out[j] x = true → ∀ y ∈ out.take (j + 1), sLt y x = true) := Lib.hid fun h y hy => by
            rw [List.take_succ_eq_append_getElem hj2] at hy
            rcases List.mem_append.1 hy with hy | hy
            · exact HJ.out y hy
            · rw [List.mem_singleton] at hy; rw [hy]; exact h
          obtain ⟨y, hy⟩ : ∃ y, out[j] = y := ⟨_, rfl⟩
          simp only [hy] at HJ2 HJ3 HJ4 hGo
          have HYE := Lib.hid hy
          clear hy
          cases h1 : sLt y x
          · have h1b : Op.bytesLess y.toList x.toList = false := h1
            have HJ3 := Lib.hid (HJ3.out h1)
            clear h1 HJ4
            by_cases he : y = x
            · have HJ2 := Lib.hid (HJ2.out he)
              have h2b : (y.toList == x.toList) = true := by rw [str_eq]; simp [he]
              have h2c : (y.toList != x.toList) = false := by rw [bne, h2b]; rfl
              clear he HJ3
              go_wp2
              (refine wp_region_ext (by kernel_rfl) (by kernel_rfl) ?_; (repeat (quiet_step (first | fail))); refine wpQuiet_nil ?_; rintro _ ⟨⟨w1, hw1⟩, rfl⟩)
              have H1 := HS.of_below hw1
              clear hF hGo
              have hF : ∀ p : Ext _, _ := fun p => HG.out p.to _ (H1.of_below p.h)
              have hGo : ∀ p : Ext _, _ := fun p => (Sg.row (H1.of_below p.h) j hj2).1
              simp only [HYE.out] at hGo
              go_wp2
              (refine wp_region_ext (by kernel_rfl) (by kernel_rfl) ?_; (repeat (quiet_step (first | fail))); refine wpQuiet_nil ?_; rintro _ ⟨⟨w1, hw1⟩, rfl⟩)
              have H2 := H1.of_below hw1
              clear hF hGo
              go_wp2
              go_roundw
              case rel => exact ⟨k + 1, out, g, cap, by omega, by go_num, rfl, by omega, Lib.hid (by have := HX.out; rw [HJ2.out] at this; exact this), H2⟩
              case measure => simp [intOf]; omega
            · have HE := Lib.hid (HJ3.out he)
              have h2b : (y.toList == x.toList) = false := by rw [str_eq]; simp [he]
              have h2c : (y.toList != x.toList) = true := by rw [bne, h2b]; rfl
              clear he HJ2
              go_wp2
              (refine wp_region_ext (by kernel_rfl) (by kernel_rfl) ?_; (repeat (quiet_step (first | fail))); refine wpQuiet_nil ?_; rintro _ ⟨⟨w1, hw1⟩, rfl⟩)
              have H1 := HS.of_below hw1
              clear hF hGo
              have hF : ∀ p : Ext _, _ := fun p => HG.out p.to _ (H1.of_below p.h)
              have hGo : ∀ p : Ext _, _ := fun p => (Sg.row (H1.of_below p.h) j hj2).1
              simp only [HYE.out] at hGo
              go_wp2
              (refine wp_region_ext (by kernel_rfl) (by kernel_rfl) ?_; (repeat (quiet_step (first | fail))); refine wpQuiet_nil ?_; rintro _ ⟨⟨w1, hw1⟩, rfl⟩)
              have H2 := H1.of_below hw1
              clear hF hGo
              have hB0 := HG.out _ _ H2
              rename_i w'
              have HL := H2.lit ([] : List ByteArray) #[] 9 rfl rfl (by simp)
              obtain ⟨V1, V2, hs1, hs2, HV⟩ := subS (some ⟨g, 0, none⟩) out j rfl hj hcap
              obtain ⟨wL, hwL⟩ : ∃ x, w'.alloc (.cells #[] 9) = x := ⟨_, rfl⟩
              obtain ⟨nx, hnx⟩ : ∃ x, w'.heap.size = x := ⟨_, rfl⟩
              go_wp2
              rw [hwL, hnx] at HL
              have hBL := HG.out _ _ HL
              clear hwL hnx hB0
              go_region_held3 (fun w' => w'.cell? ⟨b, o + k, none⟩ = some (.string x)) (first | go_keep) (first | ((first | (refine hp_app2 (α := ByteArray) _ _ 39 rfl (by rfl) (by kernel_rfl) _ _ HL.drew rfl _ _ rfl (HV.out _ (HL.drew.rd 1 rfl)).1 (by show (0 + _) * 16 ≤ _; simp only [List.length_take]; omega) (by show 0 + _ ≤ _; simp only [List.length_take]; omega) ?_) | (refine hp_app2 (α := ByteArray) _ _ 39 rfl (by rfl) (by kernel_rfl) _ _ ((HL.drew.lit [x] #[.string x] 9 rfl rfl (by simp)).pick 1 rfl) rfl _ _ rfl (HV.out _ (((HL.drew.lit [x] #[.string x] 9 rfl rfl (by simp)).pick 1 rfl).rd 2 rfl)).1 (by show (0 + _) * 16 ≤ _; simp only [List.length_take]; omega) (by show 0 + _ ≤ _; simp only [List.length_take]; omega) ?_) | (refine hp_app2 (α := ByteArray) _ _ 39 rfl (by rfl) (by kernel_rfl) _ _ ((HL.lit [x] #[.string x] 9 rfl rfl (by simp)).drew.pick 1 rfl) rfl _ _ rfl (HV.out _ (((HL.lit [x] #[.string x] 9 rfl rfl (by simp)).drew.pick 1 rfl).rd 2 rfl)).1 (by show (0 + _) * 16 ≤ _; simp only [List.length_take]; omega) (by show 0 + _ ≤ _; simp only [List.length_take]; omega) ?_)); intro v5 q5 w5 hq5 hl5 H5; have hl5 : q5.length ≤ j := (by simp only [List.length_nil, List.length_take] at hl5; omega); have hB5 := HG.out _ _ H5; clear HL) | ((first | (refine hp_app2 (α := ByteArray) _ _ 39 rfl (by rfl) (by kernel_rfl) _ _ ((H5.lit [x] #[.string x] 9 rfl rfl (by simp)).pick 1 rfl) rfl _ _ rfl (((H5.lit [x] #[.string x] 9 rfl rfl (by simp)).pick 1 rfl).rd 1 rfl) (by show (_ + 1) * 16 ≤ _; omega) (by show _ + 1 ≤ _; omega) ?_) | (refine hp_app2 (α := ByteArray) _ _ 39 rfl (by rfl) (by kernel_rfl) _ _ H5 rfl _ _ rfl (H5.rd 1 rfl) (by show (_ + 1) * 16 ≤ _; omega) (by show _ + 1 ≤ _; omega) ?_) | (refine hp_app2 (α := ByteArray) _ _ 39 rfl (by rfl) (by kernel_rfl) _ _ ((H5.lit [x] #[.string x] 9 rfl rfl (by simp)).drew.pick 1 rfl) rfl _ _ rfl (((H5.lit [x] #[.string x] 9 rfl rfl (by simp)).drew.pick 1 rfl).rd 1 rfl) (by show (_ + 1) * 16 ≤ _; omega) (by show _ + 1 ≤ _; omega) ?_) | (refine hp_app2 (α := ByteArray) _ _ 39 rfl (by rfl) (by kernel_rfl) _ _ H5.drew rfl _ _ rfl (H5.drew.rd 1 rfl) (by show (_ + 1) * 16 ≤ _; omega) (by show _ + 1 ≤ _; omega) ?_)); intro v6 q6 w6 hq6 hl6 H6; have hl6 : q6.length ≤ j + 1 := (by simp only [List.length_cons, List.length_nil] at hl6; omega); have hB6 := HG.out _ _ H6; clear H5 hB5))
              all_goals
                have hr2 := (HV.out _ (H6.rd 2 rfl)).2
                have hdl : (out.drop j).length ≤ out.length := by simp
                go_wp2_with (refine wp_app2 (α := ByteArray) rfl _ _ 39 rfl (by kernel_rfl) _ _ H6 rfl _ _ rfl hr2 (by show (_ + _) * 16 ≤ _; omega) (by omega) ?_; clear hr2; intro v7 q7 w7 hq7 hl7 H7)
                have H8 := ((H7.pick 1 rfl).drop.pick 1 rfl).drop
                obtain ⟨A7, c7, rfl, _, _⟩ := (H8.rd 0 rfl).val
                have hq : q7 = insO x out := by rw [hq7.out, hq6.out, hq5.out, HE.out]; rfl
                have hq7l : q7.length = out.length + 1 := by rw [hq, HE.out]; simp; omega
                have HQ := Lib.hid hq
                clear hq
                obtain ⟨g7, rfl⟩ := H8.fix (by omega)
                go_roundw
                case rel => exact ⟨k + 1, q7, g7, c7, by omega, by go_num, rfl, by omega, Lib.hid (by rw [HQ.out]; exact HX.out), H8⟩
                case measure => simp [intOf]; omega
          · have h1b : Op.bytesLess y.toList x.toList = true := h1
            have HJ4 := Lib.hid (HJ4.out h1)
            clear h1 HJ2 HJ3
            go_wp2
            (refine wp_region_ext (by kernel_rfl) (by kernel_rfl) ?_; (repeat (quiet_step (first | fail))); refine wpQuiet_nil ?_; rintro _ ⟨⟨w1, hw1⟩, rfl⟩)
            have H2 := HS.of_below hw1
            clear hF hGo
            go_wp2
            go_roundw
            case rel => exact ⟨j + 1, by omega, by go_num, HJ4, H2⟩
            case measure => simp [intOf]; omega
        · have hd : decide ((j : Int) < (out.length : Int)) = false := by simp; omega
          have hd2 : ((j : Int) == (out.length : Int)) = true := by simp; omega
          have HE := Lib.hid (show insO x out = (out.take j ++ [x]) ++ out.drop j by
            obtain rfl : j = out.length := by omega
            have := HJ.out
            rw [List.take_length] at this ⊢
            rw [List.drop_length, List.append_nil]
            exact insO_end x out this)
          go_wp2
          (refine wp_region_ext (by kernel_rfl) (by kernel_rfl) ?_; (repeat (quiet_step (first | fail))); refine wpQuiet_nil ?_; rintro _ ⟨⟨w1, hw1⟩, rfl⟩)
          have H1 := HS.of_below hw1
          clear hF
          have hF : ∀ p : Ext _, _ := fun p => HG.out p.to _ (H1.of_below p.h)
          go_wp2
          (refine wp_region_ext (by kernel_rfl) (by kernel_rfl) ?_; (repeat (quiet_step (first | fail))); refine wpQuiet_nil ?_; rintro _ ⟨⟨w1, hw1⟩, rfl⟩)
          have H2 := H1.of_below hw1
          clear hF
          have hB0 := HG.out _ _ H2
          rename_i w'
          have HL := H2.lit ([] : List ByteArray) #[] 9 rfl rfl (by simp)
          obtain ⟨V1, V2, hs1, hs2, HV⟩ := subS (some ⟨g, 0, none⟩) out j rfl hj hcap
          obtain ⟨wL, hwL⟩ : ∃ x, w'.alloc (.cells #[] 9) = x := ⟨_, rfl⟩
          obtain ⟨nx, hnx⟩ : ∃ x, w'.heap.size = x := ⟨_, rfl⟩
          go_wp2
          rw [hwL, hnx] at HL
          have hBL := HG.out _ _ HL
          clear hwL hnx hB0
          go_region_held3 (fun w' => w'.cell? ⟨b, o + k, none⟩ = some (.string x)) (first | go_keep) (first | ((first | (refine hp_app2 (α := ByteArray) _ _ 39 rfl (by rfl) (by kernel_rfl) _ _ HL.drew rfl _ _ rfl (HV.out _ (HL.drew.rd 1 rfl)).1 (by show (0 + _) * 16 ≤ _; simp only [List.length_take]; omega) (by show 0 + _ ≤ _; simp only [List.length_take]; omega) ?_) | (refine hp_app2 (α := ByteArray) _ _ 39 rfl (by rfl) (by kernel_rfl) _ _ ((HL.drew.lit [x] #[.string x] 9 rfl rfl (by simp)).pick 1 rfl) rfl _ _ rfl (HV.out _ (((HL.drew.lit [x] #[.string x] 9 rfl rfl (by simp)).pick 1 rfl).rd 2 rfl)).1 (by show (0 + _) * 16 ≤ _; simp only [List.length_take]; omega) (by show 0 + _ ≤ _; simp only [List.length_take]; omega) ?_) | (refine hp_app2 (α := ByteArray) _ _ 39 rfl (by rfl) (by kernel_rfl) _ _ ((HL.lit [x] #[.string x] 9 rfl rfl (by simp)).drew.pick 1 rfl) rfl _ _ rfl (HV.out _ (((HL.lit [x] #[.string x] 9 rfl rfl (by simp)).drew.pick 1 rfl).rd 2 rfl)).1 (by show (0 + _) * 16 ≤ _; simp only [List.length_take]; omega) (by show 0 + _ ≤ _; simp only [List.length_take]; omega) ?_)); intro v5 q5 w5 hq5 hl5 H5; have hl5 : q5.length ≤ j := (by simp only [List.length_nil, List.length_take] at hl5; omega); have hB5 := HG.out _ _ H5; clear HL) | ((first | (refine hp_app2 (α := ByteArray) _ _ 39 rfl (by rfl) (by kernel_rfl) _ _ ((H5.lit [x] #[.string x] 9 rfl rfl (by simp)).pick 1 rfl) rfl _ _ rfl (((H5.lit [x] #[.string x] 9 rfl rfl (by simp)).pick 1 rfl).rd 1 rfl) (by show (_ + 1) * 16 ≤ _; omega) (by show _ + 1 ≤ _; omega) ?_) | (refine hp_app2 (α := ByteArray) _ _ 39 rfl (by rfl) (by kernel_rfl) _ _ H5 rfl _ _ rfl (H5.rd 1 rfl) (by show (_ + 1) * 16 ≤ _; omega) (by show _ + 1 ≤ _; omega) ?_) | (refine hp_app2 (α := ByteArray) _ _ 39 rfl (by rfl) (by kernel_rfl) _ _ ((H5.lit [x] #[.string x] 9 rfl rfl (by simp)).drew.pick 1 rfl) rfl _ _ rfl (((H5.lit [x] #[.string x] 9 rfl rfl (by simp)).drew.pick 1 rfl).rd 1 rfl) (by show (_ + 1) * 16 ≤ _; omega) (by show _ + 1 ≤ _; omega) ?_) | (refine hp_app2 (α := ByteArray) _ _ 39 rfl (by rfl) (by kernel_rfl) _ _ H5.drew rfl _ _ rfl (H5.drew.rd 1 rfl) (by show (_ + 1) * 16 ≤ _; omega) (by show _ + 1 ≤ _; omega) ?_)); intro v6 q6 w6 hq6 hl6 H6; have hl6 : q6.length ≤ j + 1 := (by simp only [List.length_cons, List.length_nil] at hl6; omega); have hB6 := HG.out _ _ H6; clear H5 hB5))
          all_goals
            have hr2 := (HV.out _ (H6.rd 2 rfl)).2
            have hdl : (out.drop j).length ≤ out.length := by simp
            go_wp2_with (refine wp_app2 (α := ByteArray) rfl _ _ 39 rfl (by kernel_rfl) _ _ H6 rfl _ _ rfl hr2 (by show (_ + _) * 16 ≤ _; omega) (by omega) ?_; clear hr2; intro v7 q7 w7 hq7 hl7 H7)
            have H8 := ((H7.pick 1 rfl).drop.pick 1 rfl).drop
            obtain ⟨A7, c7, rfl, _, _⟩ := (H8.rd 0 rfl).val
            have hq : q7 = insO x out := by rw [hq7.out, hq6.out, hq5.out, HE.out]; rfl
            have hq7l : q7.length = out.length + 1 := by rw [hq, HE.out]; simp; omega
            have HQ := Lib.hid hq
            clear hq
            obtain ⟨g7, rfl⟩ := H8.fix (by omega)
            go_roundw
            case rel => exact ⟨k + 1, q7, g7, c7, by omega, by go_num, rfl, by omega, Lib.hid (by rw [HQ.out]; exact HX.out), H8⟩
            case measure => simp [intOf]; omega
    · go_wp2
      go_ret
      obtain rfl : k = xs.length := by omega
      have h := HO.out
      rw [List.drop_length] at h
      exact ⟨_, rfl, by rw [← h]; exact HS'⟩
end Go.Proofs.Ytgfgkbmebdaieaa
