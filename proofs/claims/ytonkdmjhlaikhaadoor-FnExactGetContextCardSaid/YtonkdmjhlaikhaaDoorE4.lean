/- The cursor reads a number. -/
import Derived.Test.YtonkdmjhlaikhaaDoorE3
import Derived.Test.YtonkdmjhlaikhaaDoorRn1
namespace Go.Proofs.YtonkdmjhlaikhaaDoor
set_option linter.unusedSimpArgs false
set_option linter.unusedVariables false
open Go.RowKit Go.Ow
attribute [local irreducible] wpQuiet
set_option maxRecDepth 100000
def numV (a : Addr) (r : Nat × Nat × Nat) (p : Nat) : Value := .tuple #[.int .u64 r.1, errV a r.2.2 ((p + r.2.1 : Nat) : Int)]
def numAt (r : Nat × Nat × Nat) (p : Nat) : Nat := if r.2.2 = 0 then p + r.2.1 else p
set_option maxHeartbeats 1000000 in
theorem number {W : World} {R : List Ds} (a : Addr) (bs : List UInt8) (at_ bc : Nat) (vb : Value) (w : World) (HS : Own W (.box bc 61 [vb, .int .i64 at_] :: R) w) (hv : Rd W vb bs) (hg : Gs a W) (hat : at_ ≤ bs.length) :
    Calls Tryd.prog 31 #[.pointer (some ⟨bc, 0, none⟩)] w fun e w' => e = .returned (numV a (rdNum (bs.drop at_) 0 0) at_) ∧ Own W (.box bc 61 [vb, .int .i64 (numAt (rdNum (bs.drop at_) 0 0) at_)] :: R) w' := by
  obtain ⟨A, c, rfl, hc, hl⟩ := hv.val
  obtain ⟨r, hr⟩ : ∃ r, rdNum (bs.drop at_) 0 0 = r := ⟨_, rfl⟩
  have HR0 := Lib.hid hr
  rw [hr]
  clear hr
  go_enter Tryd.func31, Tryd.ntmps31
  go_wp2
  go_loopw [4, 5] (fun vv i wr => ∃ k m : Nat, at_ + k ≤ bs.length ∧ k ≤ 9 ∧ m < 128 ^ k ∧ i = .int .i64 k ∧ vv = .int .u64 m ∧ Own W (.box bc 61 [.slice A bs.length c, .int .i64 at_] :: R) wr ∧ rdNum (bs.drop (at_ + k)) k m = r) (fun _ i _ => 10 - (intOf i).toNat)
  case atStart => exact ⟨0, 0, by omega, by omega, by simp, rfl, rfl, HS, HR0.out⟩
  case round =>
    obtain ⟨k, m, hk, hk9, hm, rfl, rfl, HS', he⟩ := hrel
    have HE := Lib.hid he
    have HM := Lib.hid hm
    have hm64 : m < 9223372036854775808 := Nat.lt_of_lt_of_le hm (pow_le k hk9)
    clear he HS HR0 hm
    obtain ⟨p, hp⟩ : ∃ p, at_ + k = p := ⟨_, rfl⟩
    rw [hp] at HE hk
    have e0 : IntKind.i64.wrap ((at_ : Int) + k) = (p : Int) := i64w (by omega) (by omega) (by omega)
    have HP := Lib.hid hp
    clear hp
    have hF : ∀ p : Ext wr, p.to.cell? ⟨bc, 0, none⟩ = some (.slice A bs.length c) ∧ p.to.cell? ⟨bc, 1, none⟩ = some (.int .i64 at_) := by
      intro p
      have F := (HS'.of_below p.h).facts
      simp only [Own.Facts, Own.Cells, Nat.zero_add] at F
      exact ⟨F.1.1.1, F.1.1.2.1⟩
    have hG : ∀ p : Ext wr, p.to.cell? ⟨0, 0, none⟩ = some (.iface 154 (.pointer (some a))) := fun p => hg.own (HS'.of_below p.h)
    by_cases hlt : p < bs.length
    · have hd : decide ((bs.length : Int) ≤ (p : Int)) = false := by simp; omega
      obtain ⟨b, o, rfl⟩ := hv.fix (by omega)
      have hB := fun q : Ext wr => By.rd ((HS'.of_below q.h).old hv) p hlt
      have HD := Lib.hid (show bs.drop p = bs[p] :: bs.drop (p + 1) from List.drop_eq_getElem_cons hlt)
      obtain ⟨x, hx⟩ : ∃ x, bs[p] = x := ⟨_, rfl⟩
      rw [hx] at HD
      simp only [hx] at hB
      clear hx
      have hx256 := UInt8.toNat_lt x
      obtain ⟨y, hy⟩ : ∃ y, x.toNat = y := ⟨_, rfl⟩
      have HY := Lib.hid hy
      rw [hy] at hx256
      simp only [hy] at hB
      clear hy
      go_wp2
      (refine wp_region_ext (by kernel_rfl) (by kernel_rfl) ?_; (repeat (quiet_step (first | fail))); refine wpQuiet_nil ?_; rintro _ ⟨⟨w1, hw1⟩, rfl⟩)
      have hF2 := fun p => hF (Ext.up hw1 p)
      have hB2 := fun p => hB (Ext.up hw1 p)
      have H2 := HS'.of_below hw1
      simp only [Ext.up] at hF2 hB2
      clear hF hG hB HS'
      go_wp2
      (refine wp_region_ext (by kernel_rfl) (by kernel_rfl) ?_; (repeat (quiet_step (first | fail))); refine wpQuiet_nil ?_; rintro _ ⟨⟨w1, hw1⟩, rfl⟩)
      have H3 := H2.of_below hw1
      clear H2 hF2 hB2 e0
      have F := H3.facts
      simp only [Own.Facts, Own.Cells, Nat.zero_add] at F
      have HX := Lib.hid (show r = (if k = 9 ∧ 1 < y then (0, 0, 2) else if y < 128 then (if y = 0 ∧ 0 < k then (0, 0, 3) else (m + y * 128 ^ k, k + 1, 0)) else rdNum (bs.drop (p + 1)) (k + 1) (m + (y % 128) * 128 ^ k)) by rw [← HE.out, HD.out, rdNum, HY.out])
      by_cases h9 : k = 9 ∧ 1 < y
      · have h9b : ((k : Int) == 9) = true := by simp; omega
        have hy1 : decide (1 < (y : Int)) = true := by simp; omega
        rw [if_pos h9] at HX
        clear h9
        go_wp2
        go_ret2
        exact ⟨by rw [HX.out]; rfl, by rw [HX.out]; exact H3⟩
      · rw [if_neg h9] at HX
        have hor := Lib.hid (or_step m y k hx256 hk9 (by omega) HM.out)
        have H9 := Lib.hid h9
        by_cases h128 : y < 128
        · rw [if_pos h128] at HX
          have hmod : y % 128 = y := by omega
          rw [hmod] at hor
          clear hmod
          by_cases h0 : y = 0 ∧ 0 < k
          · rw [if_pos h0] at HX
            obtain ⟨h0, h0k⟩ := h0
            have hy0 : ((y : Int) == 0) = true := by simp; exact h0
            have hk0 : decide (0 < (k : Int)) = true := by simp; omega
            clear h9
            by_cases h9k : k = 9
            · have h9b : ((k : Int) == 9) = true := by simp; omega
              have hy1 : decide (1 < (y : Int)) = false := by simp; omega
              clear h9k h0
              go_wp2
              go_ret2
              exact ⟨by rw [HX.out]; rfl, by rw [HX.out]; exact H3⟩
            · have h9b : ((k : Int) == 9) = false := by simp; omega
              clear h0
              go_wp2
              go_ret2
              exact ⟨by rw [HX.out]; rfl, by rw [HX.out]; exact H3⟩
          · rw [if_neg h0] at HX
            have H5 := H3.set 1 (.int .i64 ((at_ : Int) + ((k : Int) + 1)))
            by_cases hz : y = 0
            · have hk0 : k = 0 := by omega
              have hy0 : ((y : Int) == 0) = true := by simp; exact hz
              have hk1 : decide (0 < k) = false := by simp; omega
              have hk2 : ¬ 0 < k := by omega
              have h9b : ((k : Int) == 9) = false := by simp; omega
              clear h9 h0 hz hk0
              go_wp2
              go_ret2
              exact ⟨by rw [HX.out, hor.out]; rfl, by rw [HX.out]; exact H5⟩
            · have hy0 : ((y : Int) == 0) = false := by simp; exact hz
              by_cases h9k : k = 9
              · have h9b : ((k : Int) == 9) = true := by simp; omega
                have hy1 : decide (1 < (y : Int)) = false := by simp; omega
                clear h9k h0 hz h9
                go_wp2
                go_ret2
                exact ⟨by rw [HX.out, hor.out]; rfl, by rw [HX.out]; exact H5⟩
              · have h9b : ((k : Int) == 9) = false := by simp; omega
                clear h9k h0 hz h9
                go_wp2
                go_ret2
                exact ⟨by rw [HX.out, hor.out]; rfl, by rw [HX.out]; exact H5⟩
        · rw [if_neg h128] at HX
          have h9b : ((k : Int) == 9) = false := by simp; omega
          clear h9
          go_wp2
          go_roundw
          case rel => exact ⟨k + 1, m + y % 128 * 128 ^ k, by have := HP.out; omega, by have := H9.out; omega, by have := HM.out; have h2 : y % 128 * 128 ^ k ≤ 127 * 128 ^ k := Nat.mul_le_mul_right _ (by omega); rw [Nat.pow_succ]; omega, by go_num, by rw [hor.out], H3, by rw [HX.out, ← HP.out]; rfl⟩
          case measure => simp [intOf]; omega
    · have hd : decide ((bs.length : Int) ≤ (p : Int)) = true := by simp; omega
      have HR := Lib.hid (show r = (0, k, 1) by rw [← HE.out, List.drop_eq_nil_of_le (by omega)]; rfl)
      go_wp2
      (refine wp_region_ext (by kernel_rfl) (by kernel_rfl) ?_; (repeat (quiet_step (first | fail))); refine wpQuiet_nil ?_; rintro _ ⟨⟨w1, hw1⟩, rfl⟩)
      have hF2 := fun p => hF (Ext.up hw1 p)
      have hG2 := fun p => hG (Ext.up hw1 p)
      have H2 := HS'.of_below hw1
      simp only [Ext.up] at hF2 hG2
      clear hF hG
      go_wp2
      (refine wp_region_ext (by kernel_rfl) (by kernel_rfl) ?_; (repeat (quiet_step (first | fail))); refine wpQuiet_nil ?_; rintro _ ⟨⟨w1, hw1⟩, rfl⟩)
      go_wp2
      go_ret2
      exact ⟨by rw [HR.out]; show _ = Ending.returned (.tuple #[.int .u64 0, errV a 1 ((at_ + k : Nat) : Int)]); rw [HP.out]; rfl, by rw [HR.out]; exact H2.of_below hw1⟩
end Go.Proofs.YtonkdmjhlaikhaaDoor
