/- The reference's union of contexts. -/
import Derived.Test.YtkafflbakgkpcaaGreatCa
import Derived.Test.YtkafflbakgkpcaaGreatL1
import Derived.Test.YtkafflbakgkpcaaGreatL2
namespace Go.Proofs.YtkafflbakgkpcaaGreat
set_option linter.unusedSimpArgs false
set_option linter.unusedVariables false
open Go.RowKit Go.Ow
attribute [local irreducible] wpQuiet
set_option maxRecDepth 100000
theorem box3 {W w0 : World} {R : List Ds} {sz t : Nat} {a b c : Int} (H : Own W (.box sz t [.int .i64 a, .int .i64 b, .int .i64 c] :: R) w0) : (w0.cell? ⟨sz, 0, none⟩ = some (.int .i64 a) ∧ w0.cell? ⟨sz, 1, none⟩ = some (.int .i64 b) ∧ w0.cell? ⟨sz, 2, none⟩ = some (.int .i64 c)) ∧ ∀ j, w0.frozen? ⟨sz, j, none⟩ = false := by
  have F := H.facts
  simp only [Own.Facts, Own.Cells, Nat.zero_add] at F
  exact ⟨⟨F.1.1.1, F.1.1.2.1, F.1.1.2.2.1⟩, F.1.2.1⟩
set_option maxHeartbeats 4000000 in
theorem l2InsertC (xs : List Rn) (r : Rn) (v : Value) (w : World) (hv : Rd w v xs) (hn : xs.length ≤ 4194304) :
    Calls Tryz.prog 50 #[v, .agg #[.int .i64 r.r, .int .i64 r.f, .int .i64 r.t]] w fun e w' => ∃ v', e = .returned v' ∧ Own w [.own v' (ins [] r [] xs)] w' := by
  obtain ⟨A, c, rfl, _, hl⟩ := hv.val
  have HS := (((Own.start w).box [.int .i64 r.r, .int .i64 r.f, .int .i64 r.t] 81).lit ([] : List Rn) #[] 81 rfl rfl (by simp)).lit ([] : List Rn) #[] 81 rfl rfl (by simp)
  simp only [World.size_alloc] at HS
  replace HS := HS.pick 1 rfl
  simp only [List.eraseIdx_cons_succ, List.eraseIdx_cons_zero] at HS
  have HT := Lib.hid (ins_len xs [] r [])
  obtain ⟨T, hT⟩ : ∃ T, ins [] r [] xs = T := ⟨_, rfl⟩
  rw [hT] at HT ⊢
  have HT0 := Lib.hid hT
  clear hT
  obtain ⟨sz, hsz⟩ : ∃ n, w.heap.size = n := ⟨_, rfl⟩
  go_enter Tryz.func50, Tryz.ntmps50
  go_wp2
  rw [hsz] at HS
  clear hsz
  go_loopw [5, 6, 7] (fun q1 q2 i wr => ∃ (k : Nat) (bs : List Rn) (r' : Rn) (cs : List Rn) (u1 u2 : Value), k ≤ xs.length ∧ i = .int .i64 k ∧ q1 = u1 ∧ q2 = u2 ∧ bs.length ≤ k ∧ cs.length ≤ k ∧ Own w [.own u1 bs, .own u2 cs, .box sz 81 [.int .i64 r'.r, .int .i64 r'.f, .int .i64 r'.t]] wr ∧ T = ins bs r' cs (xs.drop k)) (fun _ _ i _ => xs.length - (intOf i).toNat)
  case atStart => exact ⟨0, [], r, [], _, _, by omega, rfl, rfl, rfl, by simp, by simp, HS, HT0.out.symm⟩
  case round =>
    obtain ⟨k, bs, r', cs, u1, u2, hk, rfl, rfl, rfl, hbl, hcl, HS', he⟩ := hrel
    have HE := Lib.hid he
    clear he HS
    obtain ⟨A1, c1, rfl, _, _⟩ := (HS'.rd 0 rfl).val
    obtain ⟨A2, c2, rfl, _, _⟩ := (HS'.rd 1 rfl).val
    by_cases hlt : k < xs.length
    · obtain ⟨b, o, rfl⟩ := hv.fix (by omega)
      have HD := HE.out
      rw [List.drop_eq_getElem_cons hlt, ins] at HD
      have GX : ∀ w0 : World, Own w [] w0 → _ := fun w0 H => Rn.rd (H.old hv) k hlt
      obtain ⟨x, hx⟩ : ∃ x, xs[k] = x := ⟨_, rfl⟩
      simp only [hx] at HD GX
      clear hx
      have GB : ∀ (w0 : World), Own w [.own (.slice A1 bs.length c1) bs, .own (.slice A2 cs.length c2) cs, .box sz 81 [.int .i64 r'.r, .int .i64 r'.f, .int .i64 r'.t]] w0 → w0.cell? ⟨sz, 0, none⟩ = some (.int .i64 r'.r) ∧ w0.cell? ⟨sz, 1, none⟩ = some (.int .i64 r'.f) ∧ w0.cell? ⟨sz, 2, none⟩ = some (.int .i64 r'.t) := fun w0 H => by
        have F := H.facts
        simp only [Own.Facts, Own.Cells, Nat.zero_add] at F
        exact ⟨F.1.1.1, F.1.1.2.1, F.1.1.2.2.1⟩
      have HGX := Lib.hid GX
      have HGB := Lib.hid GB
      clear GX GB
      have hF := fun p : Ext wr => HGX.out p.to ((HS'.of_below p.h).drop.drop.drop)
      have hG := fun p : Ext wr => HGB.out p.to (HS'.of_below p.h)
      cases a1 : apart x r'
      · rw [a1, if_neg (by simp)] at HD
        have hcall1 := fun w0 : World => l2Apart x r' w0
        simp only [a1] at hcall1
        clear a1
        cases a2 : apart r' x
        · rw [a2, if_neg (by simp)] at HD
          have HD := Lib.hid HD
          go_wp2
          (refine wp_region_ext (by kernel_rfl) (by kernel_rfl) ?_; (repeat (quiet_step (first | exact q_call (hcall1 _)))); refine wpQuiet_nil ?_; rintro _ ⟨⟨w1, hw1⟩, rfl⟩)
          have H1 := HS'.of_below hw1
          clear hF hG hcall1
          have hF := fun p : Ext _ => HGX.out p.to ((H1.of_below p.h).drop.drop.drop)
          have hG := fun p : Ext _ => HGB.out p.to (H1.of_below p.h)
          have hcall2 := fun w0 : World => l2Apart r' x w0
          simp only [a2] at hcall2
          clear a2
          go_wp2
          (refine wp_region_ext (by kernel_rfl) (by kernel_rfl) ?_; (repeat (quiet_step (first | exact q_call (hcall2 _)))); refine wpQuiet_nil ?_; rintro _ ⟨⟨w1, hw1⟩, rfl⟩)
          have H2 := (H1.of_below hw1).pick 2 rfl
          simp only [List.eraseIdx_cons_succ, List.eraseIdx_cons_zero] at H2
          clear hF hG hcall2 H1
          have hF := fun p : Ext _ => HGX.out p.to ((H2.of_below p.h).drop.drop.drop)
          have hG := fun p : Ext _ => (box3 (H2.of_below p.h)).1
          by_cases f1 : x.f < r'.f
          · by_cases f2 : r'.t < x.t
            · have hmr := Lib.hid (show mrg r' x = ⟨r'.r, x.f, x.t⟩ by simp [mrg, f1, f2])
              go_wp2
              (refine wp_region_ext (by kernel_rfl) (by kernel_rfl) ?_; (repeat (quiet_step (first | fail))); refine wpQuiet_nil ?_; rintro _ ⟨⟨w1, hw1⟩, rfl⟩)
              have H3 := H2.of_below hw1
              clear hF hG H2
              have hx := HGX.out _ H3.drop.drop.drop
              have hb := box3 H3
              go_wp2
              replace H3 := H3.set 1 (.int .i64 x.f)
              simp only [List.set_cons_zero, List.set_cons_succ] at H3
              clear hx hb
              have hF := fun p : Ext _ => HGX.out p.to ((H3.of_below p.h).drop.drop.drop)
              have hG := fun p : Ext _ => (box3 (H3.of_below p.h)).1
              (refine wp_region_ext (by kernel_rfl) (by kernel_rfl) ?_; (repeat (quiet_step (first | fail))); refine wpQuiet_nil ?_; rintro _ ⟨⟨w1, hw1⟩, rfl⟩)
              have H4 := H3.of_below hw1
              clear hF hG H3
              have hx := HGX.out _ H4.drop.drop.drop
              have hb := box3 H4
              go_wp2
              replace H4 := H4.set 2 (.int .i64 x.t)
              simp only [List.set_cons_zero, List.set_cons_succ] at H4
              go_roundw
              case rel => exact ⟨k + 1, bs, ⟨r'.r, x.f, x.t⟩, cs, _, _, by omega, by go_num, rfl, rfl, by omega, by omega, (H4.pick 2 rfl).pick 2 rfl, by rw [HD.out, hmr.out]⟩
              case measure => simp [intOf]; omega
            · have hmr := Lib.hid (show mrg r' x = ⟨r'.r, x.f, r'.t⟩ by simp [mrg, f1, f2])
              go_wp2
              (refine wp_region_ext (by kernel_rfl) (by kernel_rfl) ?_; (repeat (quiet_step (first | fail))); refine wpQuiet_nil ?_; rintro _ ⟨⟨w1, hw1⟩, rfl⟩)
              have H3 := H2.of_below hw1
              clear hF hG H2
              have hx := HGX.out _ H3.drop.drop.drop
              have hb := box3 H3
              go_wp2
              replace H3 := H3.set 1 (.int .i64 x.f)
              simp only [List.set_cons_zero, List.set_cons_succ] at H3
              clear hx hb
              have hF := fun p : Ext _ => HGX.out p.to ((H3.of_below p.h).drop.drop.drop)
              have hG := fun p : Ext _ => (box3 (H3.of_below p.h)).1
              (refine wp_region_ext (by kernel_rfl) (by kernel_rfl) ?_; (repeat (quiet_step (first | fail))); refine wpQuiet_nil ?_; rintro _ ⟨⟨w1, hw1⟩, rfl⟩)
              have H4 := H3.of_below hw1
              clear hF hG H3
              have hx := HGX.out _ H4.drop.drop.drop
              have hb := box3 H4
              go_wp2
              go_roundw
              case rel => exact ⟨k + 1, bs, ⟨r'.r, x.f, r'.t⟩, cs, _, _, by omega, by go_num, rfl, rfl, by omega, by omega, (H4.pick 2 rfl).pick 2 rfl, by rw [HD.out, hmr.out]⟩
              case measure => simp [intOf]; omega
          · by_cases f2 : r'.t < x.t
            · have hmr := Lib.hid (show mrg r' x = ⟨r'.r, r'.f, x.t⟩ by simp [mrg, f1, f2])
              go_wp2
              (refine wp_region_ext (by kernel_rfl) (by kernel_rfl) ?_; (repeat (quiet_step (first | fail))); refine wpQuiet_nil ?_; rintro _ ⟨⟨w1, hw1⟩, rfl⟩)
              have H3 := H2.of_below hw1
              clear hF hG H2
              have hx := HGX.out _ H3.drop.drop.drop
              have hb := box3 H3
              go_wp2
              clear hx hb
              have hF := fun p : Ext _ => HGX.out p.to ((H3.of_below p.h).drop.drop.drop)
              have hG := fun p : Ext _ => (box3 (H3.of_below p.h)).1
              (refine wp_region_ext (by kernel_rfl) (by kernel_rfl) ?_; (repeat (quiet_step (first | fail))); refine wpQuiet_nil ?_; rintro _ ⟨⟨w1, hw1⟩, rfl⟩)
              have H4 := H3.of_below hw1
              clear hF hG H3
              have hx := HGX.out _ H4.drop.drop.drop
              have hb := box3 H4
              go_wp2
              replace H4 := H4.set 2 (.int .i64 x.t)
              simp only [List.set_cons_zero, List.set_cons_succ] at H4
              go_roundw
              case rel => exact ⟨k + 1, bs, ⟨r'.r, r'.f, x.t⟩, cs, _, _, by omega, by go_num, rfl, rfl, by omega, by omega, (H4.pick 2 rfl).pick 2 rfl, by rw [HD.out, hmr.out]⟩
              case measure => simp [intOf]; omega
            · have hmr := Lib.hid (show mrg r' x = ⟨r'.r, r'.f, r'.t⟩ by simp [mrg, f1, f2])
              go_wp2
              (refine wp_region_ext (by kernel_rfl) (by kernel_rfl) ?_; (repeat (quiet_step (first | fail))); refine wpQuiet_nil ?_; rintro _ ⟨⟨w1, hw1⟩, rfl⟩)
              have H3 := H2.of_below hw1
              clear hF hG H2
              have hx := HGX.out _ H3.drop.drop.drop
              have hb := box3 H3
              go_wp2
              clear hx hb
              have hF := fun p : Ext _ => HGX.out p.to ((H3.of_below p.h).drop.drop.drop)
              have hG := fun p : Ext _ => (box3 (H3.of_below p.h)).1
              (refine wp_region_ext (by kernel_rfl) (by kernel_rfl) ?_; (repeat (quiet_step (first | fail))); refine wpQuiet_nil ?_; rintro _ ⟨⟨w1, hw1⟩, rfl⟩)
              have H4 := H3.of_below hw1
              clear hF hG H3
              have hx := HGX.out _ H4.drop.drop.drop
              have hb := box3 H4
              go_wp2
              go_roundw
              case rel => exact ⟨k + 1, bs, ⟨r'.r, r'.f, r'.t⟩, cs, _, _, by omega, by go_num, rfl, rfl, by omega, by omega, (H4.pick 2 rfl).pick 2 rfl, by rw [HD.out, hmr.out]⟩
              case measure => simp [intOf]; omega
        · rw [a2, if_pos rfl] at HD
          have HD := Lib.hid HD
          go_wp2
          (refine wp_region_ext (by kernel_rfl) (by kernel_rfl) ?_; (repeat (quiet_step (first | exact q_call (hcall1 _)))); refine wpQuiet_nil ?_; rintro _ ⟨⟨w1, hw1⟩, rfl⟩)
          have H1 := HS'.of_below hw1
          clear hF hG hcall1
          have hF := fun p : Ext _ => HGX.out p.to ((H1.of_below p.h).drop.drop.drop)
          have hG := fun p : Ext _ => HGB.out p.to (H1.of_below p.h)
          have hcall2 := fun w0 : World => l2Apart r' x w0
          simp only [a2] at hcall2
          clear a2
          go_wp2
          (refine wp_region_ext (by kernel_rfl) (by kernel_rfl) ?_; (repeat (quiet_step (first | exact q_call (hcall2 _)))); refine wpQuiet_nil ?_; rintro _ ⟨⟨w1, hw1⟩, rfl⟩)
          have HS := H1.of_below hw1
          clear hF hG hcall2 H1
          have hx := HGX.out _ HS.drop.drop.drop
          have HL := (HS.lit [x] #[.int .i64 x.r, .int .i64 x.f, .int .i64 x.t] 81 rfl rfl (by simp)).pick 2 rfl
          simp only [List.eraseIdx_cons_succ, List.eraseIdx_cons_zero] at HL
          go_wp2_with (refine wp_app2 (α := Rn) rfl _ _ 32 rfl (by kernel_rfl) _ _ HL rfl _ _ rfl (HL.rd 1 rfl) (by show (_ + 1) * 24 ≤ _; omega) (by show _ + 1 ≤ _; omega) ?_; intro v5 q5 w5 hq5 hl5 H5)
          go_roundw
          case rel =>
            have h5 : q5.length ≤ k + 1 := by simp at hl5; omega
            exact ⟨k + 1, bs, r', q5, _, v5, by omega, by go_num, rfl, rfl, by omega, h5, ((H5.pick 1 rfl).drop.pick 1 rfl), by rw [HD.out, hq5.out]⟩
          case measure => simp [intOf]; omega
      · rw [a1, if_pos rfl] at HD
        have HD := Lib.hid HD
        have hcall1 := fun w0 : World => l2Apart x r' w0
        simp only [a1] at hcall1
        clear a1
        go_wp2
        (refine wp_region_ext (by kernel_rfl) (by kernel_rfl) ?_; (repeat (quiet_step (first | exact q_call (hcall1 _)))); refine wpQuiet_nil ?_; rintro _ ⟨⟨w1, hw1⟩, rfl⟩)
        have HS := HS'.of_below hw1
        clear hF hG hcall1
        have hx := HGX.out _ HS.drop.drop.drop
        have HL := (HS.lit [x] #[.int .i64 x.r, .int .i64 x.f, .int .i64 x.t] 81 rfl rfl (by simp)).pick 1 rfl
        simp only [List.eraseIdx_cons_succ, List.eraseIdx_cons_zero] at HL
        go_wp2_with (refine wp_app2 (α := Rn) rfl _ _ 32 rfl (by kernel_rfl) _ _ HL rfl _ _ rfl (HL.rd 1 rfl) (by show (_ + 1) * 24 ≤ _; omega) (by show _ + 1 ≤ _; omega) ?_; intro v5 q5 w5 hq5 hl5 H5)
        go_roundw
        case rel =>
          have h5 : q5.length ≤ k + 1 := by simp at hl5; omega
          exact ⟨k + 1, q5, r', cs, v5, _, by omega, by go_num, rfl, rfl, h5, by omega, ((H5.pick 1 rfl).drop), by rw [HD.out, hq5.out]⟩
        case measure => simp [intOf]; omega
    · obtain rfl : k = xs.length := by omega
      have HQ := HE.out
      rw [List.drop_length, ins] at HQ
      have HQ := Lib.hid HQ
      have HB := HS'.pick 2 rfl
      simp only [List.eraseIdx_cons_succ, List.eraseIdx_cons_zero] at HB
      have hb := box3 HB
      have HL := (HS'.lit [r'] #[.int .i64 r'.r, .int .i64 r'.f, .int .i64 r'.t] 81 rfl rfl (by simp)).pick 1 rfl
      simp only [List.eraseIdx_cons_succ, List.eraseIdx_cons_zero] at HL
      go_wp2_with (first
        | (refine wp_app2 (α := Rn) rfl _ _ 32 rfl (by kernel_rfl) _ _ HL rfl _ _ rfl (HL.rd 1 rfl) (by show (_ + 1) * 24 ≤ _; omega) (by show _ + 1 ≤ _; omega) ?_; intro v5 q5 w5 hq5 hl5 H5; have hl6 : q5.length ≤ xs.length + 1 := (by simp at hl5; omega); clear hb HB HL hl5)
        | (refine wp_app2 (α := Rn) rfl _ _ 32 rfl (by kernel_rfl) _ _ H5 rfl _ _ rfl (H5.rd 2 rfl) (by show (_ + _) * 24 ≤ _; omega) (by omega) ?_; intro v6 q6 w6 hq6 hl7 H6; obtain ⟨A6, c6, rfl, _, _⟩ := (H6.rd 0 rfl).val))
      go_ret
      exact ⟨_, rfl, by rw [HQ.out, show bs ++ r' :: cs = (bs ++ [r']) ++ cs by simp, ← hq5.out, ← hq6.out]; exact H6.only⟩
theorem l2UnionC (xs ys : List Rn) (v u : Value) (w : World) (hv : Rd w v xs) (hu : Rd w u ys) (hn : xs.length + ys.length ≤ 4194304) :
    Calls Tryz.prog 49 #[.agg #[v], .agg #[u]] w fun e w' => ∃ v', e = .returned (.agg #[v']) ∧ Own w [.own v' (uni xs ys)] w' := by
  obtain ⟨A, c, rfl, _, _⟩ := hv.val
  obtain ⟨B, d, rfl, _, _⟩ := hu.val
  have HS := (((Own.start w).box [.slice A xs.length c] 34).box (b := w.heap.size + 1) [.slice B ys.length d] 34).box (b := w.heap.size + 1 + 1) [.slice none 0 0] 34
  have HL := (HS.lit ([] : List Rn) #[] 81 rfl rfl (by simp))
  simp only [World.size_alloc] at HL
  have hvx := HL.old hv
  have F := HS.facts; simp only [Own.Facts, Own.Cells, World.size_alloc, List.cons_append, List.nil_append, List.eraseIdx_cons_succ, List.eraseIdx_cons_zero, List.eraseIdx_zero, List.tail_cons, Nat.zero_add] at F
  go_enter Tryz.func49, Tryz.ntmps49
  go_wp2_with (refine wp_app2 (α := Rn) rfl _ _ 32 rfl (by kernel_rfl) _ _ HL rfl _ _ rfl hvx (by show (0 + _) * 24 ≤ _; omega) (by show 0 + _ ≤ _; omega) ?_; intro v5 q5 w5 hq5 hl5 H5)
  obtain rfl : xs = q5 := by have := hq5.out; simp at this; exact this.symm
  clear hvx HL HS F hq5 hl5
  obtain ⟨sz, hsz⟩ : ∃ n, w.heap.size = n := ⟨_, rfl⟩
  rw [hsz] at H5 ⊢
  clear hsz
  go_wp2
  go_loopw [5, 6] (fun q i wr => ∃ (k : Nat) (acc : List Rn) (u : Value), k ≤ ys.length ∧ i = .int .i64 k ∧ q = u ∧ acc.length ≤ xs.length + k ∧ Own w [.own u acc, .box (sz + 1 + 1) 34 [.slice none 0 0], .box (sz + 1) 34 [.slice B ys.length d], .box sz 34 [.slice A xs.length c]] wr ∧ uni xs ys = uni acc (ys.drop k)) (fun _ i _ => ys.length - (intOf i).toNat)
  case atStart => exact ⟨0, xs, _, by omega, rfl, rfl, by omega, H5, rfl⟩
  case round =>
    obtain ⟨k, acc, u, hk, rfl, rfl, hal, HS', he⟩ := hrel
    have HE := Lib.hid he
    clear he H5
    obtain ⟨A1, c1, rfl, _, _⟩ := (HS'.rd 0 rfl).val
    have HS := HS'
    have F := HS.facts; simp only [Own.Facts, Own.Cells, World.size_alloc, List.cons_append, List.nil_append, List.eraseIdx_cons_succ, List.eraseIdx_cons_zero, List.eraseIdx_zero, List.tail_cons, Nat.zero_add] at F
    by_cases hlt : k < ys.length
    · obtain ⟨b, o, rfl⟩ := hu.fix (by omega)
      have HD := HE.out
      rw [List.drop_eq_getElem_cons hlt, uni] at HD
      have r0 := Rn.rd (HS'.old hu) k hlt
      obtain ⟨x, hx⟩ : ∃ x, ys[k] = x := ⟨_, rfl⟩
      rw [hx] at HD r0
      clear hx
      have HD := Lib.hid HD
      go_wp2_with fail
      refine (l2InsertC acc x _ _ (HS'.rd 0 rfl) (by omega)).mono ?_
      rintro e w2 ⟨v2, rfl, hs⟩
      have hil := ins_len acc [] x []
      have H2 := ((HS'.call1 hs).pick 1 rfl).drop
      simp only [List.eraseIdx_cons_succ, List.eraseIdx_cons_zero] at H2
      obtain ⟨acc2, ha2⟩ : ∃ a, ins [] x [] acc = a := ⟨_, rfl⟩
      rw [ha2] at H2 hil HD
      clear ha2 hs HS F
      obtain ⟨A2, c2, rfl, _, _⟩ := (H2.rd 0 rfl).val
      go_wp2
      go_roundw
      case rel => exact ⟨k + 1, acc2, _, by omega, by go_num, rfl, by simp at hil; omega, H2, HD.out⟩
      case measure => simp [intOf]; omega
    · obtain rfl : k = ys.length := by omega
      have HQ := HE.out
      rw [List.drop_length, uni] at HQ
      have HQ := Lib.hid HQ
      go_wp2
      have H2 := (HS'.pick 1 rfl).set 0 (.slice A1 acc.length c1)
      have F2 := H2.facts
      simp only [Own.Facts, Own.Cells, List.set_cons_zero] at F2
      exact bodyPost_ret (v := .agg #[.slice A1 acc.length c1]) (by simp [results, Tryz.results49, go_sem, *]) rfl ⟨_, rfl, by rw [HQ.out]; exact H2.drop.only⟩
end Go.Proofs.YtkafflbakgkpcaaGreat
