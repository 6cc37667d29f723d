/- Hello: the program's side and the reference's. -/
import Derived.Test.YtbcgbkeldcaalaaZ5
import Derived.Test.YtbcgbkeldcaalaaEg
namespace Go.Proofs.Ytbcgbkeldcaalaa
set_option linter.unusedSimpArgs false
set_option linter.unusedVariables false
open Go.RowKit Go.Ow
attribute [local irreducible] wpQuiet
set_option maxRecDepth 100000
def o8 (n k : Nat) : List UInt8 := (e8 n 8).take k ++ List.replicate (8 - k) 0
def hlR (r : Rp) : Int × List UInt8 := if rpOk r = true then (1, e8 (dgs (psR r.s).1).toNat 8) else (0, [])
theorem l6Sum (s : St) (v1 v2 : Value) (w : World) (h1 : Rd w v1 s.l) (h2 : Rd w v2 s.c) (hw : ∀ y ∈ s.l, LfW y) : Calls Try.prog 55 #[.agg #[v1, v2]] w fun e w' => e = .returned (.int .u64 (dgs (psR s).1)) ∧ Below w.heap.size w w' := by
  obtain ⟨A1, c1, rfl, _, _⟩ := h1.val
  obtain ⟨A2, c2, rfl, _, _⟩ := h2.val
  have H1 := Lib.hid h1
  have H2 := Lib.hid h2
  have HW := Lib.hid hw
  clear h1 h2 hw
  obtain ⟨T, hT⟩ : ∃ T, (psR s).1 = T := ⟨_, rfl⟩
  obtain ⟨kc, hkc⟩ : ∃ k, (psR s).2 = k := ⟨_, rfl⟩
  rw [hT]
  have HT := Lib.hid (And.intro hT hkc)
  clear hT hkc
  have HS := (Own.start w).box [.slice A1 s.l.length c1, .slice A2 s.c.length c2] 37
  go_enter Try.func55, Try.ntmps55
  go_wp2_with fail
  refine (show Calls Try.prog 14 _ _ (fun e w' => ∃ v', e = .returned (.tuple #[v', .int .i64 (kc : Nat)]) ∧ Own _ [.own v' T] w') from by have h := specPutState s _ _ _ (HS.old H1.out) (HS.old H2.out) HW.out; rw [HT.out.1, HT.out.2] at h; exact h).mono ?_
  rintro e w1 ⟨v', rfl, hs⟩
  obtain ⟨A5, c5, rfl, _, _⟩ := (hs.rd 0 rfl).val
  replace HS := HS.call1 hs
  clear hs
  go_wp2_with fail
  refine (specDigest T _ _ (HS.rd 0 rfl)).mono ?_; rintro e w2 ⟨rfl, hb⟩; (first | have H' := HS.of_below hb | have H' := HS.drew.of_below hb | have H' := (HS.box0 [_] _).of_below hb | have H' := ((HS.box0 [_] _).box0 [_] _).of_below hb | have H' := (HS.alloc _).of_below hb | have H' := ((HS.alloc _).alloc _).of_below hb); clear HS; have HS := H'; clear H'; have F := HS.facts; simp only [Own.Facts, Own.Cells, World.size_alloc, List.cons_append, List.nil_append, List.eraseIdx_cons_succ, List.eraseIdx_cons_zero, List.eraseIdx_zero, List.tail_cons, Nat.zero_add] at F
  go_wp2
  go_ret
  exact ⟨rfl, HS.below⟩
theorem specHello (r : Rp) (a b c d : Value) (w : World) (h : RdR w r a b c d) (hw : RpW r) (hn : RpN r 1048576) :
    Calls Try.prog 28 #[.agg #[.int .i64 r.id, a, b, c, d]] w fun e w' => ∃ v, e = .returned (.tuple #[.agg #[.int .i64 (hlR r).1, v], .bool (rpOk r)]) ∧ Own w [.own v (hlR r).2] w' := by
  have H := Lib.hid h
  obtain ⟨A1, c1, rfl, _, _⟩ := h.sl.val
  obtain ⟨A2, c2, rfl, _, _⟩ := h.sc.val
  obtain ⟨A3, c3, rfl, _, _⟩ := h.dl.val
  obtain ⟨A4, c4, rfl, _, _⟩ := h.dc.val
  have HW := Lib.hid hw
  have HN := Lib.hid hn
  clear hw h hn
  have HS := ((Own.start w).box [.int .i64 r.id, .slice A1 r.s.l.length c1, .slice A2 r.s.c.length c2, .slice A3 r.d.l.length c3, .slice A4 r.d.c.length c4] 39).box (b := w.heap.size + 1) [.int .i64 0, .slice none 0 0] 54
  cases hx : rpOk r
  · have HR := Lib.hid (show hlR r = (0, []) by unfold hlR; rw [if_neg (by simp [hx])])
    go_enter Try.func28, Try.ntmps28
    go_wp2_with fail
    refine (specReplicaOk r _ _ _ _ _ (H.out.old HS) HW.out HN.out).mono ?_; rintro e w1 ⟨rfl, hb⟩; (first | have H' := HS.of_below hb | have H' := HS.drew.of_below hb | have H' := (HS.box0 [_] _).of_below hb | have H' := ((HS.box0 [_] _).box0 [_] _).of_below hb | have H' := (HS.alloc _).of_below hb | have H' := ((HS.alloc _).alloc _).of_below hb); clear HS; have HS := H'; clear H'; have F := HS.facts; simp only [Own.Facts, Own.Cells, World.size_alloc, List.cons_append, List.nil_append, List.eraseIdx_cons_succ, List.eraseIdx_cons_zero, List.eraseIdx_zero, List.tail_cons, Nat.zero_add] at F
    rw [hx]
    go_wp2
    have H2 := ((HS.set 0 (.int .i64 0)).set 1 (.slice none 0 0)).drop.drop.nil (α := UInt8)
    exact bodyPost_ret (v := .tuple #[.agg #[.int .i64 0, .slice none 0 0], .bool false]) (by simp [results, Try.results28, go_sem, *]) rfl ⟨_, by rw [HR.out], by rw [HR.out]; exact H2⟩
  · obtain ⟨z, hz⟩ : ∃ z, dgs (psR r.s).1 = z := ⟨_, rfl⟩
    have hr := dgs_range (psR r.s).1
    rw [hz] at hr
    obtain ⟨n, rfl⟩ : ∃ n : Nat, z = (n : Int) := ⟨z.toNat, by omega⟩
    have HR := Lib.hid (show hlR r = (1, e8 n 8) by unfold hlR; rw [if_pos hx, hz]; rfl)
    have HZ := Lib.hid hz
    have HL := Lib.hid (e8_len n 8)
    clear hz
    go_enter Try.func28, Try.ntmps28
    go_wp2_with fail
    refine (specReplicaOk r _ _ _ _ _ (H.out.old HS) HW.out HN.out).mono ?_; rintro e w1 ⟨rfl, hb⟩; (first | have H' := HS.of_below hb | have H' := HS.drew.of_below hb | have H' := (HS.box0 [_] _).of_below hb | have H' := ((HS.box0 [_] _).box0 [_] _).of_below hb | have H' := (HS.alloc _).of_below hb | have H' := ((HS.alloc _).alloc _).of_below hb); clear HS; have HS := H'; clear H'; have F := HS.facts; simp only [Own.Facts, Own.Cells, World.size_alloc, List.cons_append, List.nil_append, List.eraseIdx_cons_succ, List.eraseIdx_cons_zero, List.eraseIdx_zero, List.tail_cons, Nat.zero_add] at F
    rw [hx]
    go_wp2_with fail
    refine ((show Calls Try.prog 55 _ _ (fun e w' => e = .returned (.int .u64 (n : Nat)) ∧ Below _ _ w') from by have h := l6Sum r.s _ _ _ (HS.old H.out.sl) (HS.old H.out.sc) HW.out.1; rw [HZ.out] at h; exact h)).mono ?_; rintro e w2 ⟨rfl, hb⟩; (first | have H' := HS.of_below hb | have H' := HS.drew.of_below hb | have H' := (HS.box0 [_] _).of_below hb | have H' := ((HS.box0 [_] _).box0 [_] _).of_below hb | have H' := (HS.alloc _).of_below hb | have H' := ((HS.alloc _).alloc _).of_below hb); clear HS; have HS := H'; clear H'; have F := HS.facts; simp only [Own.Facts, Own.Cells, World.size_alloc, List.cons_append, List.nil_append, List.eraseIdx_cons_succ, List.eraseIdx_cons_zero, List.eraseIdx_zero, List.tail_cons, Nat.zero_add] at F
    go_wp2_with fail
    refine (l6Eight n (by omega) _).mono ?_
    rintro e w3 ⟨v', rfl, hs⟩
    obtain ⟨A5, c5, rfl, _, _⟩ := (hs.rd 0 rfl).val
    replace HS := HS.call1 hs
    clear hs
    have F := HS.facts; simp only [Own.Facts, Own.Cells, World.size_alloc, List.cons_append, List.nil_append, List.eraseIdx_cons_succ, List.eraseIdx_cons_zero, List.eraseIdx_zero, List.tail_cons, Nat.zero_add] at F
    rw [HL.out] at HS
    go_wp2
    have H2 := ((((HS.pick 1 rfl).set 0 (.int .i64 1)).set 1 (.slice A5 (e8 n 8).length c5)).drop.pick 1 rfl).drop
    exact bodyPost_ret (v := .tuple #[.agg #[.int .i64 1, .slice A5 (e8 n 8).length c5], .bool true]) (by simp [results, Try.results28, go_sem, *]) rfl ⟨_, by rw [HR.out], by rw [HR.out]; exact H2⟩
theorem implHello (r : Rp) (a b c d : Value) (w : World) (h : RdR w r a b c d) (hw : RpW r) (hn : RpN r 1048576) :
    Calls Try.prog 29 #[.agg #[.int .i64 r.id, a, b, c, d]] w fun e w' => ∃ v, e = .returned (.tuple #[.agg #[.int .i64 (hlR r).1, v], .bool (rpOk r)]) ∧ Own w [.own v (hlR r).2] w' := by
  have H := Lib.hid h
  obtain ⟨A1, c1, rfl, _, _⟩ := h.sl.val
  obtain ⟨A2, c2, rfl, _, _⟩ := h.sc.val
  obtain ⟨A3, c3, rfl, _, _⟩ := h.dl.val
  obtain ⟨A4, c4, rfl, _, _⟩ := h.dc.val
  have HW := Lib.hid hw
  have HN := Lib.hid hn
  clear hw h hn
  have HS := ((Own.start w).box [.int .i64 r.id, .slice A1 r.s.l.length c1, .slice A2 r.s.c.length c2, .slice A3 r.d.l.length c3, .slice A4 r.d.c.length c4] 39).box (b := w.heap.size + 1) [.int .i64 0, .slice none 0 0] 54
  cases hx : rpOk r
  · have HR := Lib.hid (show hlR r = (0, []) by unfold hlR; rw [if_neg (by simp [hx])])
    have HWh := Lib.hid (show (whR r).1 = 0 ∧ (whR r).2 = [] ∧ rpOk r = false by unfold whR; rw [if_neg (by simp [hx])]; exact ⟨rfl, rfl, hx⟩)
    go_enter Try.func29, Try.ntmps29
    go_wp2_with fail
    refine (wh2 HWh.out (implWhole r _ _ _ _ _ (H.out.old HS) HW.out HN.out)).mono ?_
    rintro e w1 ⟨v1, rfl, hs⟩
    obtain ⟨A5, c5, rfl, _, _⟩ := (hs.rd 0 rfl).val
    replace HS := (HS.call1 hs).box (b := w1.heap.size) [.int .i64 0, .slice A5 0 c5] 54
    clear hs
    have F := HS.facts; simp only [Own.Facts, Own.Cells, World.size_alloc, List.cons_append, List.nil_append, List.eraseIdx_cons_succ, List.eraseIdx_cons_zero, List.eraseIdx_zero, List.tail_cons, Nat.zero_add] at F
    go_wp2
    have H2 := (((HS.pick 2 rfl).set 0 (.int .i64 0)).set 1 (.slice none 0 0)).drop.drop.drop.drop.nil (α := UInt8)
    exact bodyPost_ret (v := .tuple #[.agg #[.int .i64 0, .slice none 0 0], .bool false]) (by simp [results, Try.results29, go_sem, *]) rfl ⟨_, by rw [HR.out], by rw [HR.out]; exact H2⟩
  · obtain ⟨z, hz⟩ : ∃ z, dgs (psR r.s).1 = z := ⟨_, rfl⟩
    have hr := dgs_range (psR r.s).1
    rw [hz] at hr
    obtain ⟨n, rfl⟩ : ∃ n : Nat, z = (n : Int) := ⟨z.toNat, by omega⟩
    have HR := Lib.hid (show hlR r = (1, e8 n 8) by unfold hlR; rw [if_pos hx, hz]; rfl)
    obtain ⟨T, hT⟩ : ∃ T, (psR r.s).1 = T := ⟨_, rfl⟩
    rw [hT] at hz
    have HWh := Lib.hid (show (whR r).1 = 2 ∧ (whR r).2 = T ∧ rpOk r = true by unfold whR; rw [if_pos hx]; exact ⟨rfl, hT, hx⟩)
    have HZ := Lib.hid hz
    clear hz hT
    go_enter Try.func29, Try.ntmps29
    go_wp2_with fail
    refine (wh2 HWh.out (implWhole r _ _ _ _ _ (H.out.old HS) HW.out HN.out)).mono ?_
    rintro e w1 ⟨v1, rfl, hs⟩
    obtain ⟨A5, c5, rfl, _, _⟩ := (hs.rd 0 rfl).val
    replace HS := (HS.call1 hs).box (b := w1.heap.size) [.int .i64 2, .slice A5 T.length c5] 54
    clear hs
    have F := HS.facts; simp only [Own.Facts, Own.Cells, World.size_alloc, List.cons_append, List.nil_append, List.eraseIdx_cons_succ, List.eraseIdx_cons_zero, List.eraseIdx_zero, List.tail_cons, Nat.zero_add] at F
    go_wp2_with fail
    refine ((show Calls Try.prog 56 _ _ (fun e w' => e = .returned (.int .u64 (n : Nat)) ∧ Below _ _ w') from by have h := implDigest T _ _ (HS.rd 1 rfl); rw [HZ.out] at h; exact h)).mono ?_; rintro e w2 ⟨rfl, hb⟩; (first | have H' := HS.of_below hb | have H' := HS.drew.of_below hb | have H' := (HS.box0 [_] _).of_below hb | have H' := ((HS.box0 [_] _).box0 [_] _).of_below hb | have H' := (HS.alloc _).of_below hb | have H' := ((HS.alloc _).alloc _).of_below hb); clear HS; have HS := H'; clear H'; have F := HS.facts; simp only [Own.Facts, Own.Cells, World.size_alloc, List.cons_append, List.nil_append, List.eraseIdx_cons_succ, List.eraseIdx_cons_zero, List.eraseIdx_zero, List.tail_cons, Nat.zero_add] at F
    go_wp2_with (refine wp_make (α := UInt8) rfl _ _ 44 rfl (by kernel_rfl) HS _ _ _ _ 8 rfl rfl rfl rfl (by show 1 * _ ≤ _; omega) (by omega) ?_; clear HS; intro w3 HS)
    have F := HS.facts; simp only [Own.Facts, Own.Cells, World.size_alloc, List.cons_append, List.nil_append, List.eraseIdx_cons_succ, List.eraseIdx_cons_zero, List.eraseIdx_zero, List.tail_cons, Nat.zero_add] at F
    go_loopw [23] (fun i wr => ∃ (k : Nat), k ≤ 8 ∧ i = .int .i64 k ∧ Own w (.own (.slice (some ⟨w2.heap.size, 0, none⟩) 8 8) (o8 n k) :: .box w1.heap.size 54 [.int .i64 2, .slice A5 T.length c5] :: .own (.slice A5 T.length c5) T :: .box (w.heap.size + 1) 54 [.int .i64 0, .slice none 0 0] :: [.box w.heap.size 39 [.int .i64 r.id, .slice A1 r.s.l.length c1, .slice A2 r.s.c.length c2, .slice A3 r.d.l.length c3, .slice A4 r.d.c.length c4]]) wr) (fun i _ => 8 - (intOf i).toNat)
    case atStart => exact ⟨0, by omega, rfl, HS⟩
    case round =>
      obtain ⟨k, hk, rfl, HS'⟩ := hrel
      clear HS F
      have hn := hr.2
      clear hr
      by_cases hlt : k < 8
      · obtain ⟨r0, hfr⟩ := By.row HS' k (by simp [o8, e8_len]; omega)
        generalize hu : ((o8 n k)[k]'(by simp [o8, e8_len]; omega)) = u at r0
        clear hu
        obtain rfl | rfl | rfl | rfl | rfl | rfl | rfl | rfl : k = 0 ∨ k = 1 ∨ k = 2 ∨ k = 3 ∨ k = 4 ∨ k = 5 ∨ k = 6 ∨ k = 7 := by omega
        · have HP := By.put HS' 0 (by simp [o8, e8_len]) (UInt8.ofNat (n / 72057594037927936 % 256))
          rw [show (o8 n 0).set 0 (UInt8.ofNat (n / 72057594037927936 % 256)) = o8 n 1 from rfl] at HP
          go_wp2
          go_roundw
          case rel =>
            refine ⟨1, by omega, by go_num, Eq.mp (congrArg (fun z : Int => Own w _ (wr.setCell _ (.int .u8 z))) ?_) HP⟩
            simp <;> omega
          case measure => simp [intOf]
        · have HP := By.put HS' 1 (by simp [o8, e8_len]) (UInt8.ofNat (n / 281474976710656 % 256))
          rw [show (o8 n 1).set 1 (UInt8.ofNat (n / 281474976710656 % 256)) = o8 n 2 from rfl] at HP
          go_wp2
          go_roundw
          case rel =>
            refine ⟨2, by omega, by go_num, Eq.mp (congrArg (fun z : Int => Own w _ (wr.setCell _ (.int .u8 z))) ?_) HP⟩
            simp <;> omega
          case measure => simp [intOf]
        · have HP := By.put HS' 2 (by simp [o8, e8_len]) (UInt8.ofNat (n / 1099511627776 % 256))
          rw [show (o8 n 2).set 2 (UInt8.ofNat (n / 1099511627776 % 256)) = o8 n 3 from rfl] at HP
          go_wp2
          go_roundw
          case rel =>
            refine ⟨3, by omega, by go_num, Eq.mp (congrArg (fun z : Int => Own w _ (wr.setCell _ (.int .u8 z))) ?_) HP⟩
            simp <;> omega
          case measure => simp [intOf]
        · have HP := By.put HS' 3 (by simp [o8, e8_len]) (UInt8.ofNat (n / 4294967296 % 256))
          rw [show (o8 n 3).set 3 (UInt8.ofNat (n / 4294967296 % 256)) = o8 n 4 from rfl] at HP
          go_wp2
          go_roundw
          case rel =>
            refine ⟨4, by omega, by go_num, Eq.mp (congrArg (fun z : Int => Own w _ (wr.setCell _ (.int .u8 z))) ?_) HP⟩
            simp <;> omega
          case measure => simp [intOf]
        · have HP := By.put HS' 4 (by simp [o8, e8_len]) (UInt8.ofNat (n / 16777216 % 256))
          rw [show (o8 n 4).set 4 (UInt8.ofNat (n / 16777216 % 256)) = o8 n 5 from rfl] at HP
          go_wp2
          go_roundw
          case rel =>
            refine ⟨5, by omega, by go_num, Eq.mp (congrArg (fun z : Int => Own w _ (wr.setCell _ (.int .u8 z))) ?_) HP⟩
            simp <;> omega
          case measure => simp [intOf]
        · have HP := By.put HS' 5 (by simp [o8, e8_len]) (UInt8.ofNat (n / 65536 % 256))
          rw [show (o8 n 5).set 5 (UInt8.ofNat (n / 65536 % 256)) = o8 n 6 from rfl] at HP
          go_wp2
          go_roundw
          case rel =>
            refine ⟨6, by omega, by go_num, Eq.mp (congrArg (fun z : Int => Own w _ (wr.setCell _ (.int .u8 z))) ?_) HP⟩
            simp <;> omega
          case measure => simp [intOf]
        · have HP := By.put HS' 6 (by simp [o8, e8_len]) (UInt8.ofNat (n / 256 % 256))
          rw [show (o8 n 6).set 6 (UInt8.ofNat (n / 256 % 256)) = o8 n 7 from rfl] at HP
          go_wp2
          go_roundw
          case rel =>
            refine ⟨7, by omega, by go_num, Eq.mp (congrArg (fun z : Int => Own w _ (wr.setCell _ (.int .u8 z))) ?_) HP⟩
            simp <;> omega
          case measure => simp [intOf]
        · have HP := By.put HS' 7 (by simp [o8, e8_len]) (UInt8.ofNat (n / 1 % 256))
          rw [show (o8 n 7).set 7 (UInt8.ofNat (n / 1 % 256)) = o8 n 8 from rfl] at HP
          go_wp2
          go_roundw
          case rel =>
            refine ⟨8, by omega, by go_num, Eq.mp (congrArg (fun z : Int => Own w _ (wr.setCell _ (.int .u8 z))) ?_) HP⟩
            simp <;> omega
          case measure => simp [intOf]
      · obtain rfl : k = 8 := by omega
        have HL := Lib.hid (e8_len n 8)
        rw [show o8 n 8 = e8 n 8 by simp [o8, List.take_of_length_le, e8_len]] at HS'
        have HS := HS'
        clear HS'
        have F := HS.facts; simp only [Own.Facts, Own.Cells, World.size_alloc, List.cons_append, List.nil_append, List.eraseIdx_cons_succ, List.eraseIdx_cons_zero, List.eraseIdx_zero, List.tail_cons, Nat.zero_add] at F
        go_wp2
        have H2 := (((HS.pick 3 rfl).set 0 (.int .i64 1)).set 1 (.slice (some ⟨w2.heap.size, 0, none⟩) 8 8)).drop
        have H3 := ((((H2.pick 1 rfl).drop.pick 1 rfl).drop.pick 1 rfl).drop)
        exact bodyPost_ret (v := .tuple #[.agg #[.int .i64 1, .slice (some ⟨w2.heap.size, 0, none⟩) 8 8], .bool true]) (by simp [results, Try.results29, go_sem, *]) rfl ⟨_, by rw [HR.out], by rw [HR.out]; exact H3⟩
end Go.Proofs.Ytbcgbkeldcaalaa
