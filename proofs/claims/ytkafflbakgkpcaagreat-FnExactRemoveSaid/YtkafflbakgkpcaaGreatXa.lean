/- Contexts: marks. Marks of texts, leaves and states. Marks of leaves and states. -/
import Derived.Test.YtkafflbakgkpcaaGreatCa
import Derived.Test.YtkafflbakgkpcaaGreatHa
import Derived.Test.YtkafflbakgkpcaaGreatL1
import Derived.Laws.Concat
namespace Go.Proofs.YtkafflbakgkpcaaGreat
set_option linter.unusedSimpArgs false
set_option linter.unusedVariables false
open Go.RowKit Go.Ow
attribute [local irreducible] wpQuiet
set_option maxRecDepth 100000
def rmark (k i : Nat) : Rn := ⟨((k + 3 * i : Nat) : Int), ((k + 3 * i + 1 : Nat) : Int), ((k + 3 * i + 2 : Nat) : Int)⟩
/-- The runs marked k, k + 1, .. -/
def rmarks (n k : Nat) : List Rn := (List.range n).map (rmark k)
theorem rmarks_len (n k : Nat) : (rmarks n k).length = n := by simp [rmarks]
theorem rmarks_at (n k i : Nat) (h : i < n) : (rmarks n k)[i]'(by simp [rmarks, h]) = rmark k i := by simp [rmarks]
theorem rmarks_set (xs : List Rn) (k i : Nat) (h : i < xs.length) : (rmarks i k ++ xs.drop i).set i (rmark k i) = rmarks (i + 1) k ++ xs.drop (i + 1) := by
  rw [List.set_append_right _ _ (by simp [rmarks])]
  rw [rmarks_len, Nat.sub_self, List.drop_eq_getElem_cons h, List.set_cons_zero]
  simp [rmarks, List.range_succ]
theorem markRunS {W : World} {R : List Ds} (xs : List Rn) (v : Value) (k : Nat) (w : World) (HS : Own W (.own v xs :: R) w) (hk : k ≤ 4611686018427387904) : Calls Tryz.prog 70 #[v, .int .i64 k] w fun e w' => e = .returned (.int .i64 ((k + 3 * xs.length : Nat) : Int)) ∧ Own W (.own v (rmarks xs.length k) :: R) w' := by
  have hv := HS.rd 0 rfl
  obtain ⟨A, c, rfl, hc, hl⟩ := hv.val
  go_enter Tryz.func70, Tryz.ntmps70
  go_wp2
  go_loopw [1, 5] (fun kk i wr => ∃ j : Nat, j ≤ xs.length ∧ i = .int .i64 j ∧ kk = .int .i64 ((k + 3 * j : Nat) : Int) ∧ Own W (.own (.slice A xs.length c) (rmarks j k ++ xs.drop j) :: R) wr) (fun _ i _ => xs.length - (intOf i).toNat)
  case atStart => exact ⟨0, by omega, rfl, rfl, by simpa [rmarks] using HS⟩
  case round =>
    obtain ⟨j, hj, rfl, rfl, HS'⟩ := hrel
    by_cases hlt : j < xs.length
    · have hl2 : (rmarks j k ++ xs.drop j).length = xs.length := by simp [rmarks_len]; omega
      obtain ⟨g, rfl⟩ := HS'.fix (by omega)
      obtain ⟨r0, hfr⟩ := Rn.row HS' j (by omega)
      generalize hu : ((rmarks j k ++ xs.drop j)[j]'(by omega)) = u at r0
      have HP := Rn.put HS' j (by omega) (rmark k j)
      rw [rmarks_set xs k j hlt] at HP
      simp only [rmark] at HP
      clear hu hl2
      go_wp2
      go_roundw
      case rel => exact ⟨j + 1, by omega, by go_num, by go_num, HP⟩
      case measure => simp [intOf]; omega
    · go_wp2
      go_ret
      obtain rfl : j = xs.length := by omega
      exact ⟨by go_num, by simpa using HS'⟩
theorem markContext {W : World} {R : List Ds} (xs : List Rn) (v : Value) (k : Nat) (w : World) (HS : Own W (.own v xs :: R) w) (hk : k ≤ 4611686018427387904) : Calls Tryz.prog 37 #[.agg #[v], .int .i64 k] w fun e w' => e = .returned (.int .i64 ((k + 3 * xs.length : Nat) : Int)) ∧ Own W (.own v (rmarks xs.length k) :: R) w' := by
  obtain ⟨A, c, rfl, hc, hl⟩ := (HS.rd 0 rfl).val
  go_enter Tryz.func37, Tryz.ntmps37
  go_wp2_with fail
  refine (markRunS xs _ k _ (HS.alloc _) hk).mono ?_
  rintro e w1 ⟨rfl, H1⟩
  go_wp2
  go_ret
  exact ⟨rfl, H1⟩
theorem heldRunS {W : World} {R : List Ds} (xs : List Rn) (v : Value) (k : Nat) (w : World) (HS : Own W (.own v (rmarks xs.length k) :: R) w) (hk : k ≤ 4611686018427387904) (hx : xs.length ≤ 140737488355328) : Calls Tryz.prog 72 #[v, .int .i64 k] w fun e w' => e = .returned (.int .i64 ((k + 3 * xs.length : Nat) : Int)) ∧ Below w.heap.size w w' := by
  have hv : Rd w v (rmarks xs.length k) := HS.rd 0 rfl
  clear HS
  obtain ⟨A, c, rfl, hc, hl⟩ := hv.val
  have HL := Lib.hid (rmarks_len xs.length k)
  obtain ⟨zs, hz⟩ : ∃ zs, rmarks xs.length k = zs := ⟨_, rfl⟩
  rw [hz] at hv HL hc hl ⊢
  have HS := Own.start w
  have HE : ∀ i (h : i < zs.length), zs[i] = rmark k i := by
    subst hz; intro i h; exact rmarks_at _ _ _ (by simpa [rmarks_len] using h)
  clear hz
  go_enter Tryz.func72, Tryz.ntmps72
  go_wp2
  go_loopw [1, 5] (fun kk i wr => ∃ j : Nat, j ≤ zs.length ∧ i = .int .i64 j ∧ kk = .int .i64 ((k + 3 * j : Nat) : Int) ∧ Own w [] wr) (fun _ i _ => zs.length - (intOf i).toNat)
  case atStart => exact ⟨0, by omega, rfl, rfl, HS⟩
  case round =>
    obtain ⟨j, hj, rfl, rfl, HS'⟩ := hrel
    by_cases hlt : j < zs.length
    · obtain ⟨b, o, rfl⟩ := hv.fix (by omega)
      have r0 := Rn.rd (HS'.old hv) j (by omega)
      rw [HE j hlt] at r0
      simp only [rmark] at r0
      clear HE
      go_wp2
      go_roundw
      case rel => exact ⟨j + 1, by omega, by go_num, by go_num, HS'⟩
      case measure => simp [intOf]; omega
    · clear HE
      go_wp2
      go_ret
      obtain rfl : j = zs.length := by omega
      exact ⟨by rw [HL.out]; rfl, HS'.below⟩
theorem heldContext {W : World} {R : List Ds} (xs : List Rn) (v : Value) (k : Nat) (w : World) (HS : Own W (.own v (rmarks xs.length k) :: R) w) (hk : k ≤ 4611686018427387904) (hx : xs.length ≤ 140737488355328) : Calls Tryz.prog 40 #[.agg #[v], .int .i64 k] w fun e w' => e = .returned (.int .i64 ((k + 3 * xs.length : Nat) : Int)) ∧ Below w.heap.size w w' := by
  obtain ⟨A, c, rfl, hc, hl⟩ := (HS.rd 0 rfl).val
  go_enter Tryz.func40, Tryz.ntmps40
  go_wp2_with fail
  refine (heldRunS xs _ k _ (HS.alloc _) hk hx).mono ?_
  rintro e w1 ⟨rfl, hb⟩
  go_wp2
  go_ret
  exact ⟨rfl, ((Own.start w).alloc _ |>.of_below hb).below⟩
end Go.Proofs.YtkafflbakgkpcaaGreat
namespace Go.Proofs.YtkafflbakgkpcaaGreat
set_option linter.unusedSimpArgs false
set_option linter.unusedVariables false
open Go.RowKit Go.Ow
attribute [local irreducible] wpQuiet
set_option maxRecDepth 100000
def mtxD (k : Nat) (acc : List UInt8) : List UInt8 := if h : k = 0 then acc else mtxD (k / 10) (UInt8.ofNat (48 + k % 10) :: acc)
termination_by k
decreasing_by omega
def mtx (k : Nat) : ByteArray := if k = 0 then ⟨#[109, 48]⟩ else ⟨#[109]⟩ ++ ⟨(mtxD k []).toArray⟩
theorem mtxD_z (acc : List UInt8) : mtxD 0 acc = acc := by rw [mtxD]; simp
theorem mtxD_s (k : Nat) (acc : List UInt8) (h : 0 < k) : mtxD k acc = mtxD (k / 10) (UInt8.ofNat (48 + k % 10) :: acc) := by rw [mtxD, dif_neg (by omega)]
theorem u8dig (k : Nat) : ((UInt8.ofNat (48 + k % 10)).toNat : Int) = 48 + (k : Int) % 10 := by
  have : (UInt8.ofNat (48 + k % 10)).toNat = (48 + k % 10) % 256 := by simp
  rw [this, Nat.mod_eq_of_lt (by omega)]; omega
theorem markText (k : Nat) (w : World) (hk : k ≤ 4611686018427387904) : Calls Tryz.prog 38 #[.int .i64 k] w fun e w' => e = .returned (.string (mtx k)) ∧ Below w.heap.size w w' := by
  have HS := Own.start w
  go_enter Tryz.func38, Tryz.ntmps38
  by_cases h0 : k = 0
  · subst h0
    go_wp2
    go_ret
    exact ⟨rfl, HS.below⟩
  · have HM := Lib.hid (show mtx k = ⟨#[109]⟩ ++ ⟨(mtxD k []).toArray⟩ by rw [mtx, if_neg h0])
    go_wp2
    go_loopw [0, 3] (fun kk o wr => ∃ (m : Nat) (acc : List UInt8), m + acc.length ≤ k ∧ kk = .int .i64 m ∧ o = .string ⟨acc.toArray⟩ ∧ Hid (mtxD m acc = mtxD k []) ∧ Own w [] wr) (fun kk _ _ => (intOf kk).toNat)
    case atStart => exact ⟨k, [], by simp, rfl, rfl, Lib.hid rfl, HS⟩
    case round =>
      obtain ⟨m, acc, hm, rfl, rfl, HD, HS'⟩ := hrel
      by_cases hz : m = 0
      · subst hz
        have hadd : ∀ q : World, (Op.stringOp .add ⟨#[109]⟩ ⟨acc.toArray⟩).run Tryz.prog q = .ok (.string (⟨#[109]⟩ ++ ⟨acc.toArray⟩)) q := fun q => run_string_add_sum q _ _ (by
          have h1 : (ByteArray.mk acc.toArray).size = acc.length := by show acc.toArray.size = _; simp
          have h2 : (ByteArray.mk #[109]).size = 1 := rfl
          rw [h1, h2]; omega)
        go_wp2
        go_ret
        exact ⟨by rw [HM.out, ← HD.out, mtxD_z]; rfl, HS'.below⟩
      · obtain ⟨d, hd⟩ : ∃ d : UInt8, UInt8.ofNat (48 + m % 10) = d := ⟨_, rfl⟩
        have hu := u8dig m
        rw [hd] at hu
        have HD2 := Lib.hid (show mtxD (m / 10) (d :: acc) = mtxD k [] by rw [← HD.out, mtxD_s m acc (by omega), hd])
        have HL := HS'.lit [d] #[.int .u8 (d.toNat : Int)] 5 rfl rfl (by simp)
        rw [hu] at HL
        have hcv := run_cv (P := Tryz.prog) (src := 106) (dst := 9) Tryz.underlying106 Tryz.underlying5 Tryz.underlying9 (HL.rd 0 rfl)
        have hadd : ∀ q : World, (Op.stringOp .add ⟨[d].toArray⟩ ⟨acc.toArray⟩).run Tryz.prog q = .ok (.string ⟨(d :: acc).toArray⟩) q := fun q => by
          have h1 : (ByteArray.mk acc.toArray).size = acc.length := by show acc.toArray.size = _; simp
          have h2 : (ByteArray.mk [d].toArray).size = 1 := rfl
          rw [run_string_add_sum q _ _ (by rw [h1, h2]; omega), ByteArray.mk_append_mk]
          simp
        simp only [List.length_cons, List.length_nil, Nat.zero_add] at hcv
        clear hd hu
        go_wp2
        go_roundw
        case rel => exact ⟨m / 10, d :: acc, by simp only [List.length_cons]; omega, by go_num, rfl, HD2, HL.drop⟩
        case measure => simp [intOf]; omega
def mts (n k : Nat) : List ByteArray := (List.range n).map (fun i => mtx (k + i))
theorem mts_len (n k : Nat) : (mts n k).length = n := by simp [mts]
theorem mts_at (n k i : Nat) (h : i < n) : (mts n k)[i]'(by simp [mts, h]) = mtx (k + i) := by simp [mts]
theorem mts_set (xs : List ByteArray) (k i : Nat) (h : i < xs.length) : (mts i k ++ xs.drop i).set i (mtx (k + i)) = mts (i + 1) k ++ xs.drop (i + 1) := by
  rw [List.set_append_right _ _ (by simp [mts])]
  rw [mts_len, Nat.sub_self, List.drop_eq_getElem_cons h, List.set_cons_zero]
  simp [mts, List.range_succ]
theorem markStringS {W : World} {R : List Ds} (xs : List ByteArray) (v : Value) (k : Nat) (w : World) (HS : Own W (.own v xs :: R) w) (hk : k + xs.length ≤ 4611686018427387904) : Calls Tryz.prog 15 #[v, .int .i64 k] w fun e w' => e = .returned (.int .i64 ((k + xs.length : Nat) : Int)) ∧ Own W (.own v (mts xs.length k) :: R) w' := by
  have hv := HS.rd 0 rfl
  obtain ⟨A, c, rfl, hc, hl⟩ := hv.val
  go_enter Tryz.func15, Tryz.ntmps15
  go_wp2
  go_loopw [1, 5] (fun kk i wr => ∃ j : Nat, j ≤ xs.length ∧ i = .int .i64 j ∧ kk = .int .i64 ((k + j : Nat) : Int) ∧ Own W (.own (.slice A xs.length c) (mts j k ++ xs.drop j) :: R) wr) (fun _ i _ => xs.length - (intOf i).toNat)
  case atStart => exact ⟨0, by omega, rfl, rfl, by simpa [mts] using HS⟩
  case round =>
    obtain ⟨j, hj, rfl, rfl, HS'⟩ := hrel
    by_cases hlt : j < xs.length
    · have hl2 : (mts j k ++ xs.drop j).length = xs.length := by simp [mts_len]; omega
      obtain ⟨g, rfl⟩ := HS'.fix (by omega)
      go_wp2_with fail
      refine (markText (k + j) _ (by omega)).mono ?_
      rintro e w2 ⟨rfl, hb⟩
      have HS2 := HS'.of_below hb
      obtain ⟨r0, hfr⟩ := Sg.row HS2 j (by omega)
      have HP := Sg.put HS2 j (by omega) (mtx (k + j))
      rw [mts_set xs k j hlt] at HP
      generalize ((mts j k ++ xs.drop j)[j]'(by omega)) = u at r0
      clear hl2
      go_wp2
      go_roundw
      case rel => exact ⟨j + 1, by omega, by go_num, by go_num, HP⟩
      case measure => simp [intOf]; omega
    · go_wp2
      go_ret
      obtain rfl : j = xs.length := by omega
      exact ⟨by go_num, by simpa using HS'⟩
theorem heldStringS (n : Nat) (v : Value) (k : Nat) (w : World) (hv : Rd w v (mts n k)) (hk : k + n ≤ 4611686018427387904) : Calls Tryz.prog 71 #[v, .int .i64 k] w fun e w' => e = .returned (.int .i64 ((k + n : Nat) : Int)) ∧ Below w.heap.size w w' := by
  obtain ⟨A, c, rfl, hc, hl⟩ := hv.val
  have HL := Lib.hid (mts_len n k)
  obtain ⟨zs, hz⟩ : ∃ zs, mts n k = zs := ⟨_, rfl⟩
  rw [hz] at hv HL hc hl ⊢
  have HS := Own.start w
  have HE : ∀ i (h : i < zs.length), zs[i] = mtx (k + i) := by
    subst hz; intro i h; exact mts_at _ _ _ (by simpa [mts_len] using h)
  have hkn : k + zs.length ≤ 4611686018427387904 := by rw [HL.out]; exact hk
  clear hz hk
  go_enter Tryz.func71, Tryz.ntmps71
  go_wp2
  go_loopw [1, 5] (fun kk i wr => ∃ j : Nat, j ≤ zs.length ∧ i = .int .i64 j ∧ kk = .int .i64 ((k + j : Nat) : Int) ∧ Own w [] wr) (fun _ i _ => zs.length - (intOf i).toNat)
  case atStart => exact ⟨0, by omega, rfl, rfl, HS⟩
  case round =>
    obtain ⟨j, hj, rfl, rfl, HS'⟩ := hrel
    by_cases hlt : j < zs.length
    · obtain ⟨b, o, rfl⟩ := hv.fix (by omega)
      have r0 := Sg.rd (HS'.old hv) j (by omega)
      rw [HE j hlt] at r0
      have hze := Lib.hid (HE j hlt)
      clear HE
      clear HS
      have HS := HS'
      clear HS'
      go_wp2
      go_region_held3 (fun w' => w'.cell? ⟨b, o + j, none⟩ = some (.string (mtx (k + j)))) (first | go_keep) (first | (go_at_call 38; refine (markText (k + j) _ (by omega)).mono ?_; rintro e w1 ⟨rfl, hb⟩; (first | have r1 := Sg.rd ((HS.of_below hb).old hv) j (by omega) | have r1 := Sg.rd ((HS.drew.of_below hb).old hv) j (by omega)); rw [hze.out] at r1; (first | have H' := HS.of_below hb | have H' := HS.drew.of_below hb | have H' := (HS.box0 [_] _).of_below hb | have H' := ((HS.box0 [_] _).box0 [_] _).of_below hb | have H' := (HS.box0 [_] _).drew.of_below hb | have H' := (HS.alloc _).of_below hb | have H' := ((HS.alloc _).alloc _).of_below hb | have H' := (HS.alloc _).drew.of_below hb); clear HS; have HS := H'; clear H'; have F := HS.facts; simp only [Own.Facts, Own.Cells, World.size_alloc, List.cons_append, List.nil_append, List.eraseIdx_cons_succ, List.eraseIdx_cons_zero, List.eraseIdx_zero, List.tail_cons, Nat.zero_add] at F))
      trace_state
      go_wp2
      go_roundw
      case rel => exact ⟨j + 1, by omega, by go_num, by go_num, HS⟩
      case measure => simp [intOf]; omega
    · clear HE
      go_wp2
      go_ret
      obtain rfl : j = zs.length := by omega
      exact ⟨by rw [HL.out]; rfl, HS'.below⟩
end Go.Proofs.YtkafflbakgkpcaaGreat
namespace Go.Proofs.YtkafflbakgkpcaaGreat
set_option linter.unusedSimpArgs false
set_option linter.unusedVariables false
open Go.RowKit Go.Ow
attribute [local irreducible] wpQuiet
set_option maxRecDepth 100000
def lsz : List Lf → Nat
  | [] => 0
  | x :: l => x.p.length + 4 + lsz l
def mlf (x : Lf) (k : Nat) : Lf := ⟨mts x.p.length k, ((k : Int) + (x.p.length : Int)) % 3 == 0, (k : Int) + (x.p.length : Int) + 1, (k : Int) + (x.p.length : Int) + 1 + 1, mtx (k + x.p.length + 3)⟩
def mls : List Lf → Nat → List Lf
  | [], _ => []
  | x :: l, k => mlf x k :: mls l (k + (x.p.length + 4))
theorem mls_len : ∀ (xs : List Lf) (k : Nat), (mls xs k).length = xs.length
  | [], _ => rfl
  | x :: l, k => by simp only [mls, List.length_cons, mls_len l]
theorem mls_at : ∀ (xs : List Lf) (k j : Nat) (h : j < xs.length), (mls xs k)[j]'(by rw [mls_len]; exact h) = mlf xs[j] (k + lsz (xs.take j))
  | x :: l, k, 0, _ => by simp [mls, lsz]
  | x :: l, k, j + 1, h => by
    simp only [mls, List.getElem_cons_succ, List.take_succ_cons, lsz]
    rw [mls_at l _ j (by simpa using h)]
    congr 1; omega
theorem mls_snoc : ∀ (xs : List Lf) (k : Nat) (x : Lf), mls (xs ++ [x]) k = mls xs k ++ [mlf x (k + lsz xs)]
  | [], k, x => by simp [mls, lsz]
  | y :: l, k, x => by
    simp only [mls, lsz, List.cons_append]
    rw [mls_snoc l _ x]
    simp only [Nat.add_assoc]
theorem lsz_snoc : ∀ (xs : List Lf) (x : Lf), lsz (xs ++ [x]) = lsz xs + (x.p.length + 4)
  | [], x => by simp [lsz]
  | y :: l, x => by simp only [lsz, List.cons_append, lsz_snoc l x]; omega
theorem take_snoc {α : Type} (xs : List α) (j : Nat) (h : j < xs.length) : xs.take (j + 1) = xs.take j ++ [xs[j]] := by
  rw [List.take_add_one, List.getElem?_eq_getElem h]; rfl
theorem lsz_succ (xs : List Lf) (j : Nat) (h : j < xs.length) : lsz (xs.take (j + 1)) = lsz (xs.take j) + (xs[j].p.length + 4) := by rw [take_snoc xs j h, lsz_snoc]
theorem lsz_app : ∀ (xs ys : List Lf), lsz (xs ++ ys) = lsz xs + lsz ys
  | [], ys => by simp [lsz]
  | y :: l, ys => by simp only [lsz, List.cons_append, lsz_app l ys]; omega
theorem lsz_le (xs : List Lf) (j : Nat) : lsz (xs.take j) ≤ lsz xs := by
  have := lsz_app (xs.take j) (xs.drop j)
  rw [List.take_append_drop] at this; omega
theorem mls_set (xs : List Lf) (k j : Nat) (h : j < xs.length) : (mls (xs.take j) k ++ xs.drop j).set j (mlf xs[j] (k + lsz (xs.take j))) = mls (xs.take (j + 1)) k ++ xs.drop (j + 1) := by
  have hl : (mls (xs.take j) k).length = j := by rw [mls_len]; simp; omega
  rw [List.set_append_right _ _ (by omega), hl, Nat.sub_self, List.drop_eq_getElem_cons h, List.set_cons_zero, take_snoc xs j h, mls_snoc]
  simp
theorem mls_old (xs : List Lf) (k j : Nat) (h : j < xs.length) : (mls (xs.take j) k ++ xs.drop j)[j]? = some xs[j] := by
  have hl : (mls (xs.take j) k).length = j := by rw [mls_len]; simp; omega
  rw [List.getElem?_append_right (by omega), hl, Nat.sub_self, List.getElem?_drop, Nat.add_zero, List.getElem?_eq_getElem h]
theorem hole5 {W w : World} {R : List Ds} {g cap : Nat} {xs : List Lf} {j : Nat} {a b c d e : Value} (h : Own W (.hole g cap xs j [a, b, c, d, e] :: R) w) :
    (w.cell? ⟨g, j * 5, none⟩ = some a ∧ w.cell? ⟨g, j * 5 + 1, none⟩ = some b ∧ w.cell? ⟨g, j * 5 + 2, none⟩ = some c ∧ w.cell? ⟨g, j * 5 + 3, none⟩ = some d ∧ w.cell? ⟨g, j * 5 + 4, none⟩ = some e) ∧ (∀ t, w.frozen? ⟨g, t, none⟩ = false) :=
  ⟨⟨h.holec.2.2.1 0 (show 0 < 5 by decide), h.holec.2.2.1 1 (show 1 < 5 by decide), h.holec.2.2.1 2 (show 2 < 5 by decide), h.holec.2.2.1 3 (show 3 < 5 by decide), h.holec.2.2.1 4 (show 4 < 5 by decide)⟩, h.holec.2.2.2.1⟩
set_option maxHeartbeats 2000000 in
theorem markLeafS {W : World} {R : List Ds} (xs : List Lf) (v : Value) (k : Nat) (w : World) (HS : Own W (.own v xs :: R) w) (hk : k + lsz xs ≤ 4611686018427387904) : Calls Tryz.prog 36 #[v, .int .i64 k] w fun e w' => e = .returned (.int .i64 ((k + lsz xs : Nat) : Int)) ∧ Own W (.own v (mls xs k) :: R) w' := by
  have hv := HS.rd 0 rfl
  obtain ⟨A, c, rfl, hc, hl⟩ := hv.val
  go_enter Tryz.func36, Tryz.ntmps36
  go_wp2
  go_loopw [1, 5] (fun kk i wr => ∃ j : Nat, j ≤ xs.length ∧ i = .int .i64 j ∧ kk = .int .i64 ((k + lsz (xs.take j) : Nat) : Int) ∧ Own W (.own (.slice A xs.length c) (mls (xs.take j) k ++ xs.drop j) :: R) wr) (fun _ i _ => xs.length - (intOf i).toNat)
  case atStart => exact ⟨0, by omega, rfl, rfl, by simpa [mls, lsz] using HS⟩
  case round =>
    obtain ⟨j, hj, rfl, rfl, HS'⟩ := hrel
    clear HS
    by_cases hlt : j < xs.length
    · have hl2 : (mls (xs.take j) k ++ xs.drop j).length = xs.length := by simp [mls_len]; omega
      have hold := mls_old xs k j hlt
      have hset := mls_set xs k j hlt
      have hs1 := lsz_succ xs j hlt
      have hle := lsz_le xs (j + 1)
      obtain ⟨k', hk'⟩ : ∃ k', k + lsz (xs.take j) = k' := ⟨_, rfl⟩
      rw [hk'] at hset
      have hk2 : k + lsz (xs.take (j + 1)) = k' + (xs[j].p.length + 4) := by omega
      have HK := Lib.hid hk2
      rw [hk']
      have hb : k' + (xs[j].p.length + 4) ≤ 4611686018427387904 := by omega
      clear hk' hk2 hs1 hle
      obtain ⟨x, hx⟩ : ∃ x, xs[j] = x := ⟨_, rfl⟩
      rw [hx] at hold hset hb HK
      clear hx
      obtain ⟨ys, hys⟩ : ∃ ys, mls (xs.take j) k ++ xs.drop j = ys := ⟨_, rfl⟩
      rw [hys] at HS' hl2 hold hset
      clear hys
      obtain ⟨hj2, hold2⟩ := List.getElem?_eq_some_iff.1 hold
      clear hold
      have hold := hold2
      clear hold2
      obtain ⟨g, rfl⟩ := HS'.fixC (by omega)
      obtain ⟨cs, h1⟩ := HS'.focus hj2
      rw [hold] at h1
      obtain ⟨vp, rfl, h2⟩ := Lf.elt_own h1
      obtain ⟨A', c', rfl, _, _⟩ := (h2.rd 0 rfl).val
      have F := hole5 (h2.pick 1 rfl)
      have HH := Lib.hid (And.intro hold (And.intro hset hl2))
      clear hold hset hl2 h1 HS'
      go_wp2_with fail
      refine (markStringS x.p _ k' _ h2 (by omega)).mono ?_
      rintro e w2 ⟨rfl, H3⟩
      clear F h2
      have F := hole5 (H3.pick 1 rfl)
      go_wp2_with fail
      have H4 := ((((H3.pick 1 rfl).holeput 1 (show 1 < 5 by decide) (.bool (((k' : Int) + (x.p.length : Int)) % 3 == 0))).holeput 2 (show 2 < 5 by decide) (.int .i64 ((k' : Int) + (x.p.length : Int) + 1))).holeput 3 (show 3 < 5 by decide) (.int .i64 ((k' : Int) + (x.p.length : Int) + 1 + 1)))
      simp only [List.set_cons_zero, List.set_cons_succ] at H4
      refine (markText (k' + x.p.length + 3) _ (by omega)).mono ?_
      rintro e w3 ⟨rfl, hb3⟩
      have H5 := H4.of_below hb3
      clear F H3 H4
      have F := hole5 H5
      have H6 := (H5.holeput 4 (show 4 < 5 by decide) (.string (mtx (k' + x.p.length + 3))))
      simp only [List.set_cons_zero, List.set_cons_succ] at H6
      have H7 := (Lf.own_elt (x := mlf x k') (H6.pick 1 rfl)).unfocus
      rw [HH.out.2.1, HH.out.2.2] at H7
      clear H5 H6 hb3
      go_wp2
      go_roundw
      case rel => exact ⟨j + 1, by omega, by go_num, by rw [HK.out]; go_num, H7⟩
      case measure => simp [intOf]; omega
    · go_wp2
      go_ret
      obtain rfl : j = xs.length := by omega
      exact ⟨by rw [List.take_length]; rfl, by simpa using HS'⟩
def msz (s : St) : Nat := lsz s.l + 3 * s.c.length
def mst (s : St) (k : Nat) : St := ⟨mls s.l k, rmarks s.c.length (k + lsz s.l)⟩
theorem markState {W : World} {R : List Ds} (s : St) (vl vc : Value) (k : Nat) (w : World) (HS : Own W (.own vl s.l :: .own vc s.c :: R) w) (hk : k + lsz s.l ≤ 4611686018427387904) : Calls Tryz.prog 14 #[.agg #[vl, vc], .int .i64 k] w fun e w' => e = .returned (.int .i64 ((k + msz s : Nat) : Int)) ∧ Own W (.own vl (mst s k).l :: .own vc (mst s k).c :: R) w' := by
  obtain ⟨A, c, rfl, _, _⟩ := (HS.rd 0 rfl).val
  obtain ⟨B, d, rfl, _, _⟩ := (HS.rd 1 rfl).val
  have HB := HS.box [.slice A s.l.length c, .slice B s.c.length d] 36
  have F := HB.facts
  simp only [Own.Facts, Own.Cells] at F
  go_enter Tryz.func14, Tryz.ntmps14
  go_wp2_with fail
  refine (markLeafS s.l _ k _ (HB.pick 1 rfl) hk).mono ?_
  rintro e w1 ⟨rfl, H1⟩
  clear F HB
  have HB := H1.pick 1 rfl
  have F := HB.facts
  simp only [Own.Facts, Own.Cells] at F
  go_wp2_with fail
  refine (markContext s.c _ (k + lsz s.l) _ (HB.pick 2 rfl) hk).mono ?_
  rintro e w2 ⟨rfl, H2⟩
  go_wp2
  go_ret
  exact ⟨by unfold msz; rw [← Nat.add_assoc]; rfl, ((H2.pick 2 rfl).pick 2 rfl).drop⟩
end Go.Proofs.YtkafflbakgkpcaaGreat
