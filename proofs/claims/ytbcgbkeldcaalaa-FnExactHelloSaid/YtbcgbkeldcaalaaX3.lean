/- Marks of leaves and states. -/
import Derived.Test.YtbcgbkeldcaalaaX2
namespace Go.Proofs.Ytbcgbkeldcaalaa
set_option linter.unusedSimpArgs false
set_option linter.unusedVariables false
open Go.RowKit Go.Ow
attribute [local irreducible] wpQuiet
set_option maxRecDepth 100000
def lsz : List Lf → Nat
  | [] => 0
  | x :: l => x.p.length + 4 + lsz l
def mlf (x : Lf) (k : Nat) : Lf := ⟨mts x.p.length k, ((k : Int) + (x.p.length : Int)) % 3 == 0, (k : Int) + (x.p.length : Int) + 1, (k : Int) + (x.p.length : Int) + 1 + 1, mtx (k + x.p.length + 3)⟩
def mls : List Lf → Nat → List Lf
  | [], _ => []
  | x :: l, k => mlf x k :: mls l (k + (x.p.length + 4))
theorem mls_len : ∀ (xs : List Lf) (k : Nat), (mls xs k).length = xs.length
  | [], _ => rfl
  | x :: l, k => by simp only [mls, List.length_cons, mls_len l]
theorem mls_at : ∀ (xs : List Lf) (k j : Nat) (h : j < xs.length), (mls xs k)[j]'(by rw [mls_len]; exact h) = mlf xs[j] (k + lsz (xs.take j))
  | x :: l, k, 0, _ => by simp [mls, lsz]
  | x :: l, k, j + 1, h => by
    simp only [mls, List.getElem_cons_succ, List.take_succ_cons, lsz]
    rw [mls_at l _ j (by simpa using h)]
    congr 1; omega
theorem mls_snoc : ∀ (xs : List Lf) (k : Nat) (x : Lf), mls (xs ++ [x]) k = mls xs k ++ [mlf x (k + lsz xs)]
  | [], k, x => by simp [mls, lsz]
  | y :: l, k, x => by
    simp only [mls, lsz, List.cons_append]
    rw [mls_snoc l _ x]
    simp only [Nat.add_assoc]
theorem lsz_snoc : ∀ (xs : List Lf) (x : Lf), lsz (xs ++ [x]) = lsz xs + (x.p.length + 4)
  | [], x => by simp [lsz]
  | y :: l, x => by simp only [lsz, List.cons_append, lsz_snoc l x]; omega
theorem take_snoc {α : Type} (xs : List α) (j : Nat) (h : j < xs.length) : xs.take (j + 1) = xs.take j ++ [xs[j]] := by
  rw [List.take_add_one, List.getElem?_eq_getElem h]; rfl
theorem lsz_succ (xs : List Lf) (j : Nat) (h : j < xs.length) : lsz (xs.take (j + 1)) = lsz (xs.take j) + (xs[j].p.length + 4) := by rw [take_snoc xs j h, lsz_snoc]
theorem lsz_app : ∀ (xs ys : List Lf), lsz (xs ++ ys) = lsz xs + lsz ys
  | [], ys => by simp [lsz]
  | y :: l, ys => by simp only [lsz, List.cons_append, lsz_app l ys]; omega
theorem lsz_le (xs : List Lf) (j : Nat) : lsz (xs.take j) ≤ lsz xs := by
  have := lsz_app (xs.take j) (xs.drop j)
  rw [List.take_append_drop] at this; omega
theorem mls_set (xs : List Lf) (k j : Nat) (h : j < xs.length) : (mls (xs.take j) k ++ xs.drop j).set j (mlf xs[j] (k + lsz (xs.take j))) = mls (xs.take (j + 1)) k ++ xs.drop (j + 1) := by
  have hl : (mls (xs.take j) k).length = j := by rw [mls_len]; simp; omega
  rw [List.set_append_right _ _ (by omega), hl, Nat.sub_self, List.drop_eq_getElem_cons h, List.set_cons_zero, take_snoc xs j h, mls_snoc]
  simp
theorem mls_old (xs : List Lf) (k j : Nat) (h : j < xs.length) : (mls (xs.take j) k ++ xs.drop j)[j]? = some xs[j] := by
  have hl : (mls (xs.take j) k).length = j := by rw [mls_len]; simp; omega
  rw [List.getElem?_append_right (by omega), hl, Nat.sub_self, List.getElem?_drop, Nat.add_zero, List.getElem?_eq_getElem h]
theorem hole5 {W w : World} {R : List Ds} {g cap : Nat} {xs : List Lf} {j : Nat} {a b c d e : Value} (h : Own W (.hole g cap xs j [a, b, c, d, e] :: R) w) :
    (w.cell? ⟨g, j * 5, none⟩ = some a ∧ w.cell? ⟨g, j * 5 + 1, none⟩ = some b ∧ w.cell? ⟨g, j * 5 + 2, none⟩ = some c ∧ w.cell? ⟨g, j * 5 + 3, none⟩ = some d ∧ w.cell? ⟨g, j * 5 + 4, none⟩ = some e) ∧ (∀ t, w.frozen? ⟨g, t, none⟩ = false) :=
  ⟨⟨h.holec.2.2.1 0 (show 0 < 5 by decide), h.holec.2.2.1 1 (show 1 < 5 by decide), h.holec.2.2.1 2 (show 2 < 5 by decide), h.holec.2.2.1 3 (show 3 < 5 by decide), h.holec.2.2.1 4 (show 4 < 5 by decide)⟩, h.holec.2.2.2.1⟩
set_option maxHeartbeats 2000000 in
theorem markLeafS {W : World} {R : List Ds} (xs : List Lf) (v : Value) (k : Nat) (w : World) (HS : Own W (.own v xs :: R) w) (hk : k + lsz xs ≤ 4611686018427387904) : Calls Try.prog 52 #[v, .int .i64 k] w fun e w' => e = .returned (.int .i64 ((k + lsz xs : Nat) : Int)) ∧ Own W (.own v (mls xs k) :: R) w' := by
  have hv := HS.rd 0 rfl
  obtain ⟨A, c, rfl, hc, hl⟩ := hv.val
  go_enter Try.func52, Try.ntmps52
  go_wp2
  go_loopw [1, 5] (fun kk i wr => ∃ j : Nat, j ≤ xs.length ∧ i = .int .i64 j ∧ kk = .int .i64 ((k + lsz (xs.take j) : Nat) : Int) ∧ Own W (.own (.slice A xs.length c) (mls (xs.take j) k ++ xs.drop j) :: R) wr) (fun _ i _ => xs.length - (intOf i).toNat)
  case atStart => exact ⟨0, by omega, rfl, rfl, by simpa [mls, lsz] using HS⟩
  case round =>
    obtain ⟨j, hj, rfl, rfl, HS'⟩ := hrel
    clear HS
    by_cases hlt : j < xs.length
    · have hl2 : (mls (xs.take j) k ++ xs.drop j).length = xs.length := by simp [mls_len]; omega
      have hold := mls_old xs k j hlt
      have hset := mls_set xs k j hlt
      have hs1 := lsz_succ xs j hlt
      have hle := lsz_le xs (j + 1)
      obtain ⟨k', hk'⟩ : ∃ k', k + lsz (xs.take j) = k' := ⟨_, rfl⟩
      rw [hk'] at hset
      have hk2 : k + lsz (xs.take (j + 1)) = k' + (xs[j].p.length + 4) := by omega
      have HK := Lib.hid hk2
      rw [hk']
      have hb : k' + (xs[j].p.length + 4) ≤ 4611686018427387904 := by omega
      clear hk' hk2 hs1 hle
      obtain ⟨x, hx⟩ : ∃ x, xs[j] = x := ⟨_, rfl⟩
      rw [hx] at hold hset hb HK
      clear hx
      obtain ⟨ys, hys⟩ : ∃ ys, mls (xs.take j) k ++ xs.drop j = ys := ⟨_, rfl⟩
      rw [hys] at HS' hl2 hold hset
      clear hys
      obtain ⟨hj2, hold2⟩ := List.getElem?_eq_some_iff.1 hold
      clear hold
      have hold := hold2
      clear hold2
      obtain ⟨g, rfl⟩ := HS'.fixC (by omega)
      obtain ⟨cs, h1⟩ := HS'.focus hj2
      rw [hold] at h1
      obtain ⟨vp, rfl, h2⟩ := Lf.elt_own h1
      obtain ⟨A', c', rfl, _, _⟩ := (h2.rd 0 rfl).val
      have F := hole5 (h2.pick 1 rfl)
      have HH := Lib.hid (And.intro hold (And.intro hset hl2))
      clear hold hset hl2 h1 HS'
      go_wp2_with fail
      refine (markStringS x.p _ k' _ h2 (by omega)).mono ?_
      rintro e w2 ⟨rfl, H3⟩
      clear F h2
      have F := hole5 (H3.pick 1 rfl)
      go_wp2_with fail
      have H4 := ((((H3.pick 1 rfl).holeput 1 (show 1 < 5 by decide) (.bool (((k' : Int) + (x.p.length : Int)) % 3 == 0))).holeput 2 (show 2 < 5 by decide) (.int .i64 ((k' : Int) + (x.p.length : Int) + 1))).holeput 3 (show 3 < 5 by decide) (.int .i64 ((k' : Int) + (x.p.length : Int) + 1 + 1)))
      simp only [List.set_cons_zero, List.set_cons_succ] at H4
      refine (markText (k' + x.p.length + 3) _ (by omega)).mono ?_
      rintro e w3 ⟨rfl, hb3⟩
      have H5 := H4.of_below hb3
      clear F H3 H4
      have F := hole5 H5
      have H6 := (H5.holeput 4 (show 4 < 5 by decide) (.string (mtx (k' + x.p.length + 3))))
      simp only [List.set_cons_zero, List.set_cons_succ] at H6
      have H7 := (Lf.own_elt (x := mlf x k') (H6.pick 1 rfl)).unfocus
      rw [HH.out.2.1, HH.out.2.2] at H7
      clear H5 H6 hb3
      go_wp2
      go_roundw
      case rel => exact ⟨j + 1, by omega, by go_num, by rw [HK.out]; go_num, H7⟩
      case measure => simp [intOf]; omega
    · go_wp2
      go_ret
      obtain rfl : j = xs.length := by omega
      exact ⟨by rw [List.take_length]; rfl, by simpa using HS'⟩
def msz (s : St) : Nat := lsz s.l + 3 * s.c.length
def mst (s : St) (k : Nat) : St := ⟨mls s.l k, rmarks s.c.length (k + lsz s.l)⟩
theorem markState {W : World} {R : List Ds} (s : St) (vl vc : Value) (k : Nat) (w : World) (HS : Own W (.own vl s.l :: .own vc s.c :: R) w) (hk : k + lsz s.l ≤ 4611686018427387904) : Calls Try.prog 19 #[.agg #[vl, vc], .int .i64 k] w fun e w' => e = .returned (.int .i64 ((k + msz s : Nat) : Int)) ∧ Own W (.own vl (mst s k).l :: .own vc (mst s k).c :: R) w' := by
  obtain ⟨A, c, rfl, _, _⟩ := (HS.rd 0 rfl).val
  obtain ⟨B, d, rfl, _, _⟩ := (HS.rd 1 rfl).val
  have HB := HS.box [.slice A s.l.length c, .slice B s.c.length d] 37
  have F := HB.facts
  simp only [Own.Facts, Own.Cells] at F
  go_enter Try.func19, Try.ntmps19
  go_wp2_with fail
  refine (markLeafS s.l _ k _ (HB.pick 1 rfl) hk).mono ?_
  rintro e w1 ⟨rfl, H1⟩
  clear F HB
  have HB := H1.pick 1 rfl
  have F := HB.facts
  simp only [Own.Facts, Own.Cells] at F
  go_wp2_with fail
  refine (markContext s.c _ (k + lsz s.l) _ (HB.pick 2 rfl) hk).mono ?_
  rintro e w2 ⟨rfl, H2⟩
  go_wp2
  go_ret
  exact ⟨by unfold msz; rw [← Nat.add_assoc]; rfl, ((H2.pick 2 rfl).pick 2 rfl).drop⟩
end Go.Proofs.Ytbcgbkeldcaalaa
