/- The bytes of a state, in plain Lean. -/
import Derived.Test.YtbcgbkeldcaalaaB2
import Derived.Test.YtbcgbkeldcaalaaP1
import Derived.Test.YtbcgbkeldcaalaaL2
namespace Go.Proofs.Ytbcgbkeldcaalaa
set_option linter.unusedSimpArgs false
set_option linter.unusedVariables false
open Go.RowKit Go.Ow
theorem dw_le {α : Type} (p : α → Bool) (l : List α) : (l.dropWhile p).length ≤ l.length := (List.dropWhile_suffix p).length_le
theorem tw_imp {α : Type} (p : α → Bool) : ∀ (l : List α) (y : α), y ∈ l.takeWhile p → p y = true
  | [], y, h => by simp at h
  | x :: l, y, h => by
    cases hx : p x
    · rw [List.takeWhile_cons_of_neg (by simp [hx])] at h; cases h
    · rw [List.takeWhile_cons_of_pos hx] at h
      rcases List.mem_cons.1 h with rfl | h
      · exact hx
      · exact tw_imp p l y h
theorem dw_nil {α : Type} (p : α → Bool) : ∀ (l : List α), l.dropWhile p = [] → ∀ y ∈ l, p y = true
  | [], _, y, hy => by cases hy
  | x :: l, h, y, hy => by
    cases hx : p x
    · rw [List.dropWhile_cons_of_neg (by simp [hx])] at h; cases h
    · rw [List.dropWhile_cons_of_pos hx] at h
      rcases List.mem_cons.1 hy with rfl | hy
      · exact hx
      · exact dw_nil p l h y hy
theorem tw_all {α : Type} (p : α → Bool) : ∀ (l : List α), (∀ y ∈ l, p y = true) → l.takeWhile p = l ∧ l.dropWhile p = []
  | [], _ => ⟨rfl, rfl⟩
  | x :: l, h => by
    obtain ⟨h1, h2⟩ := tw_all p l fun y hy => h y (List.mem_cons_of_mem _ hy)
    rw [List.takeWhile_cons_of_pos (h x (by simp)), List.dropWhile_cons_of_pos (h x (by simp)), h1, h2]
    exact ⟨rfl, rfl⟩
theorem last_app {α : Type} (l m : List α) (h : m ≠ []) : (l ++ m).getLast? = m.getLast? := by
  rw [List.getLast?_append]
  cases hm : m.getLast? with
  | none => exact absurd (List.getLast?_eq_none_iff.1 hm) h
  | some a => rfl
/-- Neighbours of one key. -/
def grps {α : Type} (k : α → ByteArray × Nat) : List α → List (List α)
  | [] => []
  | x :: l => (x :: l.takeWhile (fun y => decide (k y = k x))) :: grps k (l.dropWhile (fun y => decide (k y = k x)))
termination_by l => l.length
decreasing_by
  have := dw_le (fun y => decide (k y = k x)) l
  simp only [List.length_cons]; omega
theorem grps_nil {α : Type} (k : α → ByteArray × Nat) : grps k ([] : List α) = [] := by rw [grps]
theorem grps_cons {α : Type} (k : α → ByteArray × Nat) (x : α) (l : List α) : grps k (x :: l) = (x :: l.takeWhile (fun y => decide (k y = k x))) :: grps k (l.dropWhile (fun y => decide (k y = k x))) := by rw [grps]
theorem grps_flat {α : Type} (k : α → ByteArray × Nat) : ∀ (n : Nat) (l : List α), l.length ≤ n → (grps k l).flatten = l
  | _, [], _ => by rw [grps_nil]; rfl
  | 0, x :: l, h => by simp at h
  | n + 1, x :: l, h => by
    have hd := dw_le (fun y => decide (k y = k x)) l
    rw [grps_cons, List.flatten_cons, grps_flat k n _ (by simp only [List.length_cons] at h; omega), List.cons_append, List.takeWhile_append_dropWhile]
theorem grps_ne {α : Type} (k : α → ByteArray × Nat) : ∀ (n : Nat) (l : List α), l.length ≤ n → ∀ g ∈ grps k l, ∃ x t, g = x :: t ∧ ∀ y ∈ g, k y = k x
  | _, [], _, g, hg => by rw [grps_nil] at hg; cases hg
  | 0, x :: l, h, _, _ => by simp at h
  | n + 1, x :: l, h, g, hg => by
    have hd := dw_le (fun y => decide (k y = k x)) l
    rw [grps_cons] at hg
    rcases List.mem_cons.1 hg with rfl | hg
    · refine ⟨x, _, rfl, fun y hy => ?_⟩
      rcases List.mem_cons.1 hy with rfl | hy
      · rfl
      · have := tw_imp (fun y => decide (k y = k x)) _ _ hy; simpa using this
    · exact grps_ne k n _ (by simp only [List.length_cons] at h; omega) g hg
theorem grps_map {α β : Type} (f : α → β) (k : β → ByteArray × Nat) : ∀ (n : Nat) (l : List α), l.length ≤ n → grps k (l.map f) = (grps (fun x => k (f x)) l).map (List.map f)
  | _, [], _ => by rw [List.map_nil, grps_nil, grps_nil]; rfl
  | 0, x :: l, h => by simp at h
  | n + 1, x :: l, h => by
    have hd := dw_le (fun y => decide (k (f y) = k (f x))) l
    rw [List.map_cons, grps_cons, grps_cons, List.takeWhile_map, List.dropWhile_map, grps_map f k n _ (by simp only [List.length_cons] at h; exact Nat.le_trans hd (by omega))]
    rfl
/-- One element more at the end: of the last key, or not. -/
theorem grps_more {α : Type} (k : α → ByteArray × Nat) (b : α) : ∀ (n : Nat) (l : List α) (a : α), l.length ≤ n → l.getLast? = some a → k b = k a →
    ∃ gs g, grps k l = gs ++ [g] ∧ grps k (l ++ [b]) = gs ++ [g ++ [b]]
  | _, [], _, _, h, _ => by simp at h
  | 0, x :: l, _, h, _, _ => by simp at h
  | n + 1, x :: l, a, h, ha, hk => by
    have hd := dw_le (fun y => decide (k y = k x)) l
    rw [List.cons_append, grps_cons, grps_cons]
    by_cases he : l.dropWhile (fun y => decide (k y = k x)) = []
    · have hall : ∀ y ∈ l, k y = k x := fun y hy => by
        have := dw_nil _ _ he y hy
        simpa using this
      have hax : k a = k x := by
        cases l with
        | nil => simp at ha; rw [ha]
        | cons y t => exact hall a (by rw [List.getLast?_cons_cons] at ha; exact List.mem_of_getLast? ha)
      have ht : l.takeWhile (fun y => decide (k y = k x)) = l := (tw_all _ _ fun y hy => by simp [hall y hy]).1
      obtain ⟨ht2, hd2⟩ := tw_all (fun y => decide (k y = k x)) (l ++ [b]) fun y hy => by
        rcases List.mem_append.1 hy with hy | hy
        · simp [hall y hy]
        · rw [List.mem_singleton] at hy; subst hy; simp [hk, hax]
      exact ⟨[], x :: l, by rw [ht, he, grps_nil]; rfl, by rw [ht2, hd2, grps_nil]; rfl⟩
    · have hlast : (l.dropWhile (fun y => decide (k y = k x))).getLast? = some a := by
        have hl : l ≠ [] := fun h0 => he (by rw [h0]; rfl)
        have e : (x :: l).getLast? = l.getLast? := by
          cases l with
          | nil => exact absurd rfl hl
          | cons y t => rw [List.getLast?_cons_cons]
        rw [e, ← List.takeWhile_append_dropWhile (p := fun y => decide (k y = k x)) (l := l), last_app _ _ he] at ha
        exact ha
      obtain ⟨gs, g, h1, h2⟩ := grps_more k b n _ a (by simp only [List.length_cons] at h; omega) hlast hk
      have ht2 : (l ++ [b]).takeWhile (fun y => decide (k y = k x)) = l.takeWhile (fun y => decide (k y = k x)) := by
        rw [List.takeWhile_append]
        rw [if_neg]
        intro h0
        apply he
        have := List.takeWhile_append_dropWhile (p := fun y => decide (k y = k x)) (l := l)
        have h3 := congrArg List.length this
        rw [List.length_append] at h3
        exact List.eq_nil_of_length_eq_zero (by omega)
      have hd2 : (l ++ [b]).dropWhile (fun y => decide (k y = k x)) = l.dropWhile (fun y => decide (k y = k x)) ++ [b] := by
        rw [List.dropWhile_append]
        rw [if_neg (by simp [List.isEmpty_iff]; simpa using he)]
      exact ⟨_ :: gs, g, by rw [h1]; rfl, by rw [ht2, hd2, h2]; rfl⟩
theorem grps_new {α : Type} (k : α → ByteArray × Nat) (b : α) : ∀ (n : Nat) (l : List α), l.length ≤ n → (∀ a, l.getLast? = some a → k b ≠ k a) → grps k (l ++ [b]) = grps k l ++ [[b]]
  | _, [], _, _ => by rw [List.nil_append, grps_cons, grps_nil]; simp [grps_nil]
  | 0, x :: l, h, _ => by simp at h
  | n + 1, x :: l, h, hk => by
    have hd := dw_le (fun y => decide (k y = k x)) l
    rw [List.cons_append, grps_cons, grps_cons]
    by_cases he : l.dropWhile (fun y => decide (k y = k x)) = []
    · have hall : ∀ y ∈ l, k y = k x := fun y hy => by
        have := dw_nil _ _ he y hy
        simpa using this
      have hbx : k b ≠ k x := by
        cases l with
        | nil => exact hk x rfl
        | cons y t =>
          obtain ⟨a, ha⟩ : ∃ a, (y :: t).getLast? = some a := ⟨_, List.getLast?_eq_some_getLast (by simp)⟩
          have h1 := hk a (by rw [List.getLast?_cons_cons]; exact ha)
          rw [hall a (List.mem_of_getLast? ha)] at h1
          exact h1
      have ht : l.takeWhile (fun y => decide (k y = k x)) = l := (tw_all _ _ fun y hy => by simp [hall y hy]).1
      have ht2 : (l ++ [b]).takeWhile (fun y => decide (k y = k x)) = l := by
        rw [List.takeWhile_append, if_pos (by rw [ht]), List.takeWhile_cons_of_neg (by simp [hbx])]; simp
      have hd2 : (l ++ [b]).dropWhile (fun y => decide (k y = k x)) = [b] := by
        rw [List.dropWhile_append, if_pos (by rw [he]; rfl), List.dropWhile_cons_of_neg (by simp [hbx])]
      rw [ht, he, ht2, hd2, grps_nil, grps_cons, List.takeWhile_nil, List.dropWhile_nil, grps_nil]; rfl
    · have hlast : ∀ a, (l.dropWhile (fun y => decide (k y = k x))).getLast? = some a → k b ≠ k a := fun a ha => by
        refine hk a ?_
        have hl : l ≠ [] := fun h0 => he (by rw [h0]; rfl)
        have e : (x :: l).getLast? = l.getLast? := by
          cases l with
          | nil => exact absurd rfl hl
          | cons y t => rw [List.getLast?_cons_cons]
        rw [e, ← List.takeWhile_append_dropWhile (p := fun y => decide (k y = k x)) (l := l), last_app _ _ he]
        exact ha
      have ih := grps_new k b n _ (by simp only [List.length_cons] at h; omega) hlast
      have ht2 : (l ++ [b]).takeWhile (fun y => decide (k y = k x)) = l.takeWhile (fun y => decide (k y = k x)) := by
        rw [List.takeWhile_append]
        rw [if_neg]
        intro h0
        apply he
        have := List.takeWhile_append_dropWhile (p := fun y => decide (k y = k x)) (l := l)
        have h3 := congrArg List.length this
        rw [List.length_append] at h3
        exact List.eq_nil_of_length_eq_zero (by omega)
      have hd2 : (l ++ [b]).dropWhile (fun y => decide (k y = k x)) = l.dropWhile (fun y => decide (k y = k x)) ++ [b] := by
        rw [List.dropWhile_append]
        rw [if_neg (by simp [List.isEmpty_iff]; simpa using he)]
      rw [ht2, hd2, ih]; rfl
/-! The bytes. -/
def nmAt (l : Lf) (d : Nat) : ByteArray := (l.p[d]?).getD ByteArray.empty
def kdAt (l : Lf) (d : Nat) : Nat := if d + 1 < l.p.length then 3 else if l.fl = true then 2 else 1
def keyAt (d : Nat) (l : Lf) : ByteArray × Nat := (nmAt l d, kdAt l d)
def lfB (k : Nat) (l : Lf) : List UInt8 := uv l.dr.toNat ++ (uv l.ds.toNat ++ (if k = 1 then txt l.v else []))
def lfsB (k : Nat) (g : List Lf) : List UInt8 := (g.map (lfB k)).flatten
def gB (T : List Lf → List UInt8) (d : Nat) : List Lf → List UInt8
  | [] => []
  | x :: t => (txt (nmAt x d) ++ [UInt8.ofNat (kdAt x d)]) ++ (if kdAt x d = 3 then T (x :: t) else uv (t.length + 1) ++ lfsB (kdAt x d) (x :: t))
def treeB : Nat → Nat → List Lf → List UInt8
  | 0, _, _ => []
  | f + 1, d, ls => uv (grps (keyAt d) ls).length ++ ((grps (keyAt d) ls).map (gB (treeB f (d + 1)) d)).flatten
/-- A leaf whose path goes on behind a depth. -/
def LfG (d : Nat) (l : Lf) : Prop := d < l.p.length ∧ l.p.length ≤ 8 ∧ (∀ x ∈ l.p, x.size ≤ 40) ∧ l.v.size ≤ 200 ∧ (0 ≤ l.dr ∧ l.dr ≤ 8) ∧ 0 ≤ l.ds ∧ l.ds ≤ 1000000000
theorem txt_len (s : ByteArray) (n : Nat) (h : s.size ≤ n) (hn : n ≤ 1000000) : (txt s).length ≤ n + 10 := by
  have := uv_len10 s.size (by omega)
  unfold txt; rw [List.length_append, size_list]; omega
theorem nm_size {l : Lf} {d : Nat} (h : LfG d l) : (nmAt l d).size ≤ 40 := by
  unfold nmAt
  rw [List.getElem?_eq_getElem h.1]
  exact h.2.2.1 _ (List.getElem_mem h.1)
theorem lfB_len {l : Lf} {d : Nat} (k : Nat) (h : LfG d l) : (lfB k l).length ≤ 230 := by
  have h1 := uv_len10 l.dr.toNat (by have := h.2.2.2.2.1; omega)
  have h2 := uv_len10 l.ds.toNat (by have := h.2.2.2.2.2; omega)
  have h3 := txt_len l.v 200 h.2.2.2.1 (by omega)
  unfold lfB
  rw [List.length_append, List.length_append]
  split
  · omega
  · simp; omega
theorem lfsB_len (k : Nat) {d : Nat} : ∀ g : List Lf, (∀ l ∈ g, LfG d l) → (lfsB k g).length ≤ g.length * 230
  | [], _ => by simp [lfsB]
  | x :: g, h => by
    have h1 := lfB_len k (h x (by simp))
    have h2 := lfsB_len k g fun l hl => h l (List.mem_cons_of_mem _ hl)
    have e : lfsB k (x :: g) = lfB k x ++ lfsB k g := rfl
    rw [e, List.length_append, List.length_cons, Nat.succ_mul]; omega
theorem kd_deep {l : Lf} {d : Nat} (h : LfG d l) (hk : kdAt l d = 3) : LfG (d + 1) l := by
  unfold kdAt at hk
  split at hk
  · rename_i h1; exact ⟨h1, h.2⟩
  · split at hk <;> cases hk
theorem gB_len {d C : Nat} (T : List Lf → List UInt8) (g : List Lf) (hT : ∀ x t, g = x :: t → kdAt x d = 3 → (T g).length ≤ 10 + g.length * C) (hC : 230 ≤ C) (hg : ∀ l ∈ g, LfG d l) (hn : g.length ≤ 1000) : (gB T d g).length ≤ g.length * (C + 70) := by
  cases g with
  | nil => simp [gB]
  | cons x t =>
    have h1 := txt_len (nmAt x d) 40 (nm_size (hg x (by simp))) (by omega)
    have h2 := uv_len10 (t.length + 1) (by simp only [List.length_cons] at hn; omega)
    have h3 := lfsB_len (kdAt x d) (x :: t) hg
    rw [gB]
    rw [List.length_append, List.length_append, Nat.mul_add]
    have h4 : (t.length + 1) * 230 ≤ (t.length + 1) * C := Nat.mul_le_mul_left _ hC
    simp only [List.length_cons, List.length_nil] at *
    split
    · rename_i hk
      have := hT x t rfl hk
      omega
    · rw [List.length_append]; omega
theorem gBs_len {d C : Nat} (G : List Lf → List UInt8) : ∀ gs : List (List Lf), (∀ g ∈ gs, (G g).length ≤ g.length * C) → ((gs.map G).flatten).length ≤ gs.flatten.length * C
  | [], _ => by simp
  | g :: gs, h => by
    have h1 := h g (by simp)
    have h2 := gBs_len (d := d) G gs fun g' hg' => h g' (List.mem_cons_of_mem _ hg')
    simp only [List.map_cons, List.flatten_cons, List.length_append]
    rw [Nat.add_mul]; omega
theorem mem_len {α : Type} : ∀ (L : List (List α)) (g : List α), g ∈ L → g.length ≤ L.flatten.length
  | [], _, h => by cases h
  | x :: L, g, h => by
    rw [List.flatten_cons, List.length_append]
    rcases List.mem_cons.1 h with rfl | h
    · omega
    · have := mem_len L g h; omega
theorem grps_sub {α : Type} (k : α → ByteArray × Nat) (l : List α) : ∀ g ∈ grps k l, (∀ x ∈ g, x ∈ l) ∧ g.length ≤ l.length := fun g hg => by
  have e := grps_flat k l.length l (Nat.le_refl _)
  constructor
  · intro x hx
    rw [← e]
    exact List.mem_flatten.2 ⟨g, hg, hx⟩
  · have := mem_len (grps k l) g hg
    rw [e] at this
    exact this
theorem grps_count {α : Type} (k : α → ByteArray × Nat) : ∀ (n : Nat) (l : List α), l.length ≤ n → (grps k l).length ≤ l.length
  | _, [], _ => by rw [grps_nil]; exact Nat.le_refl _
  | 0, x :: l, h => by simp at h
  | n + 1, x :: l, h => by
    have hd := dw_le (fun y => decide (k y = k x)) l
    rw [grps_cons, List.length_cons, List.length_cons]
    have := grps_count k n _ (show (l.dropWhile (fun y => decide (k y = k x))).length ≤ n by simp only [List.length_cons] at h; omega)
    omega
theorem treeB_len : ∀ (f d : Nat) (ls : List Lf), (∀ l ∈ ls, LfG d l) → ls.length ≤ 1000 → (treeB f d ls).length ≤ 10 + ls.length * (70 * f + 230)
  | 0, d, ls, _, _ => by simp [treeB]
  | f + 1, d, ls, h, hn => by
    have h1 := uv_len10 (grps (keyAt d) ls).length (by have := grps_count (keyAt d) ls.length ls (Nat.le_refl _); omega)
    have h2 := gBs_len (d := d) (C := 70 * f + 230 + 70) (gB (treeB f (d + 1)) d) (grps (keyAt d) ls) (fun g hg => by
      obtain ⟨hs, hl⟩ := grps_sub (keyAt d) ls g hg
      refine gB_len _ g (fun x t hx hk => ?_) (by omega) (fun l hl => h l (hs l hl)) (by omega)
      refine treeB_len f (d + 1) g (fun l hl => ?_) (by omega)
      obtain ⟨x', t', hx', hall⟩ := grps_ne (keyAt d) ls.length ls (Nat.le_refl _) g hg
      have hxx : x' = x := by rw [hx] at hx'; exact (List.cons.inj hx').1.symm
      subst hxx
      exact kd_deep (h l (hs l hl)) (by have := congrArg Prod.snd (hall l hl); exact this.trans hk))
    rw [grps_flat (keyAt d) ls.length ls (Nat.le_refl _)] at h2
    rw [treeB, List.length_append]
    have e : 70 * (f + 1) + 230 = 70 * f + 230 + 70 := by omega
    rw [e]; omega
end Go.Proofs.Ytbcgbkeldcaalaa
