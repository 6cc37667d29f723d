/- FnExactPutUvarint of the seat: the plain statement behind the row: both varint writers give the same bytes, and marking them is seen by nobody else. No condition. -/
import Derived.Test.YtedkhkfhheomdaaPFnExactPutUvarintx1
namespace Go.Proofs.Ytedkhkfhheomdaa.Pure
open Go.RowKit Go.Proofs.Ytedkhkfhheomdaa.PFnExactPutUvarint Go.Proofs.YtedkhkfhheomdaaW.PrintWords Go.Proofs.YtedkhkfhheomdaaW.PrintLast

theorem wrap_up {i : Int} {n : Nat} (h0 : 0 ≤ i) (h : i < (n : Int)) (hn : n ≤ 140737488355328) : wrap64 (i + 1) = i + 1 := by
  unfold wrap64; omega

theorem eq_self (l : List Int) (hn : l.length ≤ 140737488355328) (d : Nat) : ∀ (k : Nat) (i : Int), 0 ≤ i → (l.length : Int) - i = d → d < k →
    laws_eqByteS.l0 k l l i = some true := by
  induction d with
  | zero =>
    intro k i h0 hd hk
    obtain ⟨k, rfl⟩ : ∃ m, k = m + 1 := ⟨k - 1, by omega⟩
    simp only [laws_eqByteS.l0]; rw [if_neg (by omega)]
  | succ d ih =>
    intro k i h0 hd hk
    obtain ⟨k, rfl⟩ : ∃ m, k = m + 1 := ⟨k - 1, by omega⟩
    simp only [laws_eqByteS.l0]; rw [if_pos (by omega), if_pos h0, if_pos (by omega), if_pos trivial, wrap_up h0 (by omega) hn]
    exact ih k (i + 1) (by omega) (by omega) (by omega)

theorem eq_f (l : List Int) (hn : l.length ≤ 140737488355328) (k : Nat) (hk : l.length < k) : laws_eqByteS.f k l l = some true := by
  unfold laws_eqByteS.f; rw [if_pos rfl]; exact eq_self l hn l.length k 0 (by omega) (by omega) hk

/-- The bytes of a number, at most fuel + 1 of them. -/
def enc : Nat → Int → List Int
  | 0, v => [v % 256]
  | n + 1, v => if v < 128 then [v] else (128 + v % 128) :: enc n (v / 128)

theorem or128 (x : Int) (h0 : 0 ≤ x) (h : x < 256) : Go.bits .or .u8 x 128 = 128 + x % 128 := by
  have : ∀ m : Fin 256, Go.bits .or .u8 (m.val : Int) 128 = 128 + (m.val : Int) % 128 := by decide +kernel
  have e := this ⟨x.toNat, by omega⟩
  simp only [] at e
  rwa [show ((x.toNat : Nat) : Int) = x by omega] at e

theorem len_enc (n : Nat) : ∀ v, (enc n v).length ≤ n + 1 := by
  induction n with
  | zero => intro v; simp [enc]
  | succ n ih => intro v; unfold enc; split
                 · simp
                 · have := ih (v / 128); simp; omega

theorem wrap_u64 (n : Int) (h0 : 0 ≤ n) (h : n < 18446744073709551616) : IntKind.u64.wrap n = n := by
  simp only [IntKind.wrap, IntKind.bits, IntKind.signed]
  simp; omega

theorem spec_enc (n : Nat) : ∀ (k : Nat) (v : Int), 0 ≤ v → v < 18446744073709551616 → v < 128 ^ (n + 1) → n < k → n ≤ 100 → spec_PutUvarint.f k v = some (enc n v) := by
  induction n with
  | zero =>
    intro k v h0 h64 h hk _
    obtain ⟨k, rfl⟩ : ∃ m, k = m + 1 := ⟨k - 1, by omega⟩
    simp only [spec_PutUvarint.f]; rw [if_pos (by omega)]; rfl
  | succ n ih =>
    intro k v h0 h64 h hk hn
    obtain ⟨k, rfl⟩ : ∃ m, k = m + 1 := ⟨k - 1, by omega⟩
    simp only [spec_PutUvarint.f, enc]
    by_cases c : v < 128
    · rw [if_pos c, if_pos c, Int.emod_eq_of_lt h0 (by omega)]
    · rw [if_neg c, if_neg c]
      simp only [Option.bind_some]
      rw [Int.tdiv_eq_ediv_of_nonneg h0, Int.tmod_eq_emod_of_nonneg h0, wrap_u64 (v / 128) (by omega) (by omega), wrap_u64 (128 + v % 128) (by omega) (by omega),
        ih k (v / 128) (by omega) (by omega) (by rw [Int.pow_succ] at h; omega) (by omega) (by omega)]
      simp only [Option.bind_some]
      have hl := len_enc n (v / 128)
      rw [if_pos (by simp only [List.length_cons, List.length_nil]; omega), Int.emod_eq_of_lt (by omega) (by omega)]
      rfl

theorem impl_enc (n : Nat) : ∀ (k : Nat) (v : Int) (out : List Int), 0 ≤ v → v < 18446744073709551616 → v < 128 ^ (n + 1) → n < k → out.length + n ≤ 1000 →
    impl_PutUvarint.l0 k v out = some (out ++ enc n v) := by
  induction n with
  | zero =>
    intro k v out h0 h64 h hk ho
    obtain ⟨k, rfl⟩ : ∃ m, k = m + 1 := ⟨k - 1, by omega⟩
    simp only [impl_PutUvarint.l0]; rw [if_neg (by omega), if_pos (by omega)]; rfl
  | succ n ih =>
    intro k v out h0 h64 h hk ho
    obtain ⟨k, rfl⟩ : ∃ m, k = m + 1 := ⟨k - 1, by omega⟩
    simp only [impl_PutUvarint.l0, enc]
    by_cases c : v < 128
    · rw [if_neg (by omega), if_pos (by omega), if_pos c, Int.emod_eq_of_lt h0 (by omega)]
    · rw [if_pos (by omega), if_pos (by omega), if_neg c, or128 _ (by omega) (by omega), Int.emod_emod_of_dvd v (by decide : (128 : Int) ∣ 256),
        ih k (v / 128) _ (by omega) (by omega) (by rw [Int.pow_succ] at h; omega) (by omega) (by simp only [List.length_append, List.length_cons, List.length_nil]; omega)]
      simp

/-- What mark writes from place i on. -/
def marks : Nat → Int → List Int
  | 0, _ => []
  | n + 1, a => a % 256 :: marks n (a + 1)
theorem marks_len (n : Nat) : ∀ a, (marks n a).length = n := by induction n with
  | zero => intro a; rfl
  | succ n ih => intro a; simp [marks, ih]

theorem mark_loop (d : Nat) : ∀ (k i : Nat) (pre l : List Int) (a : Int), pre.length = i → l.length = d → i + d ≤ 100000 → 0 ≤ a → a ≤ 1000000000 - d → d < k →
    laws_markByteS.l0 k (pre ++ l) a (i : Int) = some (a + d, pre ++ marks d a) := by
  induction d with
  | zero =>
    intro k i pre l a hp hl _ _ _ hk
    obtain ⟨k, rfl⟩ : ∃ m, k = m + 1 := ⟨k - 1, by omega⟩
    obtain rfl : l = [] := List.eq_nil_of_length_eq_zero hl
    simp only [laws_markByteS.l0]; rw [if_neg (by simp; omega)]; simp [marks]
  | succ d ih =>
    intro k i pre l a hp hl hb h0 h1 hk
    obtain ⟨k, rfl⟩ : ∃ m, k = m + 1 := ⟨k - 1, by omega⟩
    obtain ⟨x, l, rfl⟩ : ∃ x m, l = x :: m := by cases l with
      | nil => cases hl
      | cons x m => exact ⟨x, m, rfl⟩
    simp only [laws_markByteS.l0]
    rw [if_pos (by simp; omega), if_pos (by omega), show wrap64 (a + 1) = a + 1 by unfold wrap64; omega, show wrap64 ((i : Int) + 1) = ((i + 1 : Nat) : Int) by unfold wrap64; omega]
    have e : (pre ++ x :: l).set ((i : Int)).toNat (a % 256) = (pre ++ [a % 256]) ++ l := by
      rw [List.set_append_right _ _ (by simp; omega), show ((i : Int)).toNat - pre.length = 0 by omega, List.set_cons_zero, List.append_assoc]; rfl
    rw [e, ih k (i + 1) (pre ++ [a % 256]) l (a + 1) (by simp [hp]) (by simpa using hl) (by omega) (by omega) (by omega) (by omega)]
    simp only [marks, List.append_assoc, List.cons_append, List.nil_append]
    congr 2
    omega

theorem held_loop (d : Nat) : ∀ (k i : Nat) (pre : List Int) (a : Int), pre.length = i → i + d ≤ 100000 → 0 ≤ a → a ≤ 1000000000 - d → d < k →
    laws_heldByteS.l0 k (pre ++ marks d a) a (i : Int) = some (a + d) := by
  induction d with
  | zero =>
    intro k i pre a hp _ _ _ hk
    obtain ⟨k, rfl⟩ : ∃ m, k = m + 1 := ⟨k - 1, by omega⟩
    rw [show marks 0 a = [] from rfl, List.append_nil]; simp only [laws_heldByteS.l0]; rw [if_neg (by omega)]; simp
  | succ d ih =>
    intro k i pre a hp hb h0 h1 hk
    obtain ⟨k, rfl⟩ : ∃ m, k = m + 1 := ⟨k - 1, by omega⟩
    rw [show marks (d + 1) a = a % 256 :: marks d (a + 1) from rfl]
    simp only [laws_heldByteS.l0]
    have hr : rd (pre ++ a % 256 :: marks d (a + 1)) (i : Int) = a % 256 := by
      unfold rd; rw [show ((i : Int)).toNat = pre.length by omega]; simp
    rw [if_pos (by simp; omega), if_pos (by omega), hr, if_pos rfl, show wrap64 (a + 1) = a + 1 by unfold wrap64; omega, show wrap64 ((i : Int) + 1) = ((i + 1 : Nat) : Int) by unfold wrap64; omega]
    have := ih k (i + 1) (pre ++ [a % 256]) (a + 1) (by simp [hp]) (by omega) (by omega) (by omega) (by omega)
    rw [List.append_assoc] at this
    rw [show pre ++ a % 256 :: marks d (a + 1) = pre ++ ([a % 256] ++ marks d (a + 1)) from rfl, this]
    congr 1
    omega

theorem FnExactPutUvarint : laws_FnExactPutUvarint.Pure := by
  intro v hv
  have hb : 0 ≤ v ∧ v < 18446744073709551616 := by
    have h := hv; simp only [Lit.wf, IntKind.min, IntKind.max, IntKind.bits, IntKind.signed] at h; simp at h; omega
  refine ⟨100, ?_⟩
  have h1 := spec_enc 9 100 v hb.1 hb.2 (by omega) (by omega) (by omega)
  have h2 : impl_PutUvarint.f 100 v = some (enc 9 v) := impl_enc 9 100 v [] hb.1 hb.2 (by omega) (by omega) (by simp)
  have hl := len_enc 9 v
  generalize enc 9 v = l at *
  have he := eq_f l (by omega) 100 (by omega)
  have hm : laws_markByteS.f 100 l 1 = some (1 + (l.length : Int), marks l.length 1) := mark_loop l.length 100 0 [] l 1 rfl rfl (by omega) (by omega) (by omega) (by omega)
  have hh : laws_heldByteS.f 100 (marks l.length 1) 1 = some (1 + (l.length : Int)) := held_loop l.length 100 0 [] 1 rfl (by omega) (by omega) (by omega) (by omega)
  unfold laws_FnExactPutUvarint.f
  rw [h1]; simp only [Option.bind_some]; rw [h2]; simp only [Option.bind_some]; rw [he]; simp only [Option.bind_some, if_true]
  rw [hm]; simp only [Option.bind_some]; rw [hh]; simp only [Option.bind_some]
  rw [if_neg (by omega)]; simp only [if_true]

end Go.Proofs.Ytedkhkfhheomdaa.Pure
