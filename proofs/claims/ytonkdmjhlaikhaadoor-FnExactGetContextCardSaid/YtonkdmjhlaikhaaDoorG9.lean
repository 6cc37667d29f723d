/- GetContext: both readers read the same. -/
import Derived.Test.YtonkdmjhlaikhaaDoorG6
import Derived.Test.YtonkdmjhlaikhaaDoorG8
namespace Go.Proofs.YtonkdmjhlaikhaaDoor
set_option linter.unusedSimpArgs false
set_option linter.unusedVariables false
open Go.RowKit Go.Ow
theorem spP_S (bs : List UInt8) (r : Nat) : ∀ (n : Nat) (last : Int) (p cnt : Nat) (l : List Sp) (q : Nat), spP bs n last p cnt = some (l, q) → spS bs n r last p = some (runsG r l, q)
  | 0, last, p, cnt, l, q, h => by
    rw [spP] at h; cases h; rfl
  | n + 1, last, p, cnt, l, q, h => by
    rw [spP] at h
    obtain ⟨⟨a, p1⟩, ha, h⟩ := Option.bind_eq_some_iff.1 h
    obtain ⟨⟨b, p2⟩, hb, h⟩ := Option.bind_eq_some_iff.1 h
    simp only at h hb
    split at h
    · cases h
    · obtain ⟨⟨c, q'⟩, hcc, e⟩ := Option.map_eq_some_iff.1 h
      cases e
      rw [spS, ha, Option.bind_some]
      simp only
      rw [hb, Option.bind_some]
      simp only
      rw [spP_S bs r n _ p2 (cnt + 1) c q' hcc]
      rfl
theorem cxP_S (bs : List UInt8) : ∀ (n : Nat) (before : Int) (p cnt : Nat) (G : List (Nat × List Sp)) (q : Nat), cxP bs n before p cnt = some (G, q) → cxS bs n p = some (runsOf G, q)
  | 0, _, p, cnt, G, q, h => by
    rw [cxP] at h; cases h; rfl
  | n + 1, before, p, cnt, G, q, h => by
    rw [cxP] at h
    obtain ⟨⟨a, p1⟩, ha, h⟩ := Option.bind_eq_some_iff.1 h
    obtain ⟨⟨m, p2⟩, hm, h⟩ := Option.bind_eq_some_iff.1 h
    obtain ⟨⟨l, p3⟩, hl, h⟩ := Option.bind_eq_some_iff.1 h
    obtain ⟨⟨c, q'⟩, hcc, e⟩ := Option.map_eq_some_iff.1 h
    cases e
    simp only at hm hl hcc
    rw [cxS, rdP_le ha (Nat.zero_le _) (by omega : 7 ≤ 8), Option.bind_some]
    simp only
    rw [rdP_le hm (Nat.zero_le _) (Nat.le_refl _), Option.bind_some]
    simp only
    rw [spP_S bs a m (-1) p2 cnt l p3 hl, Option.bind_some]
    simp only
    rw [cxP_S bs n a p3 (cnt + m) c q' hcc]
    rfl
theorem ctxI_S {bs : List UInt8} {p : Nat} {xs : List Rn} {q : Nat} (h : ctxI bs p = some (xs, q)) : ctxS bs p = some (xs, q) := by
  unfold ctxI at h
  obtain ⟨⟨n, p1⟩, hn, h⟩ := Option.bind_eq_some_iff.1 h
  obtain ⟨⟨G, q'⟩, hc, e⟩ := Option.map_eq_some_iff.1 h
  cases e
  unfold ctxS
  rw [hn, Option.bind_some]
  exact cxP_S bs n (-1) p1 0 G q' hc
theorem spS_at (bs : List UInt8) (r : Nat) : ∀ (n : Nat) (last : Int) (p : Nat) (l : List Rn) (q : Nat), p ≤ bs.length → spS bs n r last p = some (l, q) → p ≤ q ∧ q ≤ bs.length
  | 0, last, p, l, q, hp, h => by
    rw [spS] at h; cases h; exact ⟨Nat.le_refl _, hp⟩
  | n + 1, last, p, l, q, hp, h => by
    rw [spS] at h
    obtain ⟨⟨a, p1⟩, ha, h⟩ := Option.bind_eq_some_iff.1 h
    obtain ⟨⟨b, p2⟩, hb, h⟩ := Option.bind_eq_some_iff.1 h
    obtain ⟨⟨c, q'⟩, hcc, e⟩ := Option.map_eq_some_iff.1 h
    cases e
    simp only at hb hcc
    obtain ⟨_, _, a3, a4, _⟩ := (rdP_iff bs p 0 _ a p1 hp (by omega)).1 ha
    obtain ⟨_, _, b3, b4, _⟩ := (rdP_iff bs p1 0 _ b p2 a3 (by omega)).1 hb
    have := spS_at bs r n _ p2 c q' b3 hcc
    omega
theorem cxS_at (bs : List UInt8) : ∀ (n p : Nat) (l : List Rn) (q : Nat), p ≤ bs.length → cxS bs n p = some (l, q) → p ≤ q ∧ q ≤ bs.length
  | 0, p, l, q, hp, h => by
    rw [cxS] at h; cases h; exact ⟨Nat.le_refl _, hp⟩
  | n + 1, p, l, q, hp, h => by
    rw [cxS] at h
    obtain ⟨⟨a, p1⟩, ha, h⟩ := Option.bind_eq_some_iff.1 h
    obtain ⟨⟨m, p2⟩, hm, h⟩ := Option.bind_eq_some_iff.1 h
    obtain ⟨⟨s, p3⟩, hs, h⟩ := Option.bind_eq_some_iff.1 h
    obtain ⟨⟨c, q'⟩, hcc, e⟩ := Option.map_eq_some_iff.1 h
    cases e
    simp only at hm hs hcc
    obtain ⟨_, _, a3, a4, _⟩ := (rdP_iff bs p 0 _ a p1 hp (by omega)).1 ha
    obtain ⟨_, _, m3, m4, _⟩ := (rdP_iff bs p1 0 _ m p2 a3 (by omega)).1 hm
    have h1 := spS_at bs a m _ p2 s p3 m3 hs
    have h2 := cxS_at bs n p3 c q' h1.2 hcc
    omega
theorem ctxS_at {bs : List UInt8} {p : Nat} {xs : List Rn} {q : Nat} (hp : p ≤ bs.length) (h : ctxS bs p = some (xs, q)) : p ≤ q ∧ q ≤ bs.length := by
  unfold ctxS at h
  obtain ⟨⟨n, p1⟩, hn, h⟩ := Option.bind_eq_some_iff.1 h
  obtain ⟨_, _, n3, n4, _⟩ := (rdP_iff bs p 0 _ n p1 hp (by omega)).1 hn
  have := cxS_at bs n p1 xs q n3 h
  omega
theorem take_drop_at {bs b : List UInt8} {p q : Nat} (h : bs.drop p = b ++ bs.drop q) (hp : p ≤ q) (hq : q ≤ bs.length) : (bs.drop p).take (q - p) = b := by
  have hl := congrArg List.length h
  rw [List.length_drop, List.length_append, List.length_drop] at hl
  rw [h, show q - p = b.length by omega, List.take_left]
/-- What the reference makes of what it read. -/
def ctxW (bs : List UInt8) (p : Nat) : Option (List Rn × Nat) → Option (List Rn × Nat)
  | none => none
  | some (xs, q) => if ctxOk xs = true ∧ ctxBytes xs = (bs.drop p).take (q - p) then some (xs, q) else none
theorem ctx_both (bs : List UInt8) (p : Nat) (hp : p ≤ bs.length) : ctxI bs p = ctxW bs p (ctxS bs p) := by
  cases h : ctxI bs p with
  | some xq =>
    obtain ⟨xs, q⟩ := xq
    obtain ⟨h1, h2, h3, h4⟩ := (ctxI_iff bs p xs q hp).1 h
    rw [ctxI_S h, ctxW, if_pos ⟨h1, (take_drop_at h4 h3 h2).symm⟩]
  | none =>
    cases hs : ctxS bs p with
    | none => rfl
    | some xq =>
      obtain ⟨xs, q⟩ := xq
      obtain ⟨h2, h3⟩ := ctxS_at hp hs
      rw [ctxW]
      split
      · rename_i hc
        have := (ctxI_iff bs p xs q hp).2 ⟨hc.1, h3, h2, by
          rw [hc.2]
          conv => lhs; rw [← List.take_append_drop (q - p) (bs.drop p)]
          rw [List.drop_drop, show p + (q - p) = q by omega]⟩
        rw [h] at this; cases this
      · rfl
end Go.Proofs.YtonkdmjhlaikhaaDoor
