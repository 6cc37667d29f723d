/- PutState: the program's groups of leaves. PutState: the program's tree of bytes. PutState: the program's tree of bytes, at every depth. -/
import Derived.Test.YtkafflbakgkpcaaGreatYa
import Derived.Test.YtkafflbakgkpcaaGreatP2
import Derived.Test.YtkafflbakgkpcaaGreatL1
import Derived.Deep.RegionLaw
namespace Go.Proofs.YtkafflbakgkpcaaGreat
set_option linter.unusedSimpArgs false
set_option linter.unusedVariables false
open Go.RowKit Go.Ow
attribute [local irreducible] wpQuiet
set_option maxRecDepth 100000
instance : Ty Sv := ⟨31⟩
instance : ElZ Tryz.prog Sv := { bytes := 24, info := El.of (by kernel_rfl), zero := ⟨none, 0, 0⟩, infoz := ElZ.of (by kernel_rfl) }
instance : ElZ Tryz.prog Pf := { bytes := 64, info := El.of (by kernel_rfl), zero := ⟨⟨none, 0, 0⟩, lf0⟩, infoz := ElZ.of (by kernel_rfl) }
/-- Rows told one by one. -/
def gown (svs : List Sv) (gs : List (List Pf)) : List Ds := (svs.zip gs).map fun p => .own p.1.v p.2
theorem gown_snoc (svs : List Sv) (gs : List (List Pf)) (s : Sv) (g : List Pf) (h : svs.length = gs.length) : gown (svs ++ [s]) (gs ++ [g]) = gown svs gs ++ [.own s.v g] := by
  unfold gown
  rw [List.zip_append h]
  simp
theorem perm_in {a b : Ds} {X Y : List Ds} : (a :: b :: (X ++ Y)).Perm (b :: ((X ++ [a]) ++ Y)) := by
  rw [List.append_assoc, List.singleton_append]
  exact (List.Perm.swap b a _).trans (List.perm_middle.symm.cons b)
/-- The last row, taken out. -/
theorem Own.glast {W w : World} {R : List Ds} {v : Value} {svs : List Sv} {gs : List (List Pf)} {s : Sv} {g : List Pf} (hl : svs.length = gs.length) (h : Own W (.own v (svs ++ [s]) :: (gown (svs ++ [s]) (gs ++ [g]) ++ R)) w) : Own W (.own s.v g :: .own v (svs ++ [s]) :: (gown svs gs ++ R)) w := by
  rw [gown_snoc svs gs s g hl] at h
  exact h.perm perm_in.symm
theorem Own.gback {W w : World} {R : List Ds} {v : Value} {svs : List Sv} {gs : List (List Pf)} {s : Sv} {g : List Pf} (hl : svs.length = gs.length) (h : Own W (.own s.v g :: .own v (svs ++ [s]) :: (gown svs gs ++ R)) w) : Own W (.own v (svs ++ [s]) :: (gown (svs ++ [s]) (gs ++ [g]) ++ R)) w := by
  rw [gown_snoc svs gs s g hl]
  exact h.perm perm_in
theorem Own.mem {W w : World} {R : List Ds} {r : Ds} (h : Own W R w) (hr : r ∈ R) : ∃ f, r.P w f := by
  obtain ⟨i, hi, rfl⟩ := List.getElem_of_mem hr
  obtain ⟨_, fp, ⟨f, g, _, hp, _⟩, _⟩ := h.pick i (List.getElem?_eq_getElem hi)
  exact ⟨f, hp⟩
theorem Own.rdm {α : Type} [Cd α] [Ty α] {W w : World} {R : List Ds} {v : Value} {xs : List α} (h : Own W R w) (hr : Ds.own v xs ∈ R) : Rd w v xs := by
  obtain ⟨f, hf⟩ := Own.mem h hr
  exact Dp.rd hf
theorem gown_mem (svs : List Sv) (gs : List (List Pf)) (h : svs.length = gs.length) (i : Nat) (hi : i < gs.length) : Ds.own (svs[i]'(by omega)).v gs[i] ∈ gown svs gs := by
  unfold gown
  refine List.mem_map.2 ⟨(svs[i]'(by omega), gs[i]), ?_, rfl⟩
  rw [List.mem_iff_getElem]
  exact ⟨i, by simp; omega, by simp⟩
theorem Sv.row {W w : World} {R : List Ds} {g n cap : Nat} {xs : List Sv} (h : Own W (.own (.slice (some ⟨g, 0, none⟩) n cap) xs :: R) w) (i : Nat) (hi : i < xs.length) : w.cell? ⟨g, i, none⟩ = some xs[i].v ∧ ∀ j, w.frozen? ⟨g, j, none⟩ = false := by
  have := h.rowc.1 i hi 0 (by decide)
  have e : i * Cd.z Sv + 0 = i := by show i * 1 + 0 = _; omega
  rw [e] at this
  exact ⟨this, h.rowc.2⟩
theorem Sv.put {W w : World} {R : List Ds} {g n cap : Nat} {xs : List Sv} (h : Own W (.own (.slice (some ⟨g, 0, none⟩) n cap) xs :: R) w) (i : Nat) (hi : i < xs.length) (x : Sv) : Own W (.own (.slice (some ⟨g, 0, none⟩) n cap) (xs.set i x) :: R) (w.setCell ⟨g, i, none⟩ x.v) := by
  have := h.put i hi 0 (by decide) x.v x rfl
  have e : i * Cd.z Sv + 0 = i := by show i * 1 + 0 = _; omega
  rw [e] at this
  exact this
def keyZ (d : Nat) (z : Pf) : ByteArray × Nat := keyAt d z.l
theorem last_take {α : Type} (zs : List α) (k : Nat) (h0 : 0 < k) (hk : k ≤ zs.length) : (zs.take k).getLast? = some (zs[k - 1]'(by omega)) := by
  rw [List.getLast?_eq_getElem?, List.length_take, List.getElem?_take_of_lt (by omega), List.getElem?_eq_getElem (by omega)]
  congr 2; omega
theorem grpZ_more (d : Nat) (zs : List Pf) (k : Nat) (h0 : 0 < k) (hk : k < zs.length) (hq : keyAt d zs[k].l = keyAt d (zs[k - 1]'(by omega)).l) :
    ∃ gs g, grps (keyZ d) (zs.take k) = gs ++ [g] ∧ grps (keyZ d) (zs.take (k + 1)) = gs ++ [g ++ [zs[k]]] := by
  have := grps_more (keyZ d) zs[k] (zs.take k).length (zs.take k) _ (Nat.le_refl _) (last_take zs k h0 (by omega)) hq
  rw [List.take_succ_eq_append_getElem hk]
  exact this
theorem grpZ_new (d : Nat) (zs : List Pf) (k : Nat) (hk : k < zs.length) (hq : ∀ h : 0 < k, keyAt d zs[k].l ≠ keyAt d (zs[k - 1]'(by omega)).l) : grps (keyZ d) (zs.take (k + 1)) = grps (keyZ d) (zs.take k) ++ [[zs[k]]] := by
  have := grps_new (keyZ d) zs[k] (zs.take k).length (zs.take k) (Nat.le_refl _) (fun a ha => by
    rcases Nat.eq_zero_or_pos k with h0 | h0
    · subst h0; simp at ha
    · rw [last_take zs k h0 (by omega)] at ha
      cases ha
      exact hq h0)
  rw [List.take_succ_eq_append_getElem hk]
  exact this
theorem grpZ_len (d : Nat) (zs : List Pf) (k : Nat) : (grps (keyZ d) (zs.take k)).length ≤ k := by
  have := grps_count (keyZ d) (zs.take k).length (zs.take k) (Nat.le_refl _)
  rw [List.length_take] at this
  omega
theorem snoc_len {α : Type} (l : List α) (n : Nat) (h : l.length = n + 1) : ∃ a x, l = a ++ [x] ∧ a.length = n := by
  refine ⟨l.take n, l[n]'(by omega), ?_, by simp; omega⟩
  rw [← List.take_succ_eq_append_getElem (by omega), List.take_of_length_le (by omega)]
def kdN (n : Nat) (fl : Bool) (d : Nat) : Nat := if d + 1 < n then 3 else if fl = true then 2 else 1
theorem kdN_is (x : Lf) (d : Nat) : kdAt x d = kdN x.p.length x.fl d := rfl
theorem Sv.rd {w : World} {b o n c : Nat} {xs : List Sv} (h : Rd w (.slice (some ⟨b, o, none⟩) n c) xs) (i : Nat) (hi : i < xs.length) : w.cell? ⟨b, o + i, none⟩ = some xs[i].v := by
  have := h.get i hi 0 (by decide)
  have e : o + i * Cd.z Sv + 0 = o + i := by show o + i * 1 + 0 = _; omega
  rw [e] at this
  exact this
theorem perm_out {a b : Ds} {X R : List Ds} : (a :: (X ++ (b :: R))).Perm (b :: a :: (X ++ R)) := ((List.perm_middle).cons a).trans (.swap _ _ _)
def gZ (T : List Lf → List UInt8) (d : Nat) (g : List Pf) : List UInt8 := gB T d (g.map (·.l))
theorem gZs (T : List Lf → List UInt8) (d : Nat) (zs : List Pf) : ((grps (keyZ d) zs).map (gZ T d)).flatten = ((grps (keyAt d) (zs.map (·.l))).map (gB T d)).flatten := by
  rw [grps_map (fun z : Pf => z.l) (keyAt d) zs.length zs (Nat.le_refl _), List.map_map]
  rfl
theorem gZs_len (d : Nat) (zs : List Pf) : (grps (keyAt d) (zs.map (·.l))).length = (grps (keyZ d) zs).length := by
  rw [grps_map (fun z : Pf => z.l) (keyAt d) zs.length zs (Nat.le_refl _), List.length_map]
  rfl
end Go.Proofs.YtkafflbakgkpcaaGreat
namespace Go.Proofs.YtkafflbakgkpcaaGreat
set_option linter.unusedSimpArgs false
set_option linter.unusedVariables false
open Go.RowKit Go.Ow
attribute [local irreducible] wpQuiet
set_option maxRecDepth 100000
end Go.Proofs.YtkafflbakgkpcaaGreat
namespace Go.Proofs.YtkafflbakgkpcaaGreat
set_option linter.unusedSimpArgs false
set_option linter.unusedVariables false
open Go.RowKit Go.Ow
attribute [local irreducible] wpQuiet
set_option maxRecDepth 100000
end Go.Proofs.YtkafflbakgkpcaaGreat
