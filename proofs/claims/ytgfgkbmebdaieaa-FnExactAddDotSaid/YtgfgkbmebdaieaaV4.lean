/- A live context put into another one: the program's add. -/
import Derived.Test.YtgfgkbmebdaieaaV3
import Derived.Test.YtgfgkbmebdaieaaMi
/-FM-/
namespace Go.Proofs.Ytgfgkbmebdaieaa
set_option linter.unusedSimpArgs false
set_option linter.unusedVariables false
open Go.RowKit Go.Ow Go.MapKept
attribute [local irreducible] wpQuiet
set_option maxRecDepth 100000
set_option maxHeartbeats 2000000 in
theorem addCloud {W0 : World} {R : List Ds} (g h : List (Int × List Sp)) (es : Array MapEntry) (clock b1 b2 : Nat) (w : World) (HS : Own W0 (.mapf es clock b2 h :: .map none b1 g :: R) w)
    (hg : ∀ k, Ns (mget g k) ∧ (mget g k).length ≤ 1048576) (hh : ∀ k, Ns (mget h k) ∧ (mget h k).length ≤ 1048576) (hne : ∀ k, mhas h k = true → mget h k ≠ []) (hno : ∀ k, mhas h k = false → mget h k = []) :
    Calls Try.prog 66 #[.map (some b1), .map (some b2)] w fun e w' => e = .returned (.tuple #[]) ∧ ∃ g', Own W0 (.mapf es clock b2 h :: .map none b1 g' :: R) w' ∧ (∀ k, Ns (mget g' k) ∧ (∀ q, SpIn (mget g' k) q ↔ SpIn (mget g k) q ∨ SpIn (mget h k) q) ∧ (mget g' k).length ≤ (mget g k).length + (mget h k).length) := by
  have HG := Lib.hid hg
  have HH := Lib.hid hh
  have HNE := Lib.hid hne
  have HNO := Lib.hid hno
  clear hg hh hne hno
  have HST := Lib.hid HS.ents.2.2.1
  have HL0 := Lib.hid (lft_start HS)
  go_enter Try.func66, Try.ntmps66
  go_wp2_with (refine wp_range rfl _ rfl Try.underlying84 HS rfl ?_; intro w1 HI)
  obtain ⟨r, hr⟩ : ∃ r, w.heap.size = r := ⟨_, rfl⟩
  rw [hr] at HI ⊢
  clear hr HS
  go_frame
  go_loopw [8] (fun _ wr => ∃ (seen : Array Nat) (g' : List (Int × List Sp)), Own W0 (.iter r b2 clock seen :: .mapf es clock b2 h :: .map none b1 g' :: R) wr ∧ (∀ k, (lft es seen k → mhas h k = true ∧ mget g' k = mget g k) ∧ (¬ lft es seen k → Ns (mget g' k) ∧ (∀ q, SpIn (mget g' k) q ↔ SpIn (mget g k) q ∨ SpIn (mget h k) q) ∧ (mget g' k).length ≤ (mget g k).length + (mget h k).length))) (fun _ wr => rleft es r wr)
  case atStart =>
    refine ⟨#[], g, HI, fun k => ⟨fun hl => ⟨(HL0.out k).1 hl, rfl⟩, fun hl => ⟨(HG.out k).1, fun q => ?_, by omega⟩⟩⟩
    have : mget h k = [] := HNO.out k (by
      cases hm : mhas h k
      · rfl
      · exact absurd ((HL0.out k).2 hm) hl)
    rw [this]
    have := spIn_nil q
    exact ⟨.inl, fun h => h.elim id (fun h => absurd h this)⟩
  case round =>
    obtain ⟨seen, g', HI', hinv⟩ := hrel
    have HV := Lib.hid hinv
    clear hinv HI
    go_wp2_with (refine wp_next rfl _ rfl HI' rfl ?_ ?_)
    · intro hd
      have HD := Lib.hid hd
      clear hd
      go_wp2
      go_end0
      exact ⟨rfl, g', HI'.drop, fun k => (HV.out k).2 (HD.out k)⟩
    · intro k v x w' hm hl hj hlt HI2 hrv hen
      have HM := Lib.hid hm
      have HLF := Lib.hid hl
      have HJ := Lib.hid hj
      have HLT := Lib.hid hlt
      have hmg := ((HV.out k).1 hl).2
      clear hm hl hj hlt
      obtain ⟨A5, c5, rfl, _, _⟩ := hrv.val
      have HB := HI2.pick 2 rfl
      simp only [List.eraseIdx_cons_succ, List.eraseIdx_cons_zero] at HB
      go_wp2_with (refine wp_look rfl _ _ false (by rfl) Try.underlying84 Try.underlying3 zeroSpans HB rfl k rfl ?_; intro v3 HS3; rw [hmg] at HS3; obtain ⟨A3, c3, rfl, _, hl3⟩ := (HS3.rd 0 rfl).val)
      refine (mergedSp (mget g k) (mget h k) _ _ _ (HS3.rd 0 rfl) hrv (HG.out k).1 (HH.out k).1 (HNE.out k HM.out) (by have := (HG.out k).2; have := (HH.out k).2; omega)).mono ?_
      rintro e w5 ⟨v5, out, rfl, hs, n1, n2, n3⟩
      have H5 := ((HS3.call1 hs).pick 1 rfl).drop
      simp only [List.eraseIdx_cons_succ, List.eraseIdx_cons_zero] at H5
      have HN := Lib.hid (And.intro n1 (And.intro n2 n3))
      clear n1 n2 n3 hs HS3 HB hmg hen HI2
      go_wp2_with (refine wp_mput rfl _ _ _ rfl Try.underlying84 Try.underlying3 H5 rfl rfl rfl ?_; intro w6 HS6)
      have HR := ((HS6.pick 1 rfl).pick 2 rfl).pick 1 rfl
      simp only [List.eraseIdx_cons_succ, List.eraseIdx_cons_zero] at HR
      go_frame
      go_roundw
      case rel =>
        refine ⟨seen.push x, mput g' k out, HR, fun j => ⟨fun hl => ?_, fun hl => ?_⟩⟩
        · obtain ⟨h1, h2⟩ := (HJ.out j).1 hl
          rw [mget_mput, if_neg h2]
          exact (HV.out j).1 h1
        · by_cases hjk : j = k
          · subst hjk
            rw [mget_mput, if_pos rfl]
            exact HN.out
          · rw [mget_mput, if_neg hjk]
            exact (HV.out j).2 (fun h => hl ((HJ.out j).2 ⟨h, hjk⟩))
      case measure =>
        rw [HR.rleft, HI'.rleft]
        exact HLT.out
end Go.Proofs.Ytgfgkbmebdaieaa
