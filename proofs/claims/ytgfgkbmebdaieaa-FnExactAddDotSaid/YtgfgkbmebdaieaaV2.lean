/- Spans put behind one another by the library. -/
import Derived.Test.YtgfgkbmebdaieaaV1
import Derived.Test.YtgfgkbmebdaieaaGz
import Derived.Test.YtgfgkbmebdaieaaAp
import Derived.Test.YtgfgkbmebdaieaaLf
namespace Go.Proofs.Ytgfgkbmebdaieaa
set_option linter.unusedSimpArgs false
set_option linter.unusedVariables false
open Go.RowKit Go.Ow
attribute [local irreducible] wpQuiet
set_option maxRecDepth 100000
theorem growSp (n : Nat) (hn : n ≤ 4194304) (w : World) : Calls Try.prog 130 #[.slice none 0 0, .int .i64 n] w fun e w' => ∃ v, e = .returned v ∧ Own w [.own v ([] : List Sp)] w' := by
  have HS := Own.start w
  by_cases h0 : 0 < n
  · go_enter Try.func130, Try.ntmps130
    go_wp2_with (refine wp_growz (α := Sp) rfl _ _ 116 3 rfl (by kernel_rfl) (by kernel_rfl) HS rfl n (by first | rfl | go_num) h0 hn (by show 16 ≤ 1000; omega) ?_; intro w1 cap hc HS1)
    go_ret
    exact ⟨_, rfl, HS1⟩
  · obtain rfl : n = 0 := by omega
    go_enter Try.func130, Try.ntmps130
    go_wp2
    go_ret
    exact ⟨_, rfl, HS.nil⟩
theorem Ll.rd {w : World} {b o n c : Nat} {ls : List (List Sp)} (h : Rd w (.slice (some ⟨b, o, none⟩) n c) ls) (i : Nat) (hi : i < ls.length) : ∃ v, Rd w v ls[i] ∧ w.cell? ⟨b, o + i, none⟩ = some v := by
  obtain ⟨cs, ⟨v, rfl, hr⟩, hc⟩ := rd_elem h i hi
  refine ⟨v, hr, ?_⟩
  have := hc 0 (show 0 < 1 by decide)
  rw [show o + i * Cd.z (List Sp) + 0 = o + i by show o + i * 1 + 0 = _; omega] at this
  exact this
theorem flat_take (ls : List (List Sp)) (k : Nat) (h : k < ls.length) : (ls.take (k + 1)).flatten = (ls.take k).flatten ++ ls[k] := by
  rw [List.take_succ_eq_append_getElem h, List.flatten_append, List.flatten_cons, List.flatten_nil, List.append_nil]
theorem flat_take_len (ls : List (List Sp)) (k : Nat) : (ls.take k).flatten.length ≤ ls.flatten.length := by
  conv => rhs; rw [← List.take_append_drop k ls, List.flatten_append, List.length_append]
  omega
theorem concatSp (ls : List (List Sp)) (v : Value) (w : World) (hv : Rd w v ls) (hn : ls.flatten.length ≤ 4194304) : Calls Try.prog 109 #[v] w fun e w' => ∃ v', e = .returned v' ∧ Own w [.own v' ls.flatten] w' := by
  obtain ⟨A, c, rfl, hc, hl⟩ := hv.val
  have HS := Own.start w
  go_enter Try.func109, Try.ntmps109
  go_wp2
  go_loopw [3, 11] (fun q i wr => ∃ k : Nat, k ≤ ls.length ∧ i = .int .i64 k ∧ q = .int .i64 ((ls.take k).flatten.length : Nat) ∧ Own w [] wr) (fun _ i _ => ls.length - (intOf i).toNat)
  case atStart => exact ⟨0, by omega, rfl, rfl, HS⟩
  case round =>
    obtain ⟨k, hk, rfl, rfl, HS'⟩ := hrel
    by_cases hlt : k < ls.length
    · obtain ⟨b, o, rfl⟩ := hv.fix (by omega)
      obtain ⟨vx, hr, hcell⟩ := Ll.rd (HS'.old hv) k hlt
      obtain ⟨A1, c1, rfl, _, _⟩ := hr.val
      have h1 := flat_take_len ls k
      have h2 := flat_take_len ls (k + 1)
      have h3 : (ls.take (k + 1)).flatten.length = (ls.take k).flatten.length + ls[k].length := by rw [flat_take ls k hlt, List.length_append]
      obtain ⟨x, hx⟩ : ∃ x, (ls.take k).flatten.length = x := ⟨_, rfl⟩
      obtain ⟨y, hy⟩ : ∃ y, ls[k].length = y := ⟨_, rfl⟩
      obtain ⟨z, hz⟩ : ∃ z, (ls.take (k + 1)).flatten.length = z := ⟨_, rfl⟩
      rw [hy] at hr hcell
      rw [hx, hy, hz] at h3
      rw [hz] at h2
      rw [hx] at h1 ⊢
      have HZ := Lib.hid hz
      clear hx hy hz
      have h4 : x + y ≤ 4194304 := by omega
      have H3 := Lib.hid h3
      clear h1 h2 h3
      go_wp2
      go_roundw
      case rel => exact ⟨k + 1, by omega, by go_num, by rw [HZ.out, H3.out]; go_num, HS'⟩
      case measure => simp [intOf]; omega
    · obtain rfl : k = ls.length := by omega
      obtain ⟨n, hnn⟩ : ∃ n, ls.flatten.length = n := ⟨_, rfl⟩
      rw [List.take_length, hnn]
      rw [hnn] at hn
      have HN := Lib.hid hnn
      clear hnn
      go_wp2_with fail
      refine (growSp n hn _).mono ?_
      rintro e w2 ⟨v2, rfl, hs⟩
      have H2 := HS'.call1 hs
      obtain ⟨A2, c2, rfl, _, _⟩ := (hs.rd 0 rfl).val
      go_wp2
      go_loopw [6, 27] (fun q i wr => ∃ (k : Nat) (u : Value), k ≤ ls.length ∧ i = .int .i64 k ∧ q = u ∧ Own w [.own u (ls.take k).flatten] wr) (fun _ i _ => ls.length - (intOf i).toNat)
      case atStart => exact ⟨0, _, by omega, rfl, rfl, H2⟩
      case round =>
        obtain ⟨k, u, hk2, rfl, rfl, HS3⟩ := hrel
        obtain ⟨A3, c3, rfl, _, _⟩ := (HS3.rd 0 rfl).val
        by_cases hlt : k < ls.length
        · obtain ⟨b, o, rfl⟩ := hv.fix (by omega)
          obtain ⟨vx, hr, hcell⟩ := Ll.rd (HS3.old hv) k hlt
          obtain ⟨A1, c1, rfl, _, _⟩ := hr.val
          have h2 := flat_take_len ls (k + 1)
          rw [flat_take ls k hlt, List.length_append, HN.out] at h2
          have HF := Lib.hid (flat_take ls k hlt)
          obtain ⟨xs, hxs⟩ : ∃ xs, (ls.take k).flatten = xs := ⟨_, rfl⟩
          obtain ⟨ys, hys⟩ : ∃ ys, ls[k] = ys := ⟨_, rfl⟩
          rw [hxs, hys] at HF h2
          rw [hxs] at HS3 ⊢
          rw [hys] at hr hcell
          clear hxs hys
          go_wp2_with (refine wp_app2 (α := Sp) rfl _ _ 116 rfl (by kernel_rfl) _ _ HS3 rfl _ _ rfl hr (by show (_ + _) * 16 ≤ _; omega) (by omega) ?_; intro v5 q5 w5 hq5 hl5 H5)
          go_roundw
          case rel => exact ⟨k + 1, v5, by omega, by go_num, rfl, by rw [HF.out, ← hq5.out]; exact H5⟩
          case measure => simp [intOf]; omega
        · obtain rfl : k = ls.length := by omega
          rw [List.take_length] at HS3 ⊢
          go_wp2
          go_ret
          exact ⟨_, rfl, HS3⟩
end Go.Proofs.Ytgfgkbmebdaieaa
