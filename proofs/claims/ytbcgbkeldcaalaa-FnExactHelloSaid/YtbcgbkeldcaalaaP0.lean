/- Numbers put behind bytes. -/
import Derived.Test.YtbcgbkeldcaalaaB2
namespace Go.Proofs.Ytbcgbkeldcaalaa
set_option linter.unusedSimpArgs false
set_option linter.unusedVariables false
open Go.RowKit Go.Ow
attribute [local irreducible] wpQuiet
set_option maxRecDepth 100000

theorem putInt {W : World} {R : List Ds} (xs : List UInt8) (n : Nat) (v : Value) (w : World) (HS : Own W (.own v xs :: R) w) (hn : n ≤ 140737488351232) (hx : xs.length ≤ 140737488351232) :
    Calls Try.prog 81 #[v, .int .i64 n] w fun e w' => ∃ v', e = .returned v' ∧ Own W (.own v' (xs ++ uv n) :: R) w' := by
  obtain ⟨A, c, rfl, _, _⟩ := (HS.rd 0 rfl).val
  have hl := uv_len10 n (by omega)
  go_enter Try.func81, Try.ntmps81
  go_wp2_with fail
  refine (implPutUvarint n w (by omega)).mono ?_
  rintro e w1 ⟨v', rfl, hs⟩
  have H1 := (HS.call hs).pick 1 rfl
  go_wp2_with (refine wp_app (α := UInt8) rfl _ _ 44 rfl (by kernel_rfl) _ _ H1 rfl _ _ rfl (H1.rd 1 rfl) (by show (_ + _) * 1 ≤ _; omega) (by omega) ?_; clear H1; intro v2 w2 H1)
  obtain ⟨A2, c2, rfl, _, _⟩ := (H1.rd 0 rfl).val
  go_ret
  exact ⟨_, rfl, (H1.pick 1 rfl).drop⟩
theorem putInt2 {W : World} {R : List Ds} (xs : List UInt8) (n : Nat) (v : Value) (w : World) (HS : Own W (.own v xs :: R) w) (hn : n ≤ 140737488351232) (hx : xs.length ≤ 140737488351232) :
    Calls Try.prog 81 #[v, .int .i64 n] w fun e w' => ∃ (A : Option Addr) (c : Nat) (q : List UInt8), e = .returned (.slice A q.length c) ∧ Hid (q = xs ++ uv n) ∧ q.length ≤ xs.length + 10 ∧ Own W (.own (.slice A q.length c) q :: R) w' :=
  (putInt xs n v w HS hn hx).mono fun e w' ⟨v', he, h⟩ => by
    obtain ⟨A, c, rfl, _, _⟩ := (h.rd 0 rfl).val
    exact ⟨A, c, _, he, Lib.hid rfl, by have := uv_len10 n (by omega); rw [List.length_append]; omega, h⟩
theorem l2Put (n : Nat) (w : World) (hn : n ≤ 140737488351232) : Calls Try.prog 98 #[.int .i64 n] w fun e w' => ∃ v', e = .returned v' ∧ Own w [.own v' (uv n)] w' := by
  go_enter Try.func98, Try.ntmps98
  go_wp2_with fail
  refine (specPutUvarint n w (by omega)).mono ?_
  rintro e w1 ⟨v', rfl, hs⟩
  obtain ⟨A2, c2, rfl, _, _⟩ := (hs.rd 0 rfl).val
  go_wp2
  go_ret
  exact ⟨_, rfl, hs⟩

end Go.Proofs.Ytbcgbkeldcaalaa
