/- Copies of replicas: the program's. Copies of states and replicas: the reference's. Flush: the reference's side. A state compared with an empty one, by the reference. Flush: the program's side. Flush: the reference's side, joined. -/
import Derived.Test.YtkafflbakgkpcaaGreatFc
import Derived.Test.YtkafflbakgkpcaaGreatZa
import Derived.Deep.RegionLaw
namespace Go.Proofs.YtkafflbakgkpcaaGreat
set_option linter.unusedSimpArgs false
set_option linter.unusedVariables false
open Go.RowKit Go.Ow
attribute [local irreducible] wpQuiet
set_option maxRecDepth 100000
def flOk (r : Rp) : Bool := rpOk r && decide (r.d.l.length + r.d.c.length ≠ 0)
def flRp (r : Rp) : Rp := if flOk r = true then ⟨r.id, r.s, ⟨[], []⟩⟩ else r
def flF (r : Rp) : Int × List UInt8 := if flOk r = true then (3, (psR r.d).1) else (0, [])
end Go.Proofs.YtkafflbakgkpcaaGreat
namespace Go.Proofs.YtkafflbakgkpcaaGreat
set_option linter.unusedSimpArgs false
set_option linter.unusedVariables false
open Go.RowKit Go.Ow
attribute [local irreducible] wpQuiet
set_option maxRecDepth 100000
theorem l3Path (xs : List ByteArray) (v : Value) (w : World) (hv : Rd w v xs) (hn : xs.length ≤ 1048576) : Calls Tryz.prog 78 #[v] w fun e w' => ∃ A c, e = .returned (.slice A xs.length c) ∧ Own w [.own (.slice A xs.length c) xs] w' := by
  obtain ⟨A, c, rfl, hc, hl⟩ := hv.val
  have HL := (Own.start w).lit ([] : List ByteArray) #[] 9 rfl rfl (by simp)
  go_enter Tryz.func78, Tryz.ntmps78
  go_wp2_with (refine wp_app2 (α := ByteArray) rfl _ _ 28 rfl (by kernel_rfl) _ _ HL rfl _ _ rfl (HL.old hv) (by show (0 + _) * 16 ≤ _; omega) (by show 0 + _ ≤ _; omega) ?_; clear HL; intro v2 q w2 hq hql H2)
  obtain ⟨A5, c5, rfl, _, _⟩ := (H2.rd 0 rfl).val
  have HQ := Lib.hid (show q = xs by rw [hq.out]; rfl)
  go_ret
  exact ⟨A5, c5, by rw [← HQ.out]; rfl, by rw [← HQ.out]; exact H2⟩
theorem l3Leaf (zp : List ByteArray) (zf : Bool) (zr zd : Int) (zv : ByteArray) (v : Value) (w : World) (hv : Rd w v zp) (hn : zp.length ≤ 1048576) : Calls Tryz.prog 51 #[.agg #[v, .bool zf, .int .i64 zr, .int .i64 zd, .string zv]] w fun e w' => ∃ A c, e = .returned (.agg #[.slice A zp.length c, .bool zf, .int .i64 zr, .int .i64 zd, .string zv]) ∧ Own w [.own (.slice A zp.length c) zp] w' := by
  obtain ⟨A, c, rfl, hc, hl⟩ := hv.val
  have HS := ((Own.start w).box [.slice A zp.length c, .bool zf, .int .i64 zr, .int .i64 zd, .string zv] 57).box (b := w.heap.size + 1) [.slice none 0 0, .bool false, .int .i64 0, .int .i64 0, .string ByteArray.empty] 57
  go_enter Tryz.func51, Tryz.ntmps51
  go_wp2_with fail
  refine (l3Path zp _ _ (HS.old hv) hn).mono ?_
  rintro e w1 ⟨A5, c5, rfl, hs⟩
  replace HS := HS.call1 hs
  clear hs
  have F := HS.facts; simp only [Own.Facts, Own.Cells, World.size_alloc, List.cons_append, List.nil_append, List.eraseIdx_cons_succ, List.eraseIdx_cons_zero, List.eraseIdx_zero, List.tail_cons, Nat.zero_add] at F
  go_wp2
  have H2 := ((((((HS.pick 2 rfl).set 0 (.slice A5 zp.length c5)).pick 2 rfl).set 0 (.slice A5 zp.length c5)).set 1 (.bool zf)).set 2 (.int .i64 zr)).set 3 (.int .i64 zd)
  have H3 := ((H2.set 4 (.string zv)).drop.drop)
  exact bodyPost_ret (v := .agg #[.slice A5 zp.length c5, .bool zf, .int .i64 zr, .int .i64 zd, .string zv]) (by simp [results, Tryz.results51, go_sem, *]) rfl ⟨_, _, rfl, H3⟩
theorem own_end {W w : World} {a : Ds} {L : List Ds} (h : Own W (a :: L) w) : Own W (L ++ [a]) w := h.perm (List.perm_append_comm (l₁ := [a]))
theorem own_end2 {W w : World} {r a : Ds} {L : List Ds} (h : Own W (r :: a :: L) w) : Own W (r :: (L ++ [a])) w := h.perm (List.Perm.cons _ (List.perm_append_comm (l₁ := [a])))
end Go.Proofs.YtkafflbakgkpcaaGreat
namespace Go.Proofs.YtkafflbakgkpcaaGreat
set_option linter.unusedSimpArgs false
set_option linter.unusedVariables false
open Go.RowKit Go.Ow
attribute [local irreducible] wpQuiet
set_option maxRecDepth 100000
end Go.Proofs.YtkafflbakgkpcaaGreat
namespace Go.Proofs.YtkafflbakgkpcaaGreat
set_option linter.unusedSimpArgs false
set_option linter.unusedVariables false
open Go.RowKit Go.Ow
attribute [local irreducible] wpQuiet
set_option maxRecDepth 100000
end Go.Proofs.YtkafflbakgkpcaaGreat
namespace Go.Proofs.YtkafflbakgkpcaaGreat
set_option linter.unusedSimpArgs false
set_option linter.unusedVariables false
open Go.RowKit Go.Ow
attribute [local irreducible] wpQuiet
set_option maxRecDepth 100000
end Go.Proofs.YtkafflbakgkpcaaGreat
namespace Go.Proofs.YtkafflbakgkpcaaGreat
set_option linter.unusedSimpArgs false
set_option linter.unusedVariables false
open Go.RowKit Go.Ow
attribute [local irreducible] wpQuiet
set_option maxRecDepth 100000
end Go.Proofs.YtkafflbakgkpcaaGreat
