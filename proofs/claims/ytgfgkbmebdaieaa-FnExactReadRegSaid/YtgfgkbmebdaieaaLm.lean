/- Rows of leaves that a call owns: made, filled. -/
import Derived.Test.YtgfgkbmebdaieaaLf
namespace Go.Ow
set_option linter.unusedSimpArgs false
set_option linter.unusedVariables false
open Go.RowKit
theorem rep_get {β : Type} (zc : List β) (k : Nat) (hk : zc.length = k) : ∀ (n i : Nat), i < n * k → ((List.replicate n zc).flatten)[i]? = zc[i % k]?
  | 0, i, h => by simp at h
  | n + 1, i, h => by
    have hp : 0 < k := by rcases Nat.eq_zero_or_pos k with h0 | h0; subst h0; simp at h; exact h0
    rw [List.replicate_succ, List.flatten_cons]
    by_cases hi : i < k
    · rw [List.getElem?_append_left (by omega), Nat.mod_eq_of_lt hi]
    · rw [List.getElem?_append_right (by omega), hk, rep_get zc k hk n (i - k) (by rw [Nat.succ_mul] at h; omega)]
      rw [← Nat.mod_eq_sub_mod (by omega)]
theorem made_rep (zc : List Value) (z : Array Value) (hz : z.toList = zc) (hk : 0 < zc.length) (n : Nat) : (madeCells z (n * zc.length)).toList = (List.replicate n zc).flatten := by
  have hs : z.size = zc.length := by rw [← Array.length_toList, hz]
  have hlen : ((List.replicate n zc).flatten).length = n * zc.length := by rw [length_flatten (k := zc.length) (by intro c hc; rw [List.eq_of_mem_replicate hc]), List.length_replicate]
  refine List.ext_getElem (by rw [hlen]; simp [madeCells]) (fun i h1 h2 => ?_)
  rw [hlen] at h2
  have e := rep_get zc zc.length rfl n i h2
  have hm : i % zc.length < zc.length := Nat.mod_lt _ hk
  rw [List.getElem?_eq_getElem (by rw [hlen]; exact h2), List.getElem?_eq_getElem hm] at e
  rw [Option.some.inj e]
  simp only [madeCells, Array.toList_map, Array.toList_range, List.getElem_map, List.getElem_range, hs]
  rw [getElem!_pos z _ (by rw [hs]; exact hm)]
  simp [← hz]
section
variable {P : Program} {ops : Array Oper} {rest : List Oper} {o : Oper} {a : Act} {Q : Exit → Act → World → Prop} {w W : World} {R : List Ds}
/-- make of a row whose elements begin as 'zero', cells 'zc'. -/
theorem wp_makeC {α : Type} [Cd α] [Ty α] (zero : α) (zc : List Value) (bytes : Nat) (hzero : ∀ w, Cd.dp w zero zc []) (hinfo : (P.info? (Ty.id α)).map (fun i => (i.zero.map (fun z => z.cells.toList), i.size, i.bytes)) = some (some zc, Cd.z α, bytes))
    (hgd : o.guard = none) (l c : Operand) (t : TypeId) (hop : o.op = Op.makeSlice t l c) (ht : P.underlying t = some (.slice (Ty.id α))) (HS : Own W R w)
    (kl kc : IntKind) (L C : Int) (n : Nat) (hl : a.eval l = .int kl L) (hc : a.eval c = .int kc C) (hL : L = (n : Int)) (hC : C = (n : Int)) (hb : bytes * n ≤ 281474976710656) (hn : n ≤ 140737488355328)
    (h : ∀ w', Own W (.own (.slice (some ⟨w.heap.size, 0, none⟩) n n) (List.replicate n zero) :: R) w' → wpList P ops Q rest (a.put o.dst (.slice (some ⟨w.heap.size, 0, none⟩) n n)) w') : wpList P ops Q (o :: rest) a w := by
  obtain ⟨i, hi, h'⟩ := Option.map_eq_some_iff.1 hinfo
  simp only [Prod.mk.injEq, Option.map_eq_some_iff] at h'
  obtain ⟨⟨z, hz, hzs⟩, h1, h2⟩ := h'
  have hzl : zc.length = Cd.z α := Cd.rd_len (Cd.dp_rd (hzero default))
  refine wpList_make_full w hgd l c t hop 0 (Ty.id α) i z (Cd.z α) ht hi hz h1 kl kc L C n hl hc hL hC (by rw [h2]; exact hb) (by simp only [maxLen]; omega) (Nat.zero_le _) (fun w' hrow hg => h w' ?_)
  rw [← hzl, made_rep zc z.cells hzs (by rw [hzl]; exact Cd.zpos) n, hzl] at hrow
  have hdp : Dp (Ty.id α) w' (.slice (some ⟨w.heap.size, 0, none⟩) n n) (List.replicate n zero) ((Value.slice (some ⟨w.heap.size, 0, none⟩) n n).ownBlock.toList ++ (List.replicate n ([] : List Nat)).flatten) := by
    refine row_dp (css := List.replicate n zc) (fps := List.replicate n []) (by rw [List.length_replicate]; exact hrow) (by simp) (by simp) (by rw [List.length_replicate]; exact hn) (fun i x cs f hx hc hf => ?_)
    rw [List.getElem?_replicate] at hx hc hf
    split at hx
    · rename_i hlt
      rw [if_pos hlt] at hc hf
      cases hx; cases hc; cases hf
      exact hzero w'
    · cases hx
  have e : (Value.slice (some ⟨w.heap.size, 0, none⟩) n n).ownBlock.toList ++ (List.replicate n ([] : List Nat)).flatten = [w.heap.size] := by
    rw [List.flatten_eq_nil_iff.2 (by intro l hl; exact List.eq_of_mem_replicate hl), List.append_nil]; rfl
  rw [e] at hdp
  exact Own.call (Rn := [.own _ _]) HS ⟨⟨hg.os, hg.tape, hg.output, hg.size, fun k hk => hg.block k hk (by simp [Value.ownBlock])⟩, [w.heap.size], ⟨[w.heap.size], [], rfl, hdp, rfl⟩, by simp, by simp⟩
theorem Own.thaw {α : Type} [Cd α] [Ty α] {g n cap : Nat} {xs : List α} (h : Own W (.own (.slice (some ⟨g, 0, none⟩) n cap) xs :: R) w) : (∀ j, w.frozen? ⟨g, j, none⟩ = false) ∧ g < w.heap.size := by
  obtain ⟨_, fp, ⟨f, _, _, hd, _⟩, _⟩ := h
  rcases hd with ⟨he, _⟩ | ⟨b, cap', cur, css, fps, he, hg, _⟩
  · injection he with he; cases he
  · injection he with he _ _
    injection he with he
    injection he with he _ _
    subst he
    exact ⟨fun j => by simp [World.frozen?, hg], (Array.getElem?_eq_some_iff.1 hg).1⟩
theorem Own.fixC {α : Type} [Cd α] [Ty α] {A : Option Addr} {n c : Nat} {xs : List α} (h : Own W (.own (.slice A n c) xs :: R) w) (hx : 0 < xs.length) : ∃ g, A = some ⟨g, 0, none⟩ := by
  obtain ⟨_, fp, ⟨f, _, _, hd, _⟩, _⟩ := h
  rcases hd with ⟨_, rfl, _⟩ | ⟨b, cap', cur, css, fps, he, hg, _⟩
  · simp at hx
  · injection he with he _ _
    exact ⟨b, he⟩
end
section
variable [Ty ByteArray] {w W : World} {R : List Ds}
theorem Lf.own_elt {x : Lf} {vp : Value} (h : Own W (.own vp x.p :: R) w) : Own W (.elt [vp, .bool x.fl, .int .i64 x.dr, .int .i64 x.ds, .string x.v] x :: R) w := by
  have h1 := h.list_elt
  have h2 := (h1.fl_elt (x.fl, x.dr, x.ds, x.v)).pick 1 rfl
  exact h2.pair_elt
theorem Lf.elt_own {x : Lf} {cs : List Value} (h : Own W (.elt cs x :: R) w) : ∃ vp, cs = [vp, .bool x.fl, .int .i64 x.dr, .int .i64 x.ds, .string x.v] ∧ Own W (.own vp x.p :: R) w := by
  have h0 : Own W (.elt cs (x.p, x.fl, x.dr, x.ds, x.v) :: R) w := h
  obtain ⟨a, b, rfl, h1⟩ := h0.elt_pair
  obtain ⟨vp, rfl, h2⟩ := h1.elt_list
  obtain ⟨rfl, h3⟩ := (h2.pick 1 rfl).elt_fl
  exact ⟨vp, rfl, h3⟩
variable [Ty Lf]
theorem Lf.put {g cap : Nat} {ys : List Lf} {x : Lf} {vp : Value} (h : Own W (.own vp x.p :: .own (.slice (some ⟨g, 0, none⟩) ys.length cap) ys :: R) w) (k : Nat) (hk : k < ys.length) :
    Own W (.own (.slice (some ⟨g, 0, none⟩) ys.length cap) (ys.set k x) :: R) (((((w.setCell ⟨g, k * 5, none⟩ vp).setCell ⟨g, k * 5 + 1, none⟩ (.bool x.fl)).setCell ⟨g, k * 5 + 2, none⟩ (.int .i64 x.dr)).setCell ⟨g, k * 5 + 3, none⟩ (.int .i64 x.ds)).setCell ⟨g, k * 5 + 4, none⟩ (.string x.v)) := by
  obtain ⟨cs, h1⟩ := (h.pick 1 rfl).focus hk
  have h2 := h1.drop
  have hl : cs.length = 5 := h2.holec.1
  obtain ⟨c0, c1, c2, c3, c4, rfl⟩ : ∃ a b c d e, cs = [a, b, c, d, e] := by
    match cs, hl with
    | [a, b, c, d, e], _ => exact ⟨a, b, c, d, e, rfl⟩
  have h3 := ((((h2.holeput 0 (show 0 < 5 by decide) vp).holeput 1 (show 1 < 5 by decide) (.bool x.fl)).holeput 2 (show 2 < 5 by decide) (.int .i64 x.dr)).holeput 3 (show 3 < 5 by decide) (.int .i64 x.ds)).holeput 4 (show 4 < 5 by decide) (.string x.v)
  have h4 := (h3.pick 1 rfl)
  exact (Lf.own_elt h4).unfocus
end
end Go.Ow
