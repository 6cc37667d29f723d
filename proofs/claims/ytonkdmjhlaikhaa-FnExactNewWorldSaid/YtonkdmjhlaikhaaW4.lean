/- NewWorld: equality of worlds without leaves, runs, messages and bytes. -/
import Derived.Test.YtonkdmjhlaikhaaW1
import Derived.Test.YtonkdmjhlaikhaaB1
namespace Go.Proofs.Ytonkdmjhlaikhaa
set_option linter.unusedSimpArgs false
set_option linter.unusedVariables false
open Go.RowKit Go.Ow
attribute [local irreducible] wpQuiet
set_option maxRecDepth 100000
theorem Rz.rd {w : World} {b o n c : Nat} {xs : List Rz} (h : Rd w (.slice (some ⟨b, o, none⟩) n c) xs) (i : Nat) (hi : i < xs.length) :
    w.cell? ⟨b, o + i * 5, none⟩ = some (.int .i64 xs[i].i) ∧ w.cell? ⟨b, o + i * 5 + 1, none⟩ = some (.slice xs[i].A.a 0 0) ∧ w.cell? ⟨b, o + i * 5 + 2, none⟩ = some (.slice xs[i].B.a 0 0) ∧ w.cell? ⟨b, o + i * 5 + 3, none⟩ = some (.slice xs[i].C.a 0 0) ∧ w.cell? ⟨b, o + i * 5 + 4, none⟩ = some (.slice xs[i].D.a 0 0) :=
  ⟨h.get i hi 0 (by decide), h.get i hi 1 (by decide), h.get i hi 2 (by decide), h.get i hi 3 (by decide), h.get i hi 4 (by decide)⟩
theorem Pz.rd {w : World} {b o n c : Nat} {xs : List Pz} (h : Rd w (.slice (some ⟨b, o, none⟩) n c) xs) (i : Nat) (hi : i < xs.length) :
    w.cell? ⟨b, o + i * 6, none⟩ = some (.int .i64 xs[i].f) ∧ w.cell? ⟨b, o + i * 6 + 1, none⟩ = some (.int .i64 xs[i].t) ∧ w.cell? ⟨b, o + i * 6 + 2, none⟩ = some (.slice xs[i].M.a 0 0) ∧ w.cell? ⟨b, o + i * 6 + 3, none⟩ = some (.slice xs[i].B.a 0 0) ∧ w.cell? ⟨b, o + i * 6 + 4, none⟩ = some (.int .i64 xs[i].n) ∧ w.cell? ⟨b, o + i * 6 + 5, none⟩ = some (.int .i64 xs[i].m) :=
  ⟨h.get i hi 0 (by decide), h.get i hi 1 (by decide), h.get i hi 2 (by decide), h.get i hi 3 (by decide), h.get i hi 4 (by decide), h.get i hi 5 (by decide)⟩
theorem map_at {α β : Type} {f : α → β} {xs ys : List α} (h : xs.map f = ys.map f) (k : Nat) (h1 : k < xs.length) (h2 : k < ys.length) : f xs[k] = f ys[k] := by
  have := congrArg (·[k]?) h
  simpa [List.getElem?_eq_getElem h1, List.getElem?_eq_getElem h2] using this
theorem eqReplicaS0 (xs ys : List Rz) (v u : Value) (w : World) (hv : Rd w v xs) (hu : Rd w u ys) (h : xs.map (·.i) = ys.map (·.i)) : Calls Try.prog 70 #[v, u] w fun e w' => e = .returned (.bool true) ∧ Below w.heap.size w w' := by
  obtain ⟨A, c, rfl, hc, hl⟩ := hv.val
  obtain ⟨B, d, rfl, hd, hm⟩ := hu.val
  have HS := Own.start w
  have hn : xs.length = ys.length := by simpa using congrArg List.length h
  have HN := Lib.hid hn
  have HM := Lib.hid h
  have hb2 : ((xs.length : Int) != (ys.length : Int)) = false := by simp [hn]
  have hb3 : ((xs.length : Int) == (ys.length : Int)) = true := by simp [hn]
  clear hn h
  go_enter Try.func70, Try.ntmps70
  go_wp2
  go_loopw [5] (fun i wr => ∃ k : Nat, k ≤ xs.length ∧ i = .int .i64 k ∧ Own w [] wr) (fun i _ => xs.length - (intOf i).toNat)
  case atStart => exact ⟨0, by omega, rfl, HS⟩
  case round =>
    obtain ⟨k, hk, rfl, HS'⟩ := hrel
    by_cases hlt : k < xs.length
    · have hlt2 : k < ys.length := by have := HN.out; omega
      obtain ⟨b, o, rfl⟩ := hv.fix (by omega)
      obtain ⟨b2, o2, rfl⟩ := hu.fix (by omega)
      have hF : ∀ p : Ext wr, _ := fun p => Rz.rd ((HS'.of_below p.h).old hv) k hlt
      have hG : ∀ p : Ext wr, _ := fun p => Rz.rd ((HS'.of_below p.h).old hu) k hlt2
      have he := map_at HM.out k hlt hlt2
      rw [he] at hF
      clear he
      go_wp2
      (refine wp_region_ext (by kernel_rfl) (by kernel_rfl) ?_; (repeat (quiet_step (first | exact q_call (eqReplica0 _ _ _ _ _ _ _ _ _ _)))); refine wpQuiet_nil ?_; rintro _ ⟨⟨w1, hw1⟩, rfl⟩)
      have H2 := HS'.of_below hw1
      clear hF hG
      go_wp2
      go_roundw
      case rel => exact ⟨k + 1, by omega, by go_num, H2⟩
      case measure => simp [intOf]; omega
    · go_wp2
      go_ret
      exact ⟨rfl, HS'.below⟩
theorem eqByteSS0 (A B : Option Addr) (w : World) : Calls Try.prog 114 #[.slice A 0 0, .slice B 0 0] w fun e w' => e = .returned (.bool true) ∧ Below w.heap.size w w' := by
  have HS := Own.start w
  go_enter Try.func114, Try.ntmps114
  go_wp2
  go_loopw [5] (fun i wr => i = .int .i64 0 ∧ Own w [] wr) (fun _ _ => 0)
  case atStart => exact ⟨rfl, HS⟩
  case round =>
    obtain ⟨rfl, HS'⟩ := hrel
    go_wp2
    go_ret
    exact ⟨rfl, HS'.below⟩
theorem eqDecoder0 (A B : Option Addr) (n m : Int) (w : World) : Calls Try.prog 115 #[.agg #[.slice A 0 0, .int .i64 n, .int .i64 m], .agg #[.slice B 0 0, .int .i64 n, .int .i64 m]] w fun e w' => e = .returned (.bool true) ∧ Below w.heap.size w w' := by
  have HS := ((Own.start w).box [.slice A 0 0, .int .i64 n, .int .i64 m] 111).box (b := w.heap.size + 1) [.slice B 0 0, .int .i64 n, .int .i64 m] 111
  have hd : decide (([] : List UInt8) = []) = true := by simp
  go_enter Try.func115, Try.ntmps115
  go_wp2_with fail
  refine (eqByteS [] [] _ _ _ (rd0 _ _) (rd0 _ _)).mono ?_; rintro e w1 ⟨rfl, hb⟩; (first | have H' := HS.of_below hb | have H' := HS.drew.of_below hb | have H' := (HS.box0 [_] _).of_below hb | have H' := ((HS.box0 [_] _).box0 [_] _).of_below hb | have H' := (HS.alloc _).of_below hb | have H' := ((HS.alloc _).alloc _).of_below hb); clear HS; have HS := H'; clear H'; have F := HS.facts; simp only [Own.Facts, Own.Cells, World.size_alloc, List.cons_append, List.nil_append, List.eraseIdx_cons_succ, List.eraseIdx_cons_zero, List.eraseIdx_zero, List.tail_cons, Nat.zero_add] at F
  go_wp2
  go_ret
  exact ⟨rfl, HS.below⟩
abbrev pip0 (f t n m : Int) (A B : Option Addr) : Value := .agg #[.int .i64 f, .int .i64 t, .slice A 0 0, .slice B 0 0, .int .i64 n, .int .i64 m]
theorem eqPipe0 (f t n m : Int) (A B A' B' : Option Addr) (w : World) : Calls Try.prog 102 #[pip0 f t n m A B, pip0 f t n m A' B'] w fun e w' => e = .returned (.bool true) ∧ Below w.heap.size w w' := by
  have HS := ((Own.start w).box [.int .i64 f, .int .i64 t, .slice A 0 0, .slice B 0 0, .int .i64 n, .int .i64 m] 113).box (b := w.heap.size + 1) [.int .i64 f, .int .i64 t, .slice A' 0 0, .slice B' 0 0, .int .i64 n, .int .i64 m] 113
  go_enter Try.func102, Try.ntmps102
  go_wp2_with fail
  refine (eqByteSS0 _ _ _).mono ?_; rintro e w1 ⟨rfl, hb⟩; (first | have H' := HS.of_below hb | have H' := HS.drew.of_below hb | have H' := (HS.box0 [_] _).of_below hb | have H' := ((HS.box0 [_] _).box0 [_] _).of_below hb | have H' := (HS.alloc _).of_below hb | have H' := ((HS.alloc _).alloc _).of_below hb); clear HS; have HS := H'; clear H'; have F := HS.facts; simp only [Own.Facts, Own.Cells, World.size_alloc, List.cons_append, List.nil_append, List.eraseIdx_cons_succ, List.eraseIdx_cons_zero, List.eraseIdx_zero, List.tail_cons, Nat.zero_add] at F
  go_wp2_with fail
  refine (eqDecoder0 _ _ _ _ _).mono ?_; rintro e w2 ⟨rfl, hb⟩; (first | have H' := HS.of_below hb | have H' := HS.drew.of_below hb | have H' := (HS.box0 [_] _).of_below hb | have H' := ((HS.box0 [_] _).box0 [_] _).of_below hb | have H' := (HS.alloc _).of_below hb | have H' := ((HS.alloc _).alloc _).of_below hb); clear HS; have HS := H'; clear H'; have F := HS.facts; simp only [Own.Facts, Own.Cells, World.size_alloc, List.cons_append, List.nil_append, List.eraseIdx_cons_succ, List.eraseIdx_cons_zero, List.eraseIdx_zero, List.tail_cons, Nat.zero_add] at F
  go_wp2
  go_ret
  exact ⟨rfl, HS.below⟩
theorem eqPipeS0 (xs ys : List Pz) (v u : Value) (w : World) (hv : Rd w v xs) (hu : Rd w u ys) (h : xs.map Pz.key = ys.map Pz.key) : Calls Try.prog 71 #[v, u] w fun e w' => e = .returned (.bool true) ∧ Below w.heap.size w w' := by
  obtain ⟨A, c, rfl, hc, hl⟩ := hv.val
  obtain ⟨B, d, rfl, hd, hm⟩ := hu.val
  have HS := Own.start w
  have hn : xs.length = ys.length := by simpa using congrArg List.length h
  have HN := Lib.hid hn
  have HM := Lib.hid h
  have hb2 : ((xs.length : Int) != (ys.length : Int)) = false := by simp [hn]
  have hb3 : ((xs.length : Int) == (ys.length : Int)) = true := by simp [hn]
  clear hn h
  go_enter Try.func71, Try.ntmps71
  go_wp2
  go_loopw [5] (fun i wr => ∃ k : Nat, k ≤ xs.length ∧ i = .int .i64 k ∧ Own w [] wr) (fun i _ => xs.length - (intOf i).toNat)
  case atStart => exact ⟨0, by omega, rfl, HS⟩
  case round =>
    obtain ⟨k, hk, rfl, HS'⟩ := hrel
    by_cases hlt : k < xs.length
    · have hlt2 : k < ys.length := by have := HN.out; omega
      obtain ⟨b, o, rfl⟩ := hv.fix (by omega)
      obtain ⟨b2, o2, rfl⟩ := hu.fix (by omega)
      have hF : ∀ p : Ext wr, _ := fun p => Pz.rd ((HS'.of_below p.h).old hv) k hlt
      have hG : ∀ p : Ext wr, _ := fun p => Pz.rd ((HS'.of_below p.h).old hu) k hlt2
      have he := map_at HM.out k hlt hlt2
      simp only [Pz.key, Prod.mk.injEq] at he
      rw [he.1, he.2.1, he.2.2.1, he.2.2.2] at hF
      clear he
      go_wp2
      (refine wp_region_ext (by kernel_rfl) (by kernel_rfl) ?_; (repeat (quiet_step (first | exact q_call (eqPipe0 _ _ _ _ _ _ _ _ _)))); refine wpQuiet_nil ?_; rintro _ ⟨⟨w1, hw1⟩, rfl⟩)
      have H2 := HS'.of_below hw1
      clear hF hG
      go_wp2
      go_roundw
      case rel => exact ⟨k + 1, by omega, by go_num, H2⟩
      case measure => simp [intOf]; omega
    · go_wp2
      go_ret
      exact ⟨rfl, HS'.below⟩
theorem eqWorld0 (xs xs' : List Rz) (ys ys' : List Pz) (v1 v2 u1 u2 : Value) (w : World) (h1 : Rd w v1 xs) (h2 : Rd w v2 ys) (h3 : Rd w u1 xs') (h4 : Rd w u2 ys') (h5 : xs.map (·.i) = xs'.map (·.i)) (h6 : ys.map Pz.key = ys'.map Pz.key) :
    Calls Try.prog 35 #[.agg #[v1, v2], .agg #[u1, u2]] w fun e w' => e = .returned (.bool true) ∧ Below w.heap.size w w' := by
  obtain ⟨A1, c1, rfl, _, _⟩ := h1.val
  obtain ⟨A2, c2, rfl, _, _⟩ := h2.val
  obtain ⟨A3, c3, rfl, _, _⟩ := h3.val
  obtain ⟨A4, c4, rfl, _, _⟩ := h4.val
  have H5 := Lib.hid h5
  have H6 := Lib.hid h6
  have HS := ((Own.start w).box [.slice A1 xs.length c1, .slice A2 ys.length c2] 65).box (b := w.heap.size + 1) [.slice A3 xs'.length c3, .slice A4 ys'.length c4] 65
  clear h5 h6
  go_enter Try.func35, Try.ntmps35
  go_wp2_with fail
  refine (eqReplicaS0 _ _ _ _ _ (HS.old h1) (HS.old h3) H5.out).mono ?_; rintro e w1 ⟨rfl, hb⟩; (first | have H' := HS.of_below hb | have H' := HS.drew.of_below hb | have H' := (HS.box0 [_] _).of_below hb | have H' := ((HS.box0 [_] _).box0 [_] _).of_below hb | have H' := (HS.alloc _).of_below hb | have H' := ((HS.alloc _).alloc _).of_below hb); clear HS; have HS := H'; clear H'; have F := HS.facts; simp only [Own.Facts, Own.Cells, World.size_alloc, List.cons_append, List.nil_append, List.eraseIdx_cons_succ, List.eraseIdx_cons_zero, List.eraseIdx_zero, List.tail_cons, Nat.zero_add] at F
  go_wp2_with fail
  refine (eqPipeS0 _ _ _ _ _ (HS.old h2) (HS.old h4) H6.out).mono ?_; rintro e w2 ⟨rfl, hb⟩; (first | have H' := HS.of_below hb | have H' := HS.drew.of_below hb | have H' := (HS.box0 [_] _).of_below hb | have H' := ((HS.box0 [_] _).box0 [_] _).of_below hb | have H' := (HS.alloc _).of_below hb | have H' := ((HS.alloc _).alloc _).of_below hb); clear HS; have HS := H'; clear H'; have F := HS.facts; simp only [Own.Facts, Own.Cells, World.size_alloc, List.cons_append, List.nil_append, List.eraseIdx_cons_succ, List.eraseIdx_cons_zero, List.eraseIdx_zero, List.tail_cons, Nat.zero_add] at F
  go_wp2
  go_ret
  exact ⟨rfl, HS.below⟩
end Go.Proofs.Ytonkdmjhlaikhaa
