/- PutFrame: the program's and the reference's. -/
import Derived.Test.YtghpideinaaofaaF1
import Derived.Test.YtghpideinaaofaaHp
namespace Go.Proofs.Ytghpideinaaofaa
open Go.RowKit Go.Ow
attribute [local irreducible] wpQuiet
set_option maxRecDepth 100000

def be32 (c : Nat) : List UInt8 := [UInt8.ofNat (c / 16777216), UInt8.ofNat (c / 65536), UInt8.ofNat (c / 256), UInt8.ofNat c]
def frBody (k : Int) (xs : List UInt8) : List UInt8 := ([199, 1, UInt8.ofNat k.toNat] ++ uv xs.length) ++ xs
def crc (xs : List UInt8) : Nat := crun xs 4294967295 ^^^ 4294967295
theorem crun_lt : ∀ (xs : List UInt8) (v : Nat), v < 4294967296 → crun xs v < 4294967296
  | [], _, h => h
  | x :: xs, v, h => crun_lt xs _ (cfold_lt _ _ (Nat.xor_lt_two_pow (n := 32) (by omega) (by have := UInt8.toNat_lt x; omega)))
theorem crc_lt (xs : List UInt8) : crc xs < 4294967296 := Nat.xor_lt_two_pow (n := 32) (crun_lt xs _ (by omega)) (by omega)
def frOk (k : Int) (n : Nat) : Bool := decide (1 ≤ k) && (decide (k ≤ 3) && decide (n ≤ 4000))
def frOut (k : Int) (xs : List UInt8) : List UInt8 := if frOk k xs.length then frBody k xs ++ be32 (crc (frBody k xs)) else []

theorem implPutFrame (k : Int) (xs : List UInt8) (v : Value) (w : World) (hv : Rd w v xs) :
    Calls Try.prog 46 #[.agg #[.int .i64 k, v]] w fun e w' => ∃ v', e = .returned (.tuple #[v', .bool (frOk k xs.length)]) ∧ Own w [.own v' (frOut k xs)] w' := by
  obtain ⟨A, c, rfl, hc, hl⟩ := hv.val
  have HS := (Own.start w).box [.int .i64 k, .slice A xs.length c] 52
  by_cases h : 1 ≤ k ∧ k ≤ 3 ∧ xs.length ≤ 4000
  · obtain ⟨h1, h2, h3⟩ := h
    have HK := Lib.hid (show frOk k xs.length = true by simp [frOk, h1, h2, h3])
    go_enter Try.func46, Try.ntmps46
    go_wp2_with fail
    have HL : Own w (.own (.slice (some ⟨w.heap.size + 1, 0, none⟩) 3 3) [199, 1, UInt8.ofNat k.toNat] :: [.box w.heap.size 52 [.int .i64 k, .slice A xs.length c]]) ((w.alloc (.cells #[.int .i64 k, .slice A xs.length c] 52)).alloc (.cells #[.int .u8 199, .int .u8 1, .int .u8 k] 5)) := by
      have := HS.lit [199, 1, UInt8.ofNat k.toNat] #[.int .u8 199, .int .u8 1, .int .u8 k] 5 rfl (by show [_, _, _] = [_, _, _]; congr 3; simp; omega) (by simp)
      simp only [World.size_alloc] at this
      exact this
    refine (putInt [199, 1, UInt8.ofNat k.toNat] xs.length _ _ HL (by omega) (by simp)).mono ?_
    rintro e w1 ⟨v', rfl, H1⟩
    have hl := uv_len10 xs.length (by omega)
    have F := H1.facts
    simp only [Own.Facts, Own.Cells] at F
    go_wp2_with (refine wp_app (α := UInt8) rfl _ _ 23 rfl (by kernel_rfl) _ _ H1 rfl _ _ rfl (H1.old hv) (by show (_ + _) * 1 ≤ _; simp; omega) (by simp; omega) ?_; clear H1; intro v2 w2 H1)
    obtain ⟨bs, hbs⟩ : ∃ bs, frBody k xs = bs := ⟨_, rfl⟩
    change Own w (.own v2 (frBody k xs) :: _) w2 at H1
    have HB := Lib.hid hbs
    have hbl : bs.length ≤ 4013 := by rw [← hbs]; simp [frBody]; omega
    rw [hbs] at H1
    clear hbs
    have hr := H1.rd 0 rfl
    obtain ⟨A2, c2, rfl, _, _⟩ := hr.val
    refine (implCrc bs _ _ hr).mono ?_
    rintro e w3 ⟨rfl, hb3⟩
    have H2 := H1.of_below hb3
    clear H1 hr
    have hc := crc_lt bs
    rw [show crun bs 4294967295 ^^^ 4294967295 = crc bs by rfl]
    have HO := Lib.hid (show frOut k xs = bs ++ be32 (crc bs) by simp [frOut, HK.out, HB.out])
    obtain ⟨q, hq⟩ : ∃ q, crc bs = q := ⟨_, rfl⟩
    rw [hq] at hc HO ⊢
    clear hq
    have e1 : ((UInt8.ofNat (q / 16777216)).toNat : Int) = (q : Int) / 16777216 := by simp; omega
    have e2 : ((UInt8.ofNat (q / 65536)).toNat : Int) = (q : Int) / 65536 % 256 := by simp
    have e3 : ((UInt8.ofNat (q / 256)).toNat : Int) = (q : Int) / 256 % 256 := by simp
    have e4 : ((UInt8.ofNat q).toNat : Int) = (q : Int) % 256 := by simp
    have HL2 := (H2.lit (be32 q) #[.int .u8 ((q : Int) / 16777216), .int .u8 ((q : Int) / 65536 % 256), .int .u8 ((q : Int) / 256 % 256), .int .u8 ((q : Int) % 256)] 5 rfl (by rw [← e1, ← e2, ← e3, ← e4]; rfl) (by simp [be32])).pick 1 rfl
    clear e1 e2 e3 e4
    go_wp2_with (refine wp_app (α := UInt8) rfl _ _ 23 rfl (by kernel_rfl) _ _ HL2 rfl _ _ rfl (HL2.rd 1 rfl) (by show (_ + 4) * 1 ≤ _; omega) (by show _ + 4 ≤ _; omega) ?_; clear HL2; intro v5 w5 HL2)
    have H3 := (HL2.pick 1 rfl).drop.pick 1 rfl |>.drop
    obtain ⟨A5, c5, rfl, _, _⟩ := (H3.rd 0 rfl).val
    exact bodyPost_ret (v := .tuple #[.slice A5 (bs ++ be32 q).length c5, .bool true]) (by simp [results, Try.results46, go_sem, *]) rfl ⟨_, by rw [HK.out], by rw [HO.out]; exact H3⟩
  · have HK := Lib.hid (show frOk k xs.length = false by simp [frOk] at h ⊢; intro a b; have := h a b; omega)
    have HO := Lib.hid (show frOut k xs = [] by simp [frOut, HK.out])
    go_enter Try.func46, Try.ntmps46
    go_wp2
    all_goals
      exact bodyPost_ret (v := .tuple #[.slice none 0 0, .bool false]) (by simp [results, Try.results46, go_sem, *]) rfl ⟨_, by rw [HK.out], by rw [HO.out]; exact HS.drop.nil⟩
theorem specPutFrame (k : Int) (xs : List UInt8) (v : Value) (w : World) (hv : Rd w v xs) :
    Calls Try.prog 44 #[.agg #[.int .i64 k, v]] w fun e w' => ∃ v', e = .returned (.tuple #[v', .bool (frOk k xs.length)]) ∧ Own w [.own v' (frOut k xs)] w' := by
  obtain ⟨A, c, rfl, hc, hl⟩ := hv.val
  have HS := (Own.start w).box [.int .i64 k, .slice A xs.length c] 52
  by_cases h : 1 ≤ k ∧ k ≤ 3 ∧ xs.length ≤ 4000
  · obtain ⟨h1, h2, h3⟩ := h
    have HK := Lib.hid (show frOk k xs.length = true by simp [frOk, h1, h2, h3])
    go_enter Try.func44, Try.ntmps44
    have hcs : (#[.int .u8 199, .int .u8 1, .int .u8 (IntKind.u8.wrap k)] : Array Value).toList = (([199, 1, UInt8.ofNat k.toNat] : List UInt8).map Fl.fl).flatten := by
      show [_, _, _] = [_, _, _]; congr 3; have := u8_of k.toNat; rw [show ((k.toNat : Nat) : Int) = k by omega] at this; rw [this]
    have HL : Own w (.own (.slice (some ⟨w.heap.size + 1, 0, none⟩) 3 3) [199, 1, UInt8.ofNat k.toNat] :: [.box w.heap.size 52 [.int .i64 k, .slice A xs.length c]]) ((w.alloc (.cells #[.int .i64 k, .slice A xs.length c] 52)).alloc (.cells #[.int .u8 199, .int .u8 1, .int .u8 (IntKind.u8.wrap k)] 5)) := by
      have := HS.lit [199, 1, UInt8.ofNat k.toNat] #[.int .u8 199, .int .u8 1, .int .u8 (IntKind.u8.wrap k)] 5 rfl hcs (by simp)
      simp only [World.size_alloc] at this
      exact this
    have hl := uv_len10 xs.length (by omega)
    have HCS := Lib.hid hcs
    clear hcs
    go_wp2_with fail
    go_region_held3 (fun w' => w'.cell? ⟨w.heap.size, 0, none⟩ = some (.int .i64 k) ∧ w'.cell? ⟨w.heap.size, 1, none⟩ = some (.slice A xs.length c)) (first | go_keep) (first | (go_at_call 114; refine (l2Put xs.length _ (by omega)).mono ?_; rintro e w1 ⟨v', rfl, hs⟩; (first | have H' := (HL.drew.call hs).pick 1 rfl | have H' := HS.drew.call hs); clear HS; have HS := H'; clear H'; have F := HS.facts; simp only [Own.Facts, Own.Cells, World.size_alloc, List.cons_append, List.nil_append, List.eraseIdx_cons_succ, List.eraseIdx_cons_zero, List.eraseIdx_zero, List.tail_cons, Nat.zero_add] at F) | ((first | refine hp_app (α := UInt8) _ _ 23 rfl (by rfl) (by kernel_rfl) _ _ HS rfl _ _ rfl (HS.rd 1 rfl) (by show (3 + _) * 1 ≤ _; omega) (by show 3 + _ ≤ _; omega) ?_ | refine hp_app (α := UInt8) _ _ 23 rfl (by rfl) (by kernel_rfl) _ _ (HS.lit [199, 1, UInt8.ofNat k.toNat] #[.int .u8 199, .int .u8 1, .int .u8 (IntKind.u8.wrap k)] 5 rfl HCS.out (by simp)) rfl _ _ rfl ((HS.lit [199, 1, UInt8.ofNat k.toNat] #[.int .u8 199, .int .u8 1, .int .u8 (IntKind.u8.wrap k)] 5 rfl HCS.out (by simp)).rd 1 rfl) (by show (3 + _) * 1 ≤ _; omega) (by show 3 + _ ≤ _; omega) ?_); clear HS; intro v2 w2 HS; replace HS := (HS.pick 1 rfl).drop; have F := HS.facts; simp only [Own.Facts, Own.Cells, World.size_alloc, List.cons_append, List.nil_append, List.eraseIdx_cons_succ, List.eraseIdx_cons_zero, List.eraseIdx_zero, List.tail_cons, Nat.zero_add] at F))
    all_goals
      have H1 := HS
      clear HS
      go_wp2_with (refine wp_app (α := UInt8) rfl _ _ 23 rfl (by kernel_rfl) _ _ H1 rfl _ _ rfl (H1.old hv) (by show (_ + _) * 1 ≤ _; simp; omega) (by simp; omega) ?_; clear H1; intro v2 w2 H1)
      obtain ⟨bs, hbs⟩ : ∃ bs, frBody k xs = bs := ⟨_, rfl⟩
      change Own w (.own v2 (frBody k xs) :: _) w2 at H1
      have HB := Lib.hid hbs
      have hbl : bs.length ≤ 4013 := by rw [← hbs]; simp [frBody]; omega
      rw [hbs] at H1
      clear hbs
      have hr := H1.rd 0 rfl
      obtain ⟨A2, c2, rfl, _, _⟩ := hr.val
      refine (specCrc bs _ _ hr).mono ?_
      rintro e w3 ⟨rfl, hb3⟩
      have H2 := H1.of_below hb3
      clear H1 hr
      have hc := crc_lt bs
      rw [show crun bs 4294967295 ^^^ 4294967295 = crc bs by rfl]
      have HO := Lib.hid (show frOut k xs = bs ++ be32 (crc bs) by simp [frOut, HK.out, HB.out])
      obtain ⟨q, hq⟩ : ∃ q, crc bs = q := ⟨_, rfl⟩
      rw [hq] at hc HO ⊢
      clear hq
      have e1 : ((UInt8.ofNat (q / 16777216)).toNat : Int) = (q : Int) / 16777216 := by simp; omega
      have e2 : ((UInt8.ofNat (q / 65536)).toNat : Int) = (q : Int) / 65536 % 256 := by simp
      have e3 : ((UInt8.ofNat (q / 256)).toNat : Int) = (q : Int) / 256 % 256 := by simp
      have e4 : ((UInt8.ofNat q).toNat : Int) = (q : Int) % 256 := by simp
      have HL2 := (H2.lit (be32 q) #[.int .u8 ((q : Int) / 16777216), .int .u8 ((q : Int) / 65536 % 256), .int .u8 ((q : Int) / 256 % 256), .int .u8 ((q : Int) % 256)] 5 rfl (by rw [← e1, ← e2, ← e3, ← e4]; rfl) (by simp [be32])).pick 1 rfl
      clear e1 e2 e3 e4
      go_wp2_with (refine wp_app (α := UInt8) rfl _ _ 23 rfl (by kernel_rfl) _ _ HL2 rfl _ _ rfl (HL2.rd 1 rfl) (by show (_ + 4) * 1 ≤ _; omega) (by show _ + 4 ≤ _; omega) ?_; clear HL2; intro v5 w5 HL2)
      have H3 := (HL2.pick 1 rfl).drop.pick 1 rfl |>.drop
      obtain ⟨A5, c5, rfl, _, _⟩ := (H3.rd 0 rfl).val
      exact bodyPost_ret (v := .tuple #[.slice A5 (bs ++ be32 q).length c5, .bool true]) (by simp [results, Try.results44, go_sem, *]) rfl ⟨_, by rw [HK.out], by rw [HO.out]; exact H3⟩
  · have HK := Lib.hid (show frOk k xs.length = false by simp [frOk] at h ⊢; intro a b; have := h a b; omega)
    have HO := Lib.hid (show frOut k xs = [] by simp [frOut, HK.out])
    go_enter Try.func44, Try.ntmps44
    go_wp2
    all_goals
      have H0 := HS.drop.lit ([] : List UInt8) #[] 5 rfl rfl (by simp)
      simp only [World.size_alloc] at H0
      exact bodyPost_ret (v := .tuple #[.slice (some ⟨w.heap.size + 1, 0, none⟩) 0 0, .bool false]) (by simp [results, Try.results44, go_sem, *]) rfl ⟨_, by rw [HK.out], by rw [HO.out]; exact H0⟩
end Go.Proofs.Ytghpideinaaofaa
