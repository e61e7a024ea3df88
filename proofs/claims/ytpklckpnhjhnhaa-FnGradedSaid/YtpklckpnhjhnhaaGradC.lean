/- What the law of graded plates calls: the draws, and its own small functions. -/
import Derived.Test.YtpklckpnhjhnhaaDrawPlate2
import Derived.Test.YtpklckpnhjhnhaaPlate
import Derived.Test.YtpklckpnhjhnhaaHeights
namespace Go.Proofs.Ytpklckpnhjhnhaa
open Go.RowKit Go.ChangeShapes Go.WideShapes
set_option linter.unusedVariables false

theorem list_bd (xs : List Int) (h : xs.all (fun x => decide (-1000 ≤ x ∧ x ≤ 1000)) = true) : ∀ j, j < xs.length → -1000 ≤ nth xs j ∧ nth xs j ≤ 1000 := fun j hj => by
  rw [List.all_eq_true] at h
  exact of_decide_eq_true (h (nth xs j) (by rw [show nth xs j = xs[j] by simp [nth, hj]]; exact List.getElem_mem hj))
/-- among, over a list that the caller has just made. -/
theorem among_new (b : Nat) (a : Option Addr) (cap : Nat) (z xs : List Int) (n : Int) (w : World) (t : TypeId) (m : Nat) (hm : m = w.heap.size) (h : Src b w a cap z n) (hb : xs.all (fun x => decide (-1000 ≤ x ∧ x ≤ 1000)) = true) (hl0 : 2 ≤ xs.length) (hl1 : xs.length ≤ 200) (h0 : 0 ≤ n) (h1 : n ≤ 1000000000) :
    Calls Try.prog 48 #[.pointer (some ⟨b, 0, none⟩), .slice (some ⟨m, 0, none⟩) xs.length xs.length] (w.alloc (.cells (xs.map (Value.int .i64)).toArray t)) fun e w' => ∃ (x k : Int), e = .returned (.int .i64 x) ∧ (-1000 ≤ x ∧ x ≤ 1000) ∧ (n ≤ k ∧ k ≤ n + 2) ∧ Src b w' a cap z k ∧ Only b w w' := by
  subst hm
  refine (among_c b w.heap.size xs.length a cap z xs n _ (h.alloc _) (new_nums w xs t) (by have := h.lt; omega) hl0 hl1 h0 (by omega)).mono ?_
  rintro e w' ⟨j, k, rfl, hj, hk, hs, ho⟩
  exact ⟨_, k, rfl, list_bd xs hb j hj, hk, hs, ((Only.refl b w).alloc _).trans ho⟩
theorem drawLeast_c (b : Nat) (a : Option Addr) (cap : Nat) (z : List Int) (n : Int) (w : World) (h : Src b w a cap z n) (h0 : 0 ≤ n) (h1 : n ≤ 1000000000) :
    Calls Try.prog 54 #[.pointer (some ⟨b, 0, none⟩)] w fun e w' => ∃ (x k : Int), e = .returned (.int .i64 x) ∧ (-1000 ≤ x ∧ x ≤ 1000) ∧ Src b w' a cap z k ∧ Only b w w' := by
  have HS := Lib.hid h
  clear h
  go_enter Try.func54, Try.ntmps54
  go_wp2_with fail
  refine (among_new b a cap z [0, 1, 20, 24, 30, 200, 201, 25] n w 2 w.heap.size rfl HS.out (by decide) (by decide) (by decide) h0 h1).mono ?_
  rintro e w1 ⟨x, k, rfl, hx, hk, hs, ho⟩
  have HS1 := Lib.hid hs
  have HO1 := Lib.hid ho
  clear hs ho
  go_wp2
  go_ret
  exact ⟨x, k, rfl, hx, HS1.out, HO1.out⟩
theorem b10Long_c (a : Option Addr) (cap : Nat) (z : List Int) (w : World) (h : z.length ≤ maxLen) : Calls Try.prog 20 #[.slice a z.length cap] w fun e w' => e = .returned (.bool (decide (1048576 < z.length))) ∧ w = w' := by
  by_cases d1 : 1048576 < z.length
  · have e1 : decide ((1048576 : Int) < (z.length : Int)) = true := decide_eq_true (by omega)
    go_enter Try.func20, Try.ntmps20
    go_wp2
    go_ret
    exact ⟨by simp [d1], rfl⟩
  · have e1 : decide ((1048576 : Int) < (z.length : Int)) = false := decide_eq_false (by omega)
    go_enter Try.func20, Try.ntmps20
    go_wp2
    go_ret
    exact ⟨by simp [d1], rfl⟩
theorem b10Abs_c (x y : Int) (w : World) (hx : 0 ≤ x ∧ x ≤ 100000) (hy : 0 ≤ y ∧ y ≤ 100000) : Calls Try.prog 29 #[.int .i64 (x - y)] w fun e w' => e = .returned (.int .i64 (distF x y)) ∧ w = w' := by
  by_cases h : x - y < 0
  · rw [show distF x y = -(x - y) by unfold distF; omega]
    have d : decide (x - y < 0) = true := decide_eq_true h
    go_enter Try.func29, Try.ntmps29
    go_wp2
    go_ret
    exact ⟨rfl, rfl⟩
  · rw [show distF x y = x - y by unfold distF; omega]
    have d : decide (x - y < 0) = false := decide_eq_false h
    go_enter Try.func29, Try.ntmps29
    go_wp2
    go_ret
    exact ⟨rfl, rfl⟩
theorem sValidPlate_c (a : Option Addr) (cap : Nat) (g : List (List Int)) (w : World) (h : Grid w a g) (hs : Small g) :
    Calls Try.prog 23 #[.slice a g.length cap] w fun e w' => e = .returned (.bool (gridB 1 200 g)) ∧ Below w.heap.size w w' := by
  go_enter Try.func23, Try.ntmps23
  go_wp2_with (go_at_call 52; refine call_below (l08Ok_c _ _ g _ h hs) ?_; intro w1 hb1)
  go_ret
  exact ⟨rfl, hb1⟩
/-- Two pairs that are one. -/
theorem b10Nums_c (b c o : Nat) (cb cc : Nat) (x y : Int) (w : World) (h0 : w.cell? ⟨b, o, none⟩ = some (.int .i64 x)) (h1 : w.cell? ⟨b, o + 1, none⟩ = some (.int .i64 y)) (k0 : w.cell? ⟨c, 0, none⟩ = some (.int .i64 x)) (k1 : w.cell? ⟨c, 1, none⟩ = some (.int .i64 y)) :
    Calls Try.prog 26 #[.slice (some ⟨b, o, none⟩) 2 cb, .slice (some ⟨c, 0, none⟩) 2 cc] w fun e w' => e = .returned (.bool true) ∧ Below w.heap.size w w' := by
  have hN : ∀ (wr : World) (j : Nat), Below w.heap.size w wr → j < 2 → ∃ v : Int, wr.cell? ⟨b, o + j, none⟩ = some (.int .i64 v) ∧ wr.cell? ⟨c, j, none⟩ = some (.int .i64 v) := fun wr j hb hj => by
    match j, hj with
    | 0, _ => exact ⟨x, (hb.cell (World.block_lt_of_cell? _ _ h0)).trans h0, (hb.cell (World.block_lt_of_cell? _ _ k0)).trans k0⟩
    | 1, _ => exact ⟨y, (hb.cell (p := ⟨b, o + 1, none⟩) (World.block_lt_of_cell? _ _ h1)).trans h1, (hb.cell (World.block_lt_of_cell? _ _ k1)).trans k1⟩
  have HN := Lib.hid hN
  clear h0 h1 k0 k1 hN
  go_enter Try.func26, Try.ntmps26
  go_wp2
  go_loopw [5] (fun i wr => ∃ k : Nat, k ≤ 2 ∧ i = .int .i64 k ∧ Below w.heap.size w wr) (fun i _ => 2 - (intOf i).toNat)
  case atStart => exact ⟨0, Nat.zero_le _, rfl, Below.refl _ _⟩
  case round =>
    obtain ⟨k, hk, rfl, hbl⟩ := hrel
    by_cases hlt : k < 2
    · obtain ⟨v, hv1, hv2⟩ := HN.out wr k hbl hlt
      have hi0 : (0 : Int) ≤ (k : Int) := by omega
      have hi1 : (k : Int) < 2 := by omega
      go_wp2_with fail
      go_quiet (fail)
      go_wp2
      go_roundw
      case rel => exact ⟨k + 1, by omega, by go_num, below_drewN hbl _⟩
      case measure => simp [intOf]; omega
    · obtain rfl : k = 2 := by omega
      go_wp2
      go_ret
      exact ⟨rfl, hbl⟩

set_option maxRecDepth 100000 in
theorem drawGraded_c (a : Option Addr) (cap : Nat) (z : List Int) (w : World) (hz : Nums .u8 w a z) (hB : Bytes z) (hl : z.length ≤ 1048576) :
    Calls Try.prog 21 #[.slice a z.length cap] w fun e' w' => ∃ r c e m : Int, e' = .returned (.tuple #[.int .i64 r, .int .i64 c, .int .i64 e, .int .i64 m]) ∧ (-1000 ≤ r ∧ r ≤ 1000) ∧ (-1000 ≤ c ∧ c ≤ 1000) ∧ (-1000 ≤ e ∧ e ≤ 1000) ∧ (-1000 ≤ m ∧ m ≤ 1000) ∧ Below w.heap.size w w' := by
  have HN := Lib.hid hz
  clear hz
  go_enter Try.func21, Try.ntmps21
  go_wp2_with fail
  refine (l00From_c a cap z _ HN.out hB hl).mono ?_
  rintro e w1 ⟨rfl, hs1, hb1⟩
  have HS1 := Lib.hid hs1
  have HW1 := Lib.hid hb1
  have hz1 : w.heap.size < w1.heap.size := hs1.lt
  obtain ⟨b, hb⟩ : ∃ b, b = w.heap.size := ⟨_, rfl⟩
  rw [← hb] at HS1 HW1 hz1 ⊢
  have HB := Lib.hid hb
  clear hs1 hb1 hb
  go_wp2_with fail
  refine (among_new b a cap z [0, 1, 2, 3, 5, 8, 10, 11] 0 w1 2 w1.heap.size rfl HS1.out (by decide) (by decide) (by decide) (by omega) (by omega)).mono ?_
  rintro e' w2 ⟨r, k0, rfl, hr, hk0, hs, ho⟩
  have HS2 := Lib.hid hs
  have HO2 := Lib.hid ho
  clear hs ho HS1
  go_wp2_with fail
  refine (among_new b a cap z [0, 1, 2, 4, 6, 10, 11, 7] k0 w2 2 w2.heap.size rfl HS2.out (by decide) (by decide) (by decide) (by omega) (by omega)).mono ?_
  rintro e' w3 ⟨c, k1, rfl, hc, hk1, hs, ho⟩
  have HS3 := Lib.hid hs
  have HO3 := Lib.hid (HO2.out.trans ho)
  clear hs ho HS2 HO2
  go_wp2_with fail
  refine (among_new b a cap z [1, 35, 40, 200, 201, 0] k1 w3 2 w3.heap.size rfl HS3.out (by decide) (by decide) (by decide) (by omega) (by omega)).mono ?_
  rintro e' w4 ⟨e, k2, rfl, he, hk2, hs, ho⟩
  have HS4 := Lib.hid hs
  have HO4 := Lib.hid (HO3.out.trans ho)
  clear hs ho HS3 HO3
  go_wp2_with fail
  refine (among_new b a cap z [1, 24, 45, 200, 201, 0] k2 w4 2 w4.heap.size rfl HS4.out (by decide) (by decide) (by decide) (by omega) (by omega)).mono ?_
  rintro e' w5 ⟨m, k3, rfl, hm, hk3, hs, ho⟩
  have HS5 := Lib.hid hs
  have HO5 := Lib.hid (HO4.out.trans ho)
  clear hs ho HS4 HO4
  go_wp2
  go_returns
  exact ⟨r, c, e, m, rfl, hr, hc, he, hm, by rw [← HB.out]; exact HW1.out.trans (HO5.out.below (Nat.le_refl _) (by omega))⟩
set_option maxRecDepth 100000 in
theorem drawThin_c (a : Option Addr) (cap : Nat) (z : List Int) (w : World) (hz : Nums .u8 w a z) (hB : Bytes z) (hl : z.length ≤ 1048576) :
    Calls Try.prog 24 #[.slice a z.length cap] w fun e' w' => ∃ (v : Option Addr) (cp : Nat) (g : List (List Int)) (s : Int), e' = .returned (.tuple #[.slice v g.length cp, .int .i64 s]) ∧ Grid w' v g ∧ Small g ∧ (-1000 ≤ s ∧ s ≤ 1000) ∧ Below w.heap.size w w' := by
  have HN := Lib.hid hz
  clear hz
  go_enter Try.func24, Try.ntmps24
  go_wp2_with fail
  refine (l00From_c a cap z _ HN.out hB hl).mono ?_
  rintro e w1 ⟨rfl, hs1, hb1⟩
  have HS1 := Lib.hid hs1
  have HW1 := Lib.hid hb1
  have hz1 : w.heap.size < w1.heap.size := hs1.lt
  obtain ⟨b, hb⟩ : ∃ b, b = w.heap.size := ⟨_, rfl⟩
  rw [← hb] at HS1 HW1 hz1 ⊢
  have HB := Lib.hid hb
  clear hs1 hb1 hb
  go_wp2_with fail
  refine (draw_c b a cap z 0 w1 HS1.out (by omega) (by omega)).mono ?_
  rintro e w2 ⟨v, cp, g, k, rfl, hga, hsm, hk, hs2, ho2⟩
  have HS2 := Lib.hid hs2
  have HG2 := Lib.hid hga
  have HO2 := Lib.hid ho2
  have HSM := Lib.hid hsm
  clear hs2 hga ho2 hsm
  go_wp2_with fail
  refine (drawLeast_c b a cap z k w2 HS2.out (by omega) (by omega)).mono ?_
  rintro e w3 ⟨s, k3, rfl, hs, hs3, ho3⟩
  have HG3 := Lib.hid (HG2.out.only (Nat.le_refl _) ho3 (by omega))
  have HO3 := Lib.hid (HO2.out.trans ho3)
  clear hs3 ho3
  go_wp2
  go_returns
  exact ⟨v, cp, g, s, rfl, HG3.out.grid, HSM.out, hs, by rw [← HB.out]; exact HW1.out.trans (HO3.out.below (Nat.le_refl _) (by omega))⟩
set_option maxRecDepth 100000 in
theorem drawEven_c (a : Option Addr) (cap : Nat) (z : List Int) (w : World) (hz : Nums .u8 w a z) (hB : Bytes z) (hl : z.length ≤ 1048576) :
    Calls Try.prog 27 #[.slice a z.length cap] w fun e' w' => ∃ (v : Option Addr) (cp : Nat) (g : List (List Int)) (s : Int), e' = .returned (.tuple #[.slice v g.length cp, .int .i64 s]) ∧ Grid w' v g ∧ Small g ∧ (-1000 ≤ s ∧ s ≤ 1000) ∧ Below w.heap.size w w' := by
  have HN := Lib.hid hz
  clear hz
  go_enter Try.func27, Try.ntmps27
  go_wp2_with fail
  refine (l00From_c a cap z _ HN.out hB hl).mono ?_
  rintro e w1 ⟨rfl, hs1, hb1⟩
  have HS1 := Lib.hid hs1
  have HW1 := Lib.hid hb1
  have hz1 : w.heap.size < w1.heap.size := hs1.lt
  obtain ⟨b, hb⟩ : ∃ b, b = w.heap.size := ⟨_, rfl⟩
  rw [← hb] at HS1 HW1 hz1 ⊢
  have HB := Lib.hid hb
  clear hs1 hb1 hb
  go_wp2_with fail
  refine (draw_c b a cap z 0 w1 HS1.out (by omega) (by omega)).mono ?_
  rintro e w2 ⟨v, cp, g, k, rfl, hga, hsm, hk, hs2, ho2⟩
  have HS2 := Lib.hid hs2
  have HG2 := Lib.hid hga
  have HO2 := Lib.hid ho2
  have HSM := Lib.hid hsm
  clear hs2 hga ho2 hsm
  go_wp2_with fail
  refine (among_new b a cap z [0, 3, 8, 12, 19, 200, 201, -1] k w2 2 w2.heap.size rfl HS2.out (by decide) (by decide) (by decide) (by omega) (by omega)).mono ?_
  rintro e w3 ⟨s, k3, rfl, hs, hk3, hs3, ho3⟩
  have HG3 := Lib.hid (HG2.out.only (Nat.le_refl _) ho3 (by omega))
  have HO3 := Lib.hid (HO2.out.trans ho3)
  clear hs3 ho3
  go_wp2
  go_returns
  exact ⟨v, cp, g, s, rfl, HG3.out.grid, HSM.out, hs, by rw [← HB.out]; exact HW1.out.trans (HO3.out.below (Nat.le_refl _) (by omega))⟩
end Go.Proofs.Ytpklckpnhjhnhaa
