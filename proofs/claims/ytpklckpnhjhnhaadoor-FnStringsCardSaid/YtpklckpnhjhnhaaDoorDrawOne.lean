/- The string that the reference draws, and the numbers that the laws choose by a byte. -/
import Derived.Test.YtpklckpnhjhnhaaDoorDraw
import Derived.Test.YtpklckpnhjhnhaaDoorBox
import Derived.Test.YtpklckpnhjhnhaaDoorCord
namespace Go.Proofs.YtpklckpnhjhnhaaDoor
open Go.RowKit Go.ChangeShapes Go.WideShapes
set_option linter.unusedVariables false

/-- The bounds in which a drawn string lies. -/
def DrawnC (p q r s : Int) : Prop := (1960 ≤ p ∧ p ≤ 6593) ∧ (320 ≤ q ∧ q ≤ 335) ∧ (300 ≤ r ∧ r ≤ 2890) ∧ (60000 ≤ s ∧ s ≤ 149000)
theorem Box4.only {b c : Nat} {w w' : World} {v0 v1 v2 v3 : Value} (h : Box4 w c v0 v1 v2 v3) (ho : Only b w w') (hne : c ≠ b) : Box4 w' c v0 v1 v2 v3 := h.keep (ho.block c h.lt hne)
theorem Box4.set2 {c : Nat} {w : World} {v0 v1 v2 v3 : Value} (h : Box4 w c v0 v1 v2 v3) (u : Value) : Box4 (w.setCell ⟨c, 2, none⟩ u) c v0 v1 u v3 :=
  ⟨h.1.set2 u, by simpa using h.2.1, by simpa using h.2.2.1, by simpa using h.2.2.2.1, by simpa using h.2.2.2.2⟩
theorem Box4.set3 {c : Nat} {w : World} {v0 v1 v2 v3 : Value} (h : Box4 w c v0 v1 v2 v3) (u : Value) : Box4 (w.setCell ⟨c, 3, none⟩ u) c v0 v1 v2 u :=
  ⟨h.1.set3 u, by simpa using h.2.1, by simpa using h.2.2.1, by simpa using h.2.2.2.1, by simpa using h.2.2.2.2⟩
theorem Only.setNew {b : Nat} {w w' : World} (h : Only b w w') {p : Addr} (hp : w.heap.size ≤ p.block) (u : Value) : Only b w (w'.setCell p u) :=
  ⟨h.os, h.tape, h.output, by simpa using h.size, fun k hk hne => (Below.heap_setCell w' p u k (by omega)).trans (h.block k hk hne)⟩
theorem Src.over {b : Nat} {w0 w : World} {a : Option Addr} {cap : Nat} {z : List Int} {n0 n : Int} (h0 : Src b w0 a cap z n0) (h : Src b w a cap z n) {p : Addr} {u : Value} (hp : p.block ≠ b) (ho : Only b w0 (w.setCell p u)) : Src b (w.setCell p u) a cap z n := by
  obtain ⟨⟨c0, c1, s, c2⟩, ⟨f1, f2⟩, _, hB, ha⟩ := h
  have n0' : ∀ o, p ≠ (⟨b, o, none⟩ : Addr) := fun o e => hp (by rw [e])
  refine ⟨⟨(World.cell?_setCell_other _ _ _ _ (n0' 0)).trans c0, (World.cell?_setCell_other _ _ _ _ (n0' 1)).trans c1, s, (World.cell?_setCell_other _ _ _ _ (n0' 2)).trans c2⟩, ⟨by simpa using f1, by simpa using f2⟩, ?_, hB, ha⟩
  obtain ⟨-, -, hz, -, ha0⟩ := h0
  rcases hz with rfl | ⟨b2, o2, rfl, hc⟩
  · exact .inl rfl
  · refine .inr ⟨b2, o2, rfl, fun j hj => ?_⟩
    have h1 := hc j hj
    exact (ho.cell (p := ⟨b2, o2 + j, none⟩) (World.block_lt_of_cell? _ _ h1) (show b2 ≠ b from ha0 (by omega) ⟨b2, o2, none⟩ rfl)).trans h1
theorem box_doneO {b c : Nat} {w0 w : World} {v0 v1 v2 v3 : Value} (h : Box4 w c v0 v1 v2 v3) (ho : Only b w0 w) (hc : w0.heap.size ≤ c) (u0 u1 u2 u3 : Value) :
    Four c u0 u1 u2 u3 ((((w.setCell ⟨c, 0, none⟩ u0).setCell ⟨c, 1, none⟩ u1).setCell ⟨c, 2, none⟩ u2).setCell ⟨c, 3, none⟩ u3) ∧ Only b w0 ((((w.setCell ⟨c, 0, none⟩ u0).setCell ⟨c, 1, none⟩ u1).setCell ⟨c, 2, none⟩ u2).setCell ⟨c, 3, none⟩ u3) :=
  ⟨(box_done h (Below.refl 0 w) (Nat.zero_le _) u0 u1 u2 u3).1, (((ho.setNew (p := ⟨c, 0, none⟩) hc _).setNew (p := ⟨c, 1, none⟩) hc _).setNew (p := ⟨c, 2, none⟩) hc _).setNew (p := ⟨c, 3, none⟩) hc _⟩
theorem pitch_bd : ∀ j, j < 4 → 1960 ≤ nth [1960, 2937, 4400, 6593] j ∧ nth [1960, 2937, 4400, 6593] j ≤ 6593 := by decide
set_option maxRecDepth 100000 in
theorem drawOne_c (b : Nat) (a : Option Addr) (cap : Nat) (z : List Int) (n : Int) (w : World) (h : Src b w a cap z n) (h0 : 0 ≤ n) (h1 : n ≤ 100000000000) :
    Calls Tryd.prog 32 #[.pointer (some ⟨b, 0, none⟩)] w fun e w' => ∃ p q r s : Int, e = .returned (.agg #[.int .i64 p, .int .i64 q, .int .i64 r, .int .i64 s]) ∧ DrawnC p q r s ∧ Only b w w' := by
  have HS := Lib.hid h
  have hbl := h.lt
  clear h
  have HS0 := Lib.hid ((HS.out.alloc (.cells #[.int .i64 0, .int .i64 0, .int .i64 0, .int .i64 0] 25)).alloc (.cells #[.int .i64 1960, .int .i64 2937, .int .i64 4400, .int .i64 6593] 2))
  have HO0 := Lib.hid (((Only.refl b w).alloc (.cells #[.int .i64 0, .int .i64 0, .int .i64 0, .int .i64 0] 25)).alloc (.cells #[.int .i64 1960, .int .i64 2937, .int .i64 4400, .int .i64 6593] 2))
  have HX := Lib.hid (show ∀ j, j < [1960, 2937, 4400, 6593].length → ((w.alloc (.cells #[.int .i64 0, .int .i64 0, .int .i64 0, .int .i64 0] 25)).alloc (.cells #[.int .i64 1960, .int .i64 2937, .int .i64 4400, .int .i64 6593] 2)).cell? ⟨w.heap.size + 1, j, none⟩ = some (.int .i64 (nth [1960, 2937, 4400, 6593] j)) by
    have e : (w.alloc (.cells #[.int .i64 0, .int .i64 0, .int .i64 0, .int .i64 0] 25)).heap.size = w.heap.size + 1 := by simp
    rw [← e]
    exact new_nums _ [1960, 2937, 4400, 6593] _)
  have HB0 := Lib.hid ((Box4.new w (.int .i64 0) (.int .i64 0) (.int .i64 0) (.int .i64 0) 25).below ((Below.refl _ _).alloc (Nat.le_refl _) (.cells #[.int .i64 1960, .int .i64 2937, .int .i64 4400, .int .i64 6593] 2)))
  go_enter Tryd.func32, Tryd.ntmps32
  go_wp2_with fail
  refine (among_c b (w.heap.size + 1) 4 a cap z [1960, 2937, 4400, 6593] n _ HS0.out HX.out (by omega) (by decide) (by decide) h0 (by omega)).mono ?_
  rintro e w1 ⟨j, k, rfl, hj, hk, hs1, ho1⟩
  have hp := pitch_bd j hj
  generalize nth [1960, 2937, 4400, 6593] j = p at hp ⊢
  have HS1 := Lib.hid hs1
  have HB1 := Lib.hid (HB0.out.only ho1 (by omega))
  have HO1 := Lib.hid (HO0.out.trans ho1)
  clear hs1 ho1 hj HX HS0 HB0 HO0
  go_wp2_with fail
  refine (pick_c b a cap z 16 k _ HS1.out (by omega) (by omega) (by omega) (by omega)).mono ?_
  rintro e w2 ⟨x, k2, rfl, hx, hk2, hs2, ho2⟩
  have HS2 := Lib.hid (hs2.alloc (.cells #[.int .i64 p, .int .i64 (320 + x), .int .i64 0, .int .i64 0] 25))
  have HB2 := Lib.hid ((HB1.out.only ho2 (by omega)).below ((Below.refl _ _).alloc (Nat.le_refl _) (.cells #[.int .i64 p, .int .i64 (320 + x), .int .i64 0, .int .i64 0] 25)))
  have HC2 := Lib.hid (Box4.new w2 (.int .i64 p) (.int .i64 (320 + x)) (.int .i64 0) (.int .i64 0) 25)
  have HO2 := Lib.hid ((HO1.out.trans ho2).alloc (.cells #[.int .i64 p, .int .i64 (320 + x), .int .i64 0, .int .i64 0] 25))
  have hz2 : w.heap.size < w1.heap.size := HB1.out.lt
  have hz3 := ho2.size
  clear hs2 ho2 HS1 HB1 HO1
  go_wp2_with fail
  refine (pick2_c b a cap z 260 k2 _ HS2.out (by omega) (by omega) (by omega) (by omega)).mono ?_
  rintro e w3 ⟨y, k3, rfl, hy, hk3, hs3, ho3⟩
  have HB3 := Lib.hid (HB2.out.only ho3 (by omega))
  have HC3 := Lib.hid (HC2.out.only ho3 (by omega))
  have hw2 : w2.heap.size < w3.heap.size := HC3.out.lt
  have HS3 := Lib.hid hs3
  have HO3 := Lib.hid (HO2.out.trans ho3)
  clear hs3 ho3 HS2 HB2 HC2 HO2
  obtain ⟨⟨c0, c1, c2, c3⟩, k0, k1, k2', k3'⟩ := HC3.out
  have HO4 := Lib.hid (HO3.out.setNew (p := ⟨w2.heap.size, 2, none⟩) (show w.heap.size ≤ w2.heap.size by omega) (.int .i64 (300 + 10 * y)))
  have HS4 := Lib.hid (HS.out.over HS3.out (p := ⟨w2.heap.size, 2, none⟩) (show w2.heap.size ≠ b by omega) HO4.out)
  have HB4 := Lib.hid (HB3.out.keep (w' := w3.setCell ⟨w2.heap.size, 2, none⟩ (.int .i64 (300 + 10 * y))) (Below.heap_setCell _ _ _ _ (show w.heap.size ≠ w2.heap.size by omega)))
  have HC4 := Lib.hid (HC3.out.set2 (.int .i64 (300 + 10 * y)))
  go_wp2_with fail
  refine (pick_c b a cap z 90 k3 _ HS4.out (by omega) (by omega) (by omega) (by omega)).mono ?_
  rintro e w5 ⟨u, k4, rfl, hu, hk4, hs5, ho5⟩
  have HB5 := Lib.hid (HB4.out.only ho5 (by omega))
  have HC5 := Lib.hid (HC4.out.only ho5 (by omega))
  have HO5 := Lib.hid ((HO4.out.trans ho5).setNew (p := ⟨w2.heap.size, 3, none⟩) (show w.heap.size ≤ w2.heap.size by omega) (.int .i64 (60000 + 1000 * u)))
  have HB6 := Lib.hid (HB5.out.keep (w' := w5.setCell ⟨w2.heap.size, 3, none⟩ (.int .i64 (60000 + 1000 * u))) (Below.heap_setCell _ _ _ _ (show w.heap.size ≠ w2.heap.size by omega)))
  have HC6 := Lib.hid (HC5.out.set3 (.int .i64 (60000 + 1000 * u)))
  obtain ⟨⟨c0, c1, c2, c3⟩, k0, k1, k2', k3'⟩ := HC5.out
  obtain ⟨⟨b0, b1, b2, b3⟩, g0, g1, g2, g3⟩ := HB5.out
  have E := Lib.hid (box_doneO HB6.out HO5.out (Nat.le_refl _) (.int .i64 p) (.int .i64 (320 + x)) (.int .i64 (300 + 10 * y)) (.int .i64 (60000 + 1000 * u)))
  have hwd : w.heap.size < w2.heap.size := by omega
  clear hs5 ho5 HS HS3 HS4 HO3 HO4 HB3 HB4 HC3 HC4 HB5 HC5 HB6 HO5 HC6 hw2 hz3 hz2
  go_wp2
  generalize (((((w5.setCell ⟨w2.heap.size, 3, none⟩ (.int .i64 (60000 + 1000 * u))).setCell ⟨w.heap.size, 0, none⟩ (.int .i64 p)).setCell ⟨w.heap.size, 1, none⟩ (.int .i64 (320 + x))).setCell ⟨w.heap.size, 2, none⟩ (.int .i64 (300 + 10 * y))).setCell ⟨w.heap.size, 3, none⟩ (.int .i64 (60000 + 1000 * u))) = w7 at E ⊢
  obtain ⟨⟨e0, e1, e2, e3⟩, hb⟩ := E.out
  refine bodyPost_ret (by simp [results, Tryd.results32, go_sem, e0, e1, e2, e3]; try rfl) rfl ?_
  exact ⟨p, 320 + x, 300 + 10 * y, 60000 + 1000 * u, rfl, ⟨hp, by omega, by omega, by omega⟩, hb⟩
set_option maxRecDepth 100000 in
/-- The string that the laws draw. -/
theorem r8String_c (a : Option Addr) (cap : Nat) (z : List Int) (w : World) (hz : Nums .u8 w a z) (hB : Bytes z) (hl : z.length ≤ 1048576) :
    Calls Tryd.prog 8 #[.slice a z.length cap] w fun e w' => ∃ p q r s : Int, e = .returned (.agg #[.int .i64 p, .int .i64 q, .int .i64 r, .int .i64 s]) ∧ DrawnC p q r s ∧ Below w.heap.size w w' := by
  have HZ := Lib.hid (Box4.new w (.int .i64 0) (.int .i64 0) (.int .i64 0) (.int .i64 0) 25)
  have HN := Lib.hid (hz.below ((Below.refl _ _).alloc (Nat.le_refl _) (.cells #[.int .i64 0, .int .i64 0, .int .i64 0, .int .i64 0] 25)))
  clear hz
  go_enter Tryd.func8, Tryd.ntmps8
  go_wp2_with fail
  refine (l00From_c a cap z _ HN.out hB hl).mono ?_
  rintro e w1 ⟨rfl, hs1, hb1⟩
  rw [show (w.alloc (.cells #[.int .i64 0, .int .i64 0, .int .i64 0, .int .i64 0] 25)).heap.size = w.heap.size + 1 by simp] at hs1 ⊢
  have HZ1 := Lib.hid (HZ.out.below hb1)
  have HS1 := Lib.hid hs1
  have HW1 := Lib.hid (below_from hb1)
  have hz1 : w.heap.size < w1.heap.size := HZ1.out.lt
  clear hs1 hb1 HZ
  go_wp2_with fail
  refine (drawOne_c (w.heap.size + 1) a cap z 0 w1 HS1.out (by omega) (by omega)).mono ?_
  rintro e w2 ⟨p, q, r, s, rfl, hd, ho⟩
  have HZ2 := Lib.hid (HZ1.out.only ho (by omega))
  have HW2 := Lib.hid (HW1.out.trans (ho.below (by omega) (by omega)))
  obtain ⟨⟨b0, b1, b2, b3⟩, g0, g1, g2, g3⟩ := HZ2.out
  have E := Lib.hid (box_done HZ2.out HW2.out (Nat.le_refl _) (.int .i64 p) (.int .i64 q) (.int .i64 r) (.int .i64 s))
  clear ho HZ1 HZ2 HW1 HW2 HS1 HN
  go_wp2
  generalize ((((w2.setCell ⟨w.heap.size, 0, none⟩ (.int .i64 p)).setCell ⟨w.heap.size, 1, none⟩ (.int .i64 q)).setCell ⟨w.heap.size, 2, none⟩ (.int .i64 r)).setCell ⟨w.heap.size, 3, none⟩ (.int .i64 s)) = w4 at E ⊢
  obtain ⟨⟨e0, e1, e2, e3⟩, hb⟩ := E.out
  refine bodyPost_ret (by simp [results, Tryd.results8, go_sem, e0, e1, e2, e3]; try rfl) rfl ?_
  exact ⟨p, q, r, s, rfl, hd, hb⟩
end Go.Proofs.YtpklckpnhjhnhaaDoor
