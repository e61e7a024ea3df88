/- The plates that the reference draws, valid mostly. -/
import Derived.Test.YtlenihncfhemkaaDrawPlate
namespace Go.Proofs.Ytlenihncfhemkaa
open Go.RowKit Go.ChangeShapes Go.WideShapes
set_option linter.unusedVariables false

theorem Only.drew {b : Nat} {a w : World} (h : Only b a w) : Only b a w.drew := ⟨h.os, h.tape, h.output, h.size, h.block⟩
theorem Src.drew {b : Nat} {w : World} {a : Option Addr} {cap : Nat} {z : List Int} {n : Int} (h : Src b w a cap z n) : Src b w.drew a cap z n := h
theorem Only.setNew {b : Nat} {w w' : World} (h : Only b w w') {p : Addr} (hp : w.heap.size ≤ p.block) (u : Value) : Only b w (w'.setCell p u) :=
  ⟨h.os, h.tape, h.output, by simpa using h.size, fun k hk hne => (Below.heap_setCell w' p u k (by omega)).trans (h.block k hk hne)⟩
theorem Src.over {b : Nat} {w0 w : World} {a : Option Addr} {cap : Nat} {z : List Int} {n0 n : Int} (h0 : Src b w0 a cap z n0) (h : Src b w a cap z n) {p : Addr} {u : Value} (hp : p.block ≠ b) (ho : Only b w0 (w.setCell p u)) : Src b (w.setCell p u) a cap z n := by
  obtain ⟨⟨c0, c1, s, c2⟩, ⟨f1, f2⟩, _, hB, ha⟩ := h
  have n0' : ∀ o, p ≠ (⟨b, o, none⟩ : Addr) := fun o e => hp (by rw [e])
  refine ⟨⟨(World.cell?_setCell_other _ _ _ _ (n0' 0)).trans c0, (World.cell?_setCell_other _ _ _ _ (n0' 1)).trans c1, s, (World.cell?_setCell_other _ _ _ _ (n0' 2)).trans c2⟩, ⟨by simpa using f1, by simpa using f2⟩, ?_, hB, ha⟩
  obtain ⟨-, -, hz, -, ha0⟩ := h0
  rcases hz with rfl | ⟨b2, o2, rfl, hc⟩
  · exact .inl rfl
  · refine .inr ⟨b2, o2, rfl, fun j hj => ?_⟩
    have h1 := hc j hj
    exact (ho.cell (p := ⟨b2, o2 + j, none⟩) (World.block_lt_of_cell? _ _ h1) (show b2 ≠ b from ha0 (by omega) ⟨b2, o2, none⟩ rfl)).trans h1
/-- The first number of the first row, written anew. -/
def poked (g : List (List Int)) (u : Int) : List (List Int) := g.set 0 ((nthL g 0).set 0 u)
theorem poked_len (g : List (List Int)) (u : Int) : (poked g u).length = g.length := by simp [poked]
theorem poked_nth {g : List (List Int)} {u : Int} {j : Nat} (hj : j < g.length) : nthL (poked g u) j = if j = 0 then (nthL g 0).set 0 u else nthL g j := by
  unfold poked nthL
  by_cases h : j = 0
  · subst h; simp [List.getD_eq_getElem?_getD, hj]
  · simp [List.getD_eq_getElem?_getD, h, Ne.symm h]
theorem poked_rlen {g : List (List Int)} {u : Int} {j : Nat} (hj : j < g.length) : (nthL (poked g u) j).length = (nthL g j).length := by
  rw [poked_nth hj]
  split
  · rename_i h; subst h; simp
  · rfl
theorem grid_poke {B C b : Nat} {r c : Nat → Nat} {w : World} {g : List (List Int)} (hB : B ≤ b) (hC : b < C)
    (h : ∀ j, j < g.length → w.cell? ⟨b, j, none⟩ = some (.slice (some ⟨r j, 0, none⟩) (nthL g j).length (c j)) ∧ (B ≤ r j ∧ r j < C ∧ r j ≠ b) ∧ RowC w (r j) (nthL g j).length (nth (nthL g j)))
    (hd : ∀ i j, i < j → j < g.length → r i ≠ r j) (h0 : 0 < g.length) (h1 : 0 < (nthL g 0).length) (u : Int) : GridA B C (w.setCell ⟨r 0, 0, none⟩ (.int .i64 u)) (some ⟨b, 0, none⟩) (poked g u) := by
  have hb0 := (h 0 h0).2.1
  refine .inr ⟨b, r, c, rfl, hB, hC, fun j hj => ?_, fun i j hi hj => hd i j hi (by rw [poked_len] at hj; exact hj)⟩
  rw [poked_len] at hj
  obtain ⟨e1, e2, e3⟩ := h j hj
  have hblk : (w.setCell ⟨r 0, 0, none⟩ (.int .i64 u)).heap[b]? = w.heap[b]? := Below.heap_setCell _ _ _ _ (Ne.symm hb0.2.2)
  refine ⟨by rw [poked_rlen hj]; exact (World.cell?_of_block (w := w) hblk).trans e1, e2, ?_⟩
  rw [poked_rlen hj, poked_nth hj]
  by_cases hj0 : j = 0
  · subst hj0
    rw [if_pos rfl]
    refine (e3.set h1 u).congr fun i hi => ?_
    by_cases hi0 : i = 0
    · subst hi0; simp [nth, h1]
    · simp [nth, List.getD_eq_getElem?_getD, hi0, Ne.symm hi0]
  · rw [if_neg hj0]
    exact e3.of_block (Below.heap_setCell _ _ _ _ (fun e => hd 0 j (by omega) hj e.symm))
theorem keepD {b ob r0 n0 c0 : Nat} {x0 : Int} {w w' : World} (h : (w.cell? ⟨ob, 0, none⟩ = some (.slice (some ⟨r0, 0, none⟩) n0 c0) ∧ w.cell? ⟨r0, 0, none⟩ = some (.int .i64 x0) ∧ w.frozen? ⟨r0, 0, none⟩ = false) ∧ ob ≠ b ∧ r0 ≠ b) (ho : Only b w w') :
    w'.cell? ⟨ob, 0, none⟩ = some (.slice (some ⟨r0, 0, none⟩) n0 c0) ∧ w'.cell? ⟨r0, 0, none⟩ = some (.int .i64 x0) ∧ w'.frozen? ⟨r0, 0, none⟩ = false ∧ Only b w w' := by
  obtain ⟨⟨h1, h2, h3⟩, h4, h5⟩ := h
  exact ⟨(ho.cell (World.block_lt_of_cell? _ _ h1) h4).trans h1, (ho.cell (World.block_lt_of_cell? _ _ h2) h5).trans h2, (ho.frozen (p := ⟨r0, 0, none⟩) (World.block_lt_of_cell? _ _ h2) h5).trans h3, ho⟩

theorem many_bd : ∀ j, j < 3 → ∃ M : Nat, nth [0, 10, 11] j = (M : Int) ∧ M ≤ 11 := fun j hj => by
  match j, hj with
  | 0, _ => exact ⟨0, rfl, by omega⟩
  | 1, _ => exact ⟨10, rfl, by omega⟩
  | 2, _ => exact ⟨11, rfl, by omega⟩
end Go.Proofs.Ytlenihncfhemkaa
