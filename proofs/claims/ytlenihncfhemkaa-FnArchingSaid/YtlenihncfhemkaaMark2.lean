/- A grid that a call hands back: the laws mark it and look at the marks again. -/
import Derived.Test.YtlenihncfhemkaaMark
namespace Go.Proofs.Ytlenihncfhemkaa
open Go.RowKit Go.ChangeShapes Go.WideShapes

/-- A slice at 'a' that reads as the grid, in blocks from B up to C, each row in a block of its own. -/
def GridA (B C : Nat) (w : World) (a : Option Addr) (g : List (List Int)) : Prop :=
  g = [] ∨ ∃ (b : Nat) (r c : Nat → Nat), a = some ⟨b, 0, none⟩ ∧ B ≤ b ∧ b < C ∧
    (∀ j, j < g.length → w.cell? ⟨b, j, none⟩ = some (.slice (some ⟨r j, 0, none⟩) (nthL g j).length (c j)) ∧ (B ≤ r j ∧ r j < C ∧ r j ≠ b) ∧ RowC w (r j) (nthL g j).length (nth (nthL g j))) ∧
    (∀ i j, i < j → j < g.length → r i ≠ r j)
theorem RowC.nums {w : World} {b : Nat} {zs : List Int} (h : RowC w b zs.length (nth zs)) : Nums .i64 w (some ⟨b, 0, none⟩) zs :=
  .inr ⟨b, 0, rfl, fun j hj => by rw [Nat.zero_add]; exact (h j hj).1⟩
theorem GridA.grid {B C : Nat} {w : World} {a : Option Addr} {g : List (List Int)} (h : GridA B C w a g) : Grid w a g := by
  rcases h with rfl | ⟨b, r, c, rfl, _, _, hc, _⟩
  · exact .inl rfl
  · exact .inr ⟨b, 0, rfl, fun j hj => ⟨_, _, by rw [Nat.zero_add]; exact (hc j hj).1, (hc j hj).2.2.nums⟩⟩
theorem GridA.keep {B C : Nat} {w w' : World} {a : Option Addr} {g : List (List Int)} (h : GridA B C w a g) (hb : ∀ k, B ≤ k → k < C → w'.heap[k]? = w.heap[k]?) : GridA B C w' a g := by
  rcases h with rfl | ⟨b, r, c, rfl, h1, h2, hc, hd⟩
  · exact .inl rfl
  · refine .inr ⟨b, r, c, rfl, h1, h2, fun j hj => ?_, hd⟩
    obtain ⟨e1, e2, e3⟩ := hc j hj
    exact ⟨(World.cell?_of_block (w := w) (hb _ h1 h2)).trans e1, e2, e3.of_block (hb _ e2.1 e2.2.1)⟩
theorem GridA.below {B C : Nat} {w w' : World} {a : Option Addr} {g : List (List Int)} (h : GridA B C w a g) (hC : C ≤ w.heap.size) (hb : Below w.heap.size w w') : GridA B C w' a g :=
  h.keep fun k _ h2 => hb.block k (by omega)
theorem GridA.mid {B C D E : Nat} {w w' : World} {a : Option Addr} {g : List (List Int)} (h : GridA B C w a g) (hb : Mid D E w w') (hd : E ≤ B ∨ C ≤ D) : GridA B C w' a g :=
  h.keep fun k _ _ => hb.block k (by omega)
theorem GridA.wide {B C D E : Nat} {w : World} {a : Option Addr} {g : List (List Int)} (h : GridA B C w a g) (h1 : D ≤ B) (h2 : C ≤ E) : GridA D E w a g := by
  rcases h with rfl | ⟨b, r, c, rfl, e1, e2, hc, hd⟩
  · exact .inl rfl
  · refine .inr ⟨b, r, c, rfl, by omega, by omega, fun j hj => ?_, hd⟩
    obtain ⟨q1, q2, q3⟩ := hc j hj
    exact ⟨q1, by omega, q3⟩
theorem Laid.gridA {w : World} {B : Nat} {g : List (List Int)} (h : Laid w B g.length g g.length) : GridA B w.heap.size w (some ⟨B, 0, none⟩) g :=
  .inr ⟨B, fun j => B + 1 + j, fun j => (nthL g j).length, rfl, Nat.le_refl _, by rw [h.2.2]; omega, fun j hj => by
    have := h.1.cell hj
    rw [if_pos hj] at this
    exact ⟨this, by rw [h.2.2]; show B ≤ B + 1 + j ∧ B + 1 + j < B + 1 + g.length ∧ B + 1 + j ≠ B; omega, RowC.of_row (h.2.1 j hj)⟩, fun i j hi hj => by show B + 1 + i ≠ B + 1 + j; omega⟩
theorem RowA.wide {B C D E : Nat} {w : World} {a : Option Addr} {zs : List Int} (h : RowA B C w a zs) (h1 : D ≤ B) (h2 : C ≤ E) : RowA D E w a zs := by
  rcases h with rfl | ⟨b, rfl, e1, e2, hc⟩
  · exact .inl rfl
  · exact .inr ⟨b, rfl, by omega, by omega, hc⟩

/-- The marks of a grid from k on. -/
def marksG (k : Int) (g : List (List Int)) : List (List Int) := (List.range g.length).map fun (j : Nat) => marksF (k + sumL g j) (nthL g j).length
theorem marksG_len (k : Int) (g : List (List Int)) : (marksG k g).length = g.length := by simp [marksG]
theorem marksG_nth {k : Int} {g : List (List Int)} {j : Nat} (h : j < g.length) : nthL (marksG k g) j = marksF (k + sumL g j) (nthL g j).length := by simp [nthL, marksG, List.getD_eq_getElem?_getD, h]

/-- A grid of which the first c rows are marked. -/
def MarkTo (w : World) (b : Nat) (r cp : Nat → Nat) (k : Int) (g : List (List Int)) (c : Nat) : Prop :=
  ∀ j, j < g.length → w.cell? ⟨b, j, none⟩ = some (.slice (some ⟨r j, 0, none⟩) (nthL g j).length (cp j)) ∧ r j ≠ b ∧ RowC w (r j) (nthL g j).length (nth (if j < c then marksF (k + sumL g j) (nthL g j).length else nthL g j))
theorem RowC.congr {w : World} {b n : Nat} {f g : Nat → Int} (h : RowC w b n f) (e : ∀ j, j < n → f j = g j) : RowC w b n g := fun j hj => by rw [← e j hj]; exact h j hj
theorem RowA.rowC {b n : Nat} {w : World} {zs : List Int} (h : RowA b (b + 1) w (some ⟨b, 0, none⟩) zs) (hn : zs.length = n) : RowC w b n (nth zs) := by
  rcases h with rfl | ⟨b', e, h1, h2, hc⟩
  · intro j hj; simp at hn; omega
  · obtain rfl : b = b' := congrArg (fun q : Option Addr => (q.map Addr.block).getD 0) e
    rw [← hn]; exact hc
theorem MarkTo.step {w w' : World} {b : Nat} {r cp : Nat → Nat} {k : Int} {g : List (List Int)} {c : Nat} (h : MarkTo w b r cp k g c) (hd : ∀ i j, i < j → j < g.length → r i ≠ r j) (hc : c < g.length)
    (hm : Mid (r c) (r c + 1) w w') (hr : RowA (r c) (r c + 1) w' (some ⟨r c, 0, none⟩) (marksF (k + sumL g c) (nthL g c).length)) : MarkTo w' b r cp k g (c + 1) := by
  intro j hj
  obtain ⟨e1, e2, e3⟩ := h j hj
  have hb := (h c hc).2.1
  refine ⟨(World.cell?_of_block (w := w) (hm.block b (by omega))).trans e1, e2, ?_⟩
  by_cases hjc : j = c
  · subst hjc
    rw [if_pos (Nat.lt_succ_self _)]
    exact hr.rowC (marksF_len _ _)
  · have hne : r j ≠ r c := by
      rcases Nat.lt_or_gt_of_ne hjc with h1 | h1
      · exact hd j c h1 hc
      · exact fun e => hd c j h1 hj e.symm
    have := e3.of_block (hm.block (r j) (by omega))
    by_cases hl : j < c
    · rw [if_pos hl] at this; rw [if_pos (by omega)]; exact this
    · rw [if_neg hl] at this; rw [if_neg (by omega)]; exact this

end Go.Proofs.Ytlenihncfhemkaa
