/- A grid of the call's own that is written in place; the reference's copies of rows and of grids. -/
import Derived.Test.YtlenihncfhemkaaOwnG
namespace Go.Proofs.Ytlenihncfhemkaa
open Go.RowKit Go.ChangeShapes Go.WideShapes
set_option linter.unusedVariables false

/-- The block b holds the rows of a grid of g's shape, row j in block r j, whose numbers are f. -/
def GridF (B C : Nat) (w : World) (b : Nat) (r c : Nat → Nat) (g : List (List Int)) (f : Nat → Nat → Int) : Prop :=
  (B ≤ b ∧ b < C) ∧ (∀ j, j < g.length → w.cell? ⟨b, j, none⟩ = some (.slice (some ⟨r j, 0, none⟩) (nthL g j).length (c j)) ∧ (B ≤ r j ∧ r j < C ∧ r j ≠ b) ∧ RowC w (r j) (nthL g j).length (f j)) ∧ (∀ i j, i < j → j < g.length → r i ≠ r j)
theorem GridF.congr {B C : Nat} {w : World} {b : Nat} {r c : Nat → Nat} {g : List (List Int)} {f f' : Nat → Nat → Int} (h : GridF B C w b r c g f) (e : ∀ j, j < g.length → ∀ k, k < (nthL g j).length → f j k = f' j k) : GridF B C w b r c g f' :=
  ⟨h.1, fun j hj => ⟨(h.2.1 j hj).1, (h.2.1 j hj).2.1, (h.2.1 j hj).2.2.congr fun k hk => e j hj k hk⟩, h.2.2⟩
theorem GridF.below {B C : Nat} {w w' : World} {b : Nat} {r c : Nat → Nat} {g : List (List Int)} {f : Nat → Nat → Int} (h : GridF B C w b r c g f) (hC : C ≤ w.heap.size) (hb : Below w.heap.size w w') : GridF B C w' b r c g f :=
  ⟨h.1, fun j hj => ⟨(World.cell?_of_block (w := w) (hb.block b (by have := h.1; omega))).trans (h.2.1 j hj).1, (h.2.1 j hj).2.1, (h.2.1 j hj).2.2.of_block (hb.block _ (by have := (h.2.1 j hj).2.1; omega))⟩, h.2.2⟩
theorem GridF.set {B C : Nat} {w : World} {b : Nat} {r c : Nat → Nat} {g : List (List Int)} {f : Nat → Nat → Int} (h : GridF B C w b r c g f) {i k : Nat} (hi : i < g.length) (hk : k < (nthL g i).length) (u : Int) :
    GridF B C (w.setCell ⟨r i, k, none⟩ (.int .i64 u)) b r c g (fun x y => if x = i ∧ y = k then u else f x y) := by
  have hri := (h.2.1 i hi).2.1
  refine ⟨h.1, fun j hj => ?_, h.2.2⟩
  obtain ⟨e1, e2, e3⟩ := h.2.1 j hj
  refine ⟨(World.cell?_setCell_other _ _ _ _ (by simp)).trans e1, e2, ?_⟩
  by_cases e : j = i
  · subst e
    refine (e3.set hk u).congr fun q _ => ?_
    by_cases hq : q = k <;> simp [hq]
  · have hne : r i ≠ r j := by
      rcases Nat.lt_or_gt_of_ne e with h1 | h1
      · exact fun e' => h.2.2 j i h1 hi e'.symm
      · exact h.2.2 i j h1 hj
    refine (e3.of_block (Below.heap_setCell _ _ _ _ (fun e' => hne e'.symm))).congr fun q _ => ?_
    show f j q = if j = i ∧ q = k then u else f j q
    rw [if_neg (fun h' => e h'.1)]
theorem GridF.gridA {B C : Nat} {w : World} {b : Nat} {r c : Nat → Nat} {g : List (List Int)} {E : Nat × Nat → Int} (h : GridF B C w b r c g (fun i k => E (i, k))) : GridA B C w (some ⟨b, 0, none⟩) (gridG E (lenG g) g.length) := by
  refine .inr ⟨b, r, c, rfl, h.1.1, h.1.2, fun j hj => ?_, ?_⟩
  · rw [gridG_len] at hj
    obtain ⟨e1, e2, e3⟩ := h.2.1 j hj
    rw [gridG_nth hj, rowG_len]
    exact ⟨e1, e2, e3.congr fun k hk => (rowG_nth hk).symm⟩
  · rw [gridG_len]; exact h.2.2
theorem GridA.gridF {B C : Nat} {w : World} {a : Option Addr} {g : List (List Int)} (h : GridA B C w a g) (hg : 0 < g.length) : ∃ b r c, a = some ⟨b, 0, none⟩ ∧ GridF B C w b r c g (fun j => nth (nthL g j)) := by
  rcases h with rfl | ⟨b, r, c, rfl, h1, h2, hc, hd⟩
  · simp at hg
  · exact ⟨b, r, c, rfl, ⟨h1, h2⟩, hc, hd⟩

end Go.Proofs.Ytlenihncfhemkaa
