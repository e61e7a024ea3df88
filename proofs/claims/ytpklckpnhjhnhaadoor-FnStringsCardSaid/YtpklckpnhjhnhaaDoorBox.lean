/- Four cells of a block that may be written. -/
import Derived.Test.YtpklckpnhjhnhaaDoorBase
namespace Go.Proofs.YtpklckpnhjhnhaaDoor
open Go.RowKit Go.ChangeShapes Go.WideShapes
set_option linter.unusedVariables false

/-- Four cells of a block that may be written. -/
def Box4 (w : World) (b : Nat) (v0 v1 v2 v3 : Value) : Prop := Four b v0 v1 v2 v3 w ∧ w.frozen? ⟨b, 0, none⟩ = false ∧ w.frozen? ⟨b, 1, none⟩ = false ∧ w.frozen? ⟨b, 2, none⟩ = false ∧ w.frozen? ⟨b, 3, none⟩ = false
theorem Box4.new (w : World) (v0 v1 v2 v3 : Value) (t : TypeId) : Box4 (w.alloc (.cells #[v0, v1, v2, v3] t)) w.heap.size v0 v1 v2 v3 :=
  ⟨⟨by go_cell, by go_cell, by go_cell, by go_cell⟩, by go_cell, by go_cell, by go_cell, by go_cell⟩
theorem Box4.lt {c : Nat} {w : World} {v0 v1 v2 v3 : Value} (h : Box4 w c v0 v1 v2 v3) : c < w.heap.size := World.block_lt_of_cell? w _ h.1.1
theorem Box4.keep {c : Nat} {w w' : World} {v0 v1 v2 v3 : Value} (h : Box4 w c v0 v1 v2 v3) (hk : w'.heap[c]? = w.heap[c]?) : Box4 w' c v0 v1 v2 v3 := by
  obtain ⟨⟨d0, d1, d2, d3⟩, f0, f1, f2, f3⟩ := h
  exact ⟨⟨(World.cell?_of_block (w := w) hk).trans d0, (World.cell?_of_block (w := w) hk).trans d1, (World.cell?_of_block (w := w) hk).trans d2, (World.cell?_of_block (w := w) hk).trans d3⟩,
    (World.frozen?_of_block (w := w) hk).trans f0, (World.frozen?_of_block (w := w) hk).trans f1, (World.frozen?_of_block (w := w) hk).trans f2, (World.frozen?_of_block (w := w) hk).trans f3⟩
theorem Box4.below {c : Nat} {w w' : World} {v0 v1 v2 v3 : Value} (h : Box4 w c v0 v1 v2 v3) (hb : Below w.heap.size w w') : Box4 w' c v0 v1 v2 v3 := h.keep (hb.block c h.lt)
theorem Box4.alloc {c : Nat} {w : World} {v0 v1 v2 v3 : Value} (h : Box4 w c v0 v1 v2 v3) (o : Obj) : Box4 (w.alloc o) c v0 v1 v2 v3 := h.below ((Below.refl _ _).alloc (Nat.le_refl _) _)
theorem Box4.drewN {c : Nat} {w : World} {v0 v1 v2 v3 : Value} (h : Box4 w c v0 v1 v2 v3) (n : Nat) : Box4 (w.drewN n) c v0 v1 v2 v3 := h.keep rfl
/-- What a store of four values into the block leaves. -/
theorem box_done {B b : Nat} {w0 w : World} {v0 v1 v2 v3 : Value} (h : Box4 w b v0 v1 v2 v3) (hb : Below B w0 w) (hB : B ≤ b) (u0 u1 u2 u3 : Value) :
    Four b u0 u1 u2 u3 ((((w.setCell ⟨b, 0, none⟩ u0).setCell ⟨b, 1, none⟩ u1).setCell ⟨b, 2, none⟩ u2).setCell ⟨b, 3, none⟩ u3) ∧ Below B w0 ((((w.setCell ⟨b, 0, none⟩ u0).setCell ⟨b, 1, none⟩ u1).setCell ⟨b, 2, none⟩ u2).setCell ⟨b, 3, none⟩ u3) := by
  obtain ⟨⟨d0, d1, d2, d3⟩, -⟩ := h
  have n01 : (⟨b, 0, none⟩ : Addr) ≠ ⟨b, 1, none⟩ := by simp
  have n02 : (⟨b, 0, none⟩ : Addr) ≠ ⟨b, 2, none⟩ := by simp
  have n03 : (⟨b, 0, none⟩ : Addr) ≠ ⟨b, 3, none⟩ := by simp
  have n12 : (⟨b, 1, none⟩ : Addr) ≠ ⟨b, 2, none⟩ := by simp
  have n13 : (⟨b, 1, none⟩ : Addr) ≠ ⟨b, 3, none⟩ := by simp
  have n23 : (⟨b, 2, none⟩ : Addr) ≠ ⟨b, 3, none⟩ := by simp
  have O := World.cell?_setCell_other
  refine ⟨⟨?_, ?_, ?_, ?_⟩, (((hb.setCell hB _).setCell hB _).setCell hB _).setCell hB _⟩
  · exact (O _ _ _ _ n03.symm).trans ((O _ _ _ _ n02.symm).trans ((O _ _ _ _ n01.symm).trans (World.cell?_setCell_same _ _ _ d0)))
  · exact (O _ _ _ _ n13.symm).trans ((O _ _ _ _ n12.symm).trans (World.cell?_setCell_same _ _ _ ((O _ _ _ _ n01).trans d1)))
  · exact (O _ _ _ _ n23.symm).trans (World.cell?_setCell_same _ _ _ ((O _ _ _ _ n12).trans ((O _ _ _ _ n02).trans d2)))
  · exact World.cell?_setCell_same _ _ _ ((O _ _ _ _ n23).trans ((O _ _ _ _ n13).trans ((O _ _ _ _ n03).trans d3)))
end Go.Proofs.YtpklckpnhjhnhaaDoor
