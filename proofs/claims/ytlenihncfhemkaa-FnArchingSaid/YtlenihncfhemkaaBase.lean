/- Plain helpers for this seat's walks: a contract of a callee met at a call; what a slice that came in reads as; cells that a callee has left alone. -/
import Derived.Test.YtlenihncfhemkaaProg
import Derived.Test.YtlenihncfhemkaaMath
import Derived.WalkKit
import Derived.WalkSpells
import Derived.WalkLawsBesides
import Derived.Handy
import Derived.ProofKit
import Derived.Lib.Hide
import Derived.Deep.Matrix
import Derived.Deep.QuietTactic
import Derived.BigQuiet
import Derived.Deep.LoopGhost
import Derived.Deep.RegionHeld3
namespace Go.Proofs.Ytlenihncfhemkaa
open Go.RowKit Go.ChangeShapes Go.WideShapes

/-- What a callee has left alone reads as before. -/
theorem bcell {W w1 : World} (hb : Below W.heap.size W w1) : (∀ b o, b < W.heap.size → w1.cell? ⟨b, o, none⟩ = W.cell? ⟨b, o, none⟩) ∧ (∀ b o, b < W.heap.size → w1.frozen? ⟨b, o, none⟩ = W.frozen? ⟨b, o, none⟩) :=
  ⟨fun b o h => hb.cell (p := ⟨b, o, none⟩) h, fun b o h => hb.frozen (p := ⟨b, o, none⟩) h⟩

/-- A contract that leaves the world alone, met at a call. -/
theorem call_same {P : Program} {f : FuncId} {args : Array Value} {w : World} {v : Value} {Q : Ending → World → Prop}
    (c : Calls P f args w fun e w' => e = .returned v ∧ w = w') (k : Q (.returned v) w) : Calls P f args w Q :=
  c.mono fun _ _ ⟨he, hw⟩ => by rw [he, ← hw]; exact k

/-- A contract that at most lays new blocks, met at a call. -/
theorem call_below {P : Program} {f : FuncId} {args : Array Value} {w : World} {v : Value} {Q : Ending → World → Prop}
    (c : Calls P f args w fun e w' => e = .returned v ∧ Below w.heap.size w w') (k : ∀ w', Below w.heap.size w w' → Q (.returned v) w') : Calls P f args w Q :=
  c.mono fun _ w' ⟨he, hb⟩ => by rw [he]; exact k w' hb

theorem below_next {w W W' : World} (h : Below w.heap.size w W) (hb : Below W.heap.size W W') : Below w.heap.size w W' := h.trans (hb.mono h.size)
theorem below_from {w : World} {o : Obj} {W' : World} (h : Below (w.alloc o).heap.size (w.alloc o) W') : Below w.heap.size w W' :=
  ((Below.refl _ _).alloc (Nat.le_refl _) _).trans (h.mono (by simp))
/-- The cells of the block that the call has laid first, read in a later world. -/
theorem box_cell {w : World} {o : Obj} {W' : World} (h : Below (w.alloc o).heap.size (w.alloc o) W') (i : Nat) : W'.cell? ⟨w.heap.size, i, none⟩ = (w.alloc o).cell? ⟨w.heap.size, i, none⟩ :=
  h.cell (p := ⟨w.heap.size, i, none⟩) (by simp)

/-- A contract that leaves the world alone, in the other form. -/
theorem to_below {P : Program} {f : FuncId} {args : Array Value} {w : World} {v : Value}
    (c : Calls P f args w fun e w' => e = .returned v ∧ w = w') : Calls P f args w fun e w' => e = .returned v ∧ Below w.heap.size w w' :=
  c.mono fun _ _ ⟨he, hw⟩ => ⟨he, hw ▸ Below.refl _ _⟩

theorem below_drewN {B : Nat} {a w : World} (h : Below B a w) (n : Nat) : Below B a (w.drewN n) := ⟨h.os, h.tape, h.output, h.size, h.block⟩
/-- A contract that leaves the world alone, met inside a region that draws its order. -/
theorem quiet_at {P : Program} {f : FuncId} {args : Array Value} {w : World} {n : Nat} {v : Value}
    (h : Calls P f args (w.drewN n) fun e w' => e = .returned v ∧ w.drewN n = w') : Calls P f args (w.drewN n) fun e w'' => e = .returned v ∧ ∃ m, w'' = w.drewN m :=
  h.mono fun _ _ ⟨he, hm⟩ => ⟨he, n, hm.symm⟩

/-- Four cells of a block that was there, kept by a callee that lays new blocks; for a region that draws its order. -/
def Four (b : Nat) (v0 v1 v2 v3 : Value) (w : World) : Prop := w.cell? ⟨b, 0, none⟩ = some v0 ∧ w.cell? ⟨b, 1, none⟩ = some v1 ∧ w.cell? ⟨b, 2, none⟩ = some v2 ∧ w.cell? ⟨b, 3, none⟩ = some v3
theorem keep4 {w1 w2 : World} {b : Nat} {v0 v1 v2 v3 : Value} (d : Four b v0 v1 v2 v3 w1) (h : Below w1.heap.size w1 w2) :
    w2.cell? ⟨b, 0, none⟩ = some v0 ∧ w2.cell? ⟨b, 1, none⟩ = some v1 ∧ w2.cell? ⟨b, 2, none⟩ = some v2 ∧ w2.cell? ⟨b, 3, none⟩ = some v3 ∧ Below w1.heap.size w1 w2 := by
  obtain ⟨d0, d1, d2, d3⟩ := d
  have hb := World.block_lt_of_cell? w1 _ d0
  exact ⟨(h.cell (p := ⟨b, 0, none⟩) hb).trans d0, (h.cell (p := ⟨b, 1, none⟩) hb).trans d1, (h.cell (p := ⟨b, 2, none⟩) hb).trans d2, (h.cell (p := ⟨b, 3, none⟩) hb).trans d3, h⟩
theorem box_four {w W' : World} {t : TypeId} {v0 v1 v2 v3 : Value} (h : Below (w.alloc (.cells #[v0, v1, v2, v3] t)).heap.size (w.alloc (.cells #[v0, v1, v2, v3] t)) W') : Four w.heap.size v0 v1 v2 v3 W' :=
  ⟨by rw [box_cell h]; go_cell, by rw [box_cell h]; go_cell, by rw [box_cell h]; go_cell, by rw [box_cell h]; go_cell⟩

theorem Four.keep {w1 w2 : World} {b : Nat} {v0 v1 v2 v3 : Value} (d : Four b v0 v1 v2 v3 w1) (h : Below w1.heap.size w1 w2) : Four b v0 v1 v2 v3 w2 := by
  obtain ⟨e0, e1, e2, e3, _⟩ := keep4 d h
  exact ⟨e0, e1, e2, e3⟩
theorem Four.lt {w1 : World} {b : Nat} {v0 v1 v2 v3 : Value} (d : Four b v0 v1 v2 v3 w1) : b < w1.heap.size := World.block_lt_of_cell? w1 _ d.1
theorem Four.set3 {w : World} {b : Nat} {v0 v1 v2 v3 : Value} (d : Four b v0 v1 v2 v3 w) (u : Value) : Four b v0 v1 v2 u (w.setCell ⟨b, 3, none⟩ u) := by
  obtain ⟨d0, d1, d2, d3⟩ := d
  exact ⟨(World.cell?_setCell_other _ _ _ _ (by simp)).trans d0, (World.cell?_setCell_other _ _ _ _ (by simp)).trans d1, (World.cell?_setCell_other _ _ _ _ (by simp)).trans d2, World.cell?_setCell_same _ _ _ d3⟩
theorem Four.set0 {w : World} {b : Nat} {v0 v1 v2 v3 : Value} (d : Four b v0 v1 v2 v3 w) (u : Value) : Four b u v1 v2 v3 (w.setCell ⟨b, 0, none⟩ u) := by
  obtain ⟨d0, d1, d2, d3⟩ := d
  exact ⟨World.cell?_setCell_same _ _ _ d0, (World.cell?_setCell_other _ _ _ _ (by simp)).trans d1, (World.cell?_setCell_other _ _ _ _ (by simp)).trans d2, (World.cell?_setCell_other _ _ _ _ (by simp)).trans d3⟩
theorem Four.set2 {w : World} {b : Nat} {v0 v1 v2 v3 : Value} (d : Four b v0 v1 v2 v3 w) (u : Value) : Four b v0 v1 u v3 (w.setCell ⟨b, 2, none⟩ u) := by
  obtain ⟨d0, d1, d2, d3⟩ := d
  exact ⟨(World.cell?_setCell_other _ _ _ _ (by simp)).trans d0, (World.cell?_setCell_other _ _ _ _ (by simp)).trans d1, World.cell?_setCell_same _ _ _ d2, (World.cell?_setCell_other _ _ _ _ (by simp)).trans d3⟩

/-- The first k below n of which p holds. -/
def firstUpTo (p : Nat → Bool) (n : Nat) : Option Nat := (List.range n).find? p
def NoneTo (p : Nat → Bool) (k : Nat) : Prop := ∀ j, j < k → p j = false
theorem NoneTo.zero (p : Nat → Bool) : NoneTo p 0 := fun _ h => absurd h (Nat.not_lt_zero _)
theorem NoneTo.step {p : Nat → Bool} {k : Nat} (h : NoneTo p k) (hk : p k = false) : NoneTo p (k + 1) := fun j hj => by
  rcases Nat.lt_or_eq_of_le (Nat.le_of_lt_succ hj) with h1 | rfl
  · exact h j h1
  · exact hk
theorem first_some {p : Nat → Bool} {n k : Nat} (hk : k < n) (hp : p k = true) (h : NoneTo p k) : firstUpTo p n = some k := by
  unfold firstUpTo
  rw [List.find?_range_eq_some]
  exact ⟨hp, List.mem_range.2 hk, fun j hj => by rw [h j hj]; rfl⟩
theorem first_none {p : Nat → Bool} {n : Nat} (h : NoneTo p n) : firstUpTo p n = none := by
  unfold firstUpTo
  rw [List.find?_range_eq_none]
  exact fun j hj => by rw [h j hj]; rfl

end Go.Proofs.Ytlenihncfhemkaa
