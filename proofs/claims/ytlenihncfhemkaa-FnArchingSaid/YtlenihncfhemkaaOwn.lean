/- Rows that a call has made itself by append: integers; places (pairs of integers). -/
import Derived.Test.YtlenihncfhemkaaGrid
import Derived.WalkKit
namespace Go.Proofs.Ytlenihncfhemkaa
open Go.RowKit Go.ChangeShapes Go.WideShapes

/-- What an append leaves, below a block number that the row does not lie under. -/
theorem below_grown {B : Nat} {a w w' : World} {row : Option Nat} (h : Below B a w) (hB : B ≤ w.heap.size) (hg : w.grownBy w' row) (hrow : ∀ k, row = some k → B ≤ k) : Below B a w' :=
  ⟨hg.os.trans h.os, hg.tape.trans h.tape, hg.output.trans h.output, Nat.le_trans h.size hg.size, fun k hk => (hg.block k (Nat.lt_of_lt_of_le hk hB) (fun e => by have := hrow k e.symm; omega)).trans (h.block k hk)⟩
theorem own_new1 (w : World) (e : TypeId) (u : Value) : ∀ j x, [u][j]? = some x → (w.alloc (.cells #[u] e)).cell? ((⟨w.heap.size, 0, none⟩ : Addr).add j) = some x := by
  intro j x hj
  match j, hj with
  | 0, hj => simp at hj; subst hj; simp [Addr.add]
theorem own_new2 (w : World) (e : TypeId) (u v : Value) : ∀ j x, [u, v][j]? = some x → (w.alloc (.cells #[u, v] e)).cell? ((⟨w.heap.size, 0, none⟩ : Addr).add j) = some x := by
  intro j x hj
  match j, hj with
  | 0, hj => simp at hj; subst hj; simp [Addr.add]
  | 1, hj => simp at hj; subst hj; simp [Addr.add]

/-- The cells of a list of places. -/
def plCells (l : List (Nat × Nat)) : List Value := l.flatMap fun p => [.int .i64 p.1, .int .i64 p.2]
theorem plCells_snoc (l : List (Nat × Nat)) (p : Nat × Nat) : plCells (l ++ [p]) = plCells l ++ [.int .i64 p.1, .int .i64 p.2] := by simp [plCells]
/-- The places of row i up to column c. -/
def rowPl (i c : Nat) : List (Nat × Nat) := (List.range c).map fun k => (i, k)
theorem rowPl_succ (i c : Nat) : rowPl i (c + 1) = rowPl i c ++ [(i, c)] := by simp [rowPl, List.range_succ]
theorem rowPl_len (i c : Nat) : (rowPl i c).length = c := by simp [rowPl]
/-- The places of the first i rows. -/
def plTo (g : List (List Int)) : Nat → List (Nat × Nat)
  | 0 => []
  | i + 1 => plTo g i ++ rowPl i (nthL g i).length
theorem plTo_len (g : List (List Int)) : ∀ i, (plTo g i).length = sumL g i
  | 0 => rfl
  | i + 1 => by simp only [plTo, sumL, List.length_append, rowPl_len, plTo_len g i]
theorem plTo_in {g : List (List Int)} : ∀ {i : Nat} {p : Nat × Nat}, i ≤ g.length → p ∈ plTo g i → p.1 < g.length ∧ p.2 < (nthL g p.1).length
  | 0, p, _, h => by simp [plTo] at h
  | i + 1, p, hi, h => by
    simp only [plTo, List.mem_append] at h
    rcases h with h | h
    · exact plTo_in (by omega) h
    · simp only [rowPl, List.mem_map, List.mem_range] at h
      obtain ⟨k, hk, rfl⟩ := h
      exact ⟨hi, hk⟩
theorem own_pl_cells {w : World} {B g n cap : Nat} {e : TypeId} {l : List (Nat × Nat)} (h : w.ownsRow B e 2 (.slice (some ⟨g, 0, none⟩) n cap) l.length (plCells l)) {j : Nat} (hj : j < l.length) :
    w.cell? ⟨g, j * 2, none⟩ = some (.int .i64 (l.getD j (0, 0)).1) ∧ w.cell? ⟨g, j * 2 + 1, none⟩ = some (.int .i64 (l.getD j (0, 0)).2) := by
  have hc := h.cells (g := g) rfl
  have key : ∀ (l : List (Nat × Nat)) j, j < l.length → (plCells l)[j * 2]? = some (.int .i64 (l.getD j (0, 0)).1) ∧ (plCells l)[j * 2 + 1]? = some (.int .i64 (l.getD j (0, 0)).2) := by
    intro l
    induction l with
    | nil => intro j hj; simp at hj
    | cons p l ih =>
      intro j hj
      cases j with
      | zero => simp [plCells]
      | succ j =>
        have := ih j (by simpa using hj)
        simpa [plCells, Nat.add_mul] using this
  obtain ⟨k0, k1⟩ := key l j hj
  have e0 := hc _ _ k0
  have e1 := hc _ _ k1
  rw [add_at, Nat.zero_add] at e0 e1
  exact ⟨e0, e1⟩
end Go.Proofs.Ytlenihncfhemkaa
