/- A grid that a call builds by append, row by row. -/
import Derived.Test.YtlenihncfhemkaaOwnInts
import Derived.Test.YtlenihncfhemkaaMark2
namespace Go.Proofs.Ytlenihncfhemkaa
open Go.RowKit Go.ChangeShapes Go.WideShapes
set_option linter.unusedVariables false

/-- The cells of a row of rows. -/
def gCells (r c : Nat → Nat) (g : List (List Int)) : List Value := (List.range g.length).map fun j => .slice (some ⟨r j, 0, none⟩) (nthL g j).length (c j)
theorem gCells_at {r c : Nat → Nat} {g : List (List Int)} {j : Nat} (hj : j < g.length) : (gCells r c g)[j]? = some (.slice (some ⟨r j, 0, none⟩) (nthL g j).length (c j)) := by simp [gCells, hj]
/-- The slice v owns a grid, in blocks from B up to C, each row in a block of its own and none of length 0. -/
def OwnG (B C : Nat) (w : World) (v : Value) (g : List (List Int)) : Prop := ∃ r c : Nat → Nat,
  w.ownsRow B 26 1 v g.length (gCells r c g) ∧ v ≠ .slice none 0 0 ∧
  (∀ j, j < g.length → (B ≤ r j ∧ r j < C) ∧ 1 ≤ (nthL g j).length ∧ RowC w (r j) (nthL g j).length (nth (nthL g j))) ∧ (∀ i j, i < j → j < g.length → r i ≠ r j) ∧ ∀ k, v.ownBlock = some k → k < C
theorem OwnG.start {B C : Nat} {w : World} {v : Value} (h : w.ownsRow B 26 1 v 0 []) (hn : v ≠ .slice none 0 0) (hC : w.heap.size ≤ C) : OwnG B C w v [] :=
  ⟨fun _ => 0, fun _ => 0, h, hn, fun j hj => absurd hj (Nat.not_lt_zero _), fun i j _ hj => absurd hj (Nat.not_lt_zero _), fun k hk => Nat.lt_of_lt_of_le (h.lt k hk).2 hC⟩
theorem OwnG.lt {B C : Nat} {w : World} {v : Value} {g : List (List Int)} (h : OwnG B C w v g) : ∀ k, v.ownBlock = some k → B ≤ k := by
  obtain ⟨r, c, h, _⟩ := h
  exact fun k hk => (h.lt k hk).1
theorem OwnG.below {B C : Nat} {w w' : World} {v : Value} {g : List (List Int)} (h : OwnG B C w v g) (hC : C ≤ w.heap.size) (hb : Below w.heap.size w w') : OwnG B C w' v g := by
  obtain ⟨r, c, h, hn, hr, hd, hv⟩ := h
  exact ⟨r, c, own_below h hb, hn, fun j hj => ⟨(hr j hj).1, (hr j hj).2.1, (hr j hj).2.2.of_block (hb.block _ (by have := (hr j hj).1; omega))⟩, hd, hv⟩
theorem OwnG.wide {B C D : Nat} {w : World} {v : Value} {g : List (List Int)} (h : OwnG B C w v g) (hD : C ≤ D) : OwnG B D w v g := by
  obtain ⟨r, c, h, hn, hr, hd, hv⟩ := h
  exact ⟨r, c, h, hn, fun j hj => ⟨by have := (hr j hj).1; omega, (hr j hj).2⟩, hd, fun k hk => Nat.lt_of_lt_of_le (hv k hk) hD⟩
theorem own_ne {B b n : Nat} {w : World} {v : Value} {g : List (List Int)} {r c : Nat → Nat} {f : Nat → Int} (h : w.ownsRow B 26 1 v g.length (gCells r c g)) (hg : 0 < g.length) (hr : RowC w b n f) (hn : 1 ≤ n) : v.ownBlock ≠ some b := by
  intro e
  have h1 := h.cells e 0 _ (gCells_at hg)
  have h2 := (hr 0 (by omega)).1
  rw [add_at] at h1
  rw [h2] at h1
  simp at h1
theorem nthL_left {g : List (List Int)} {row : List Int} {j : Nat} (hj : j < g.length) : nthL (g ++ [row]) j = nthL g j := by simp [nthL, List.getD_eq_getElem?_getD, List.getElem?_append_left hj]
theorem nthL_last {g : List (List Int)} {row : List Int} : nthL (g ++ [row]) g.length = row := by simp [nthL, List.getD_eq_getElem?_getD]
theorem own_push {B C br cr : Nat} {w w1 : World} {o : Obj} {v v' : Value} {g : List (List Int)} {row : List Int} {r c : Nat → Nat}
    (hown : w.ownsRow B 26 1 v g.length (gCells r c g))
    (hrows : ∀ j, j < g.length → (B ≤ r j ∧ r j < C) ∧ 1 ≤ (nthL g j).length ∧ RowC w (r j) (nthL g j).length (nth (nthL g j)))
    (hdist : ∀ i j, i < j → j < g.length → r i ≠ r j) (hv : ∀ k, v.ownBlock = some k → k < C)
    (hC : C ≤ br) (hB : B ≤ br) (hbr : br < w.heap.size) (hlen : 1 ≤ row.length) (hrow : RowC w br row.length (nth row))
    (hown' : w1.ownsRow B 26 1 v' (g.length + 1) (gCells r c g ++ [.slice (some ⟨br, 0, none⟩) row.length cr]))
    (hgrow : (w.alloc o).grownBy w1 v.ownBlock) (hnil : v' ≠ .slice none 0 0) : OwnG B w1.heap.size w1 v' (g ++ [row]) := by
  have hkeep : ∀ k, k < w.heap.size → v.ownBlock ≠ some k → w1.heap[k]? = w.heap[k]? := fun k hk hne =>
    (hgrow.block k (by simp; omega) (fun e => hne e.symm)).trans (((Below.refl w.heap.size w).alloc (Nat.le_refl _) o).block k hk)
  have hsz : w.heap.size ≤ w1.heap.size := Nat.le_trans (by simp) hgrow.size
  have hlt : ∀ j, j < g.length → r j < w.heap.size := fun j hj => by
    have := World.block_lt_of_cell? w _ ((hrows j hj).2.2 0 (hrows j hj).2.1).1
    exact this
  refine ⟨fun j => if j < g.length then r j else br, fun j => if j < g.length then c j else cr, ?_, hnil, fun j hj => ?_, fun i j hi hj => ?_, fun k hk => (hown'.lt k hk).2⟩
  · have e : gCells (fun j => if j < g.length then r j else br) (fun j => if j < g.length then c j else cr) (g ++ [row]) = gCells r c g ++ [.slice (some ⟨br, 0, none⟩) row.length cr] := by
      unfold gCells
      rw [List.length_append, List.length_singleton, List.range_succ, List.map_append]
      congr 1
      · refine List.map_congr_left fun j hj => ?_
        have hj' := List.mem_range.1 hj
        simp only [if_pos hj', nthL_left hj']
      · simp [nthL_last]
    rw [e, List.length_append, List.length_singleton]
    exact hown'
  · simp only [List.length_append, List.length_singleton] at hj
    by_cases h1 : j < g.length
    · obtain ⟨q1, q2, q3⟩ := hrows j h1
      simp only [if_pos h1, nthL_left h1]
      exact ⟨⟨q1.1, by have := hlt j h1; omega⟩, q2, q3.of_block (hkeep _ (hlt j h1) (own_ne hown (by omega) q3 q2))⟩
    · obtain rfl : j = g.length := by omega
      simp only [if_neg (Nat.lt_irrefl _), nthL_last]
      exact ⟨⟨hB, by omega⟩, hlen, hrow.of_block (hkeep _ hbr (fun e => by have := hv _ e; omega))⟩
  · simp only [List.length_append, List.length_singleton] at hj
    have h0 : i < g.length := by omega
    simp only [if_pos h0]
    by_cases h1 : j < g.length
    · simp only [if_pos h1]; exact hdist i j hi h1
    · simp only [if_neg h1]
      have := (hrows i h0).1
      omega
theorem OwnG.gridA {B C : Nat} {w : World} {v : Value} {g : List (List Int)} (h : OwnG B C w v g) : ∃ a cap, v = .slice a g.length cap ∧ GridA B C w a g := by
  obtain ⟨r, c, h, hn, hr, hd, hv⟩ := h
  have hne : ∀ j, j < g.length → v.ownBlock ≠ some (r j) := fun j hj => own_ne h (by omega) (hr j hj).2.2 (hr j hj).2.1
  have hcl := fun b (hb : v.ownBlock = some b) j (hj : j < g.length) => h.cells hb j _ (gCells_at (r := r) (c := c) hj)
  rcases h.2 with ⟨rfl, _⟩ | ⟨b, cap, cur, rfl, hb, _⟩
  · exact absurd rfl hn
  · refine ⟨some ⟨b, 0, none⟩, cap, rfl, .inr ⟨b, r, c, rfl, hb, hv b rfl, fun j hj => ⟨?_, ⟨(hr j hj).1.1, (hr j hj).1.2, fun e => hne j hj (by rw [e]; rfl)⟩, (hr j hj).2.2⟩, hd⟩⟩
    have := hcl b rfl j hj
    rwa [add_at, Nat.zero_add] at this

/-- The row of integers that a call owns may be written. -/
theorem own_rowC {B b cap : Nat} {w : World} {zs : List Int} (h : OwnI B w (.slice (some ⟨b, 0, none⟩) zs.length cap) zs) : RowC w b zs.length (nth zs) := by
  obtain ⟨a, c, e, hr⟩ := h.rowA
  obtain rfl : some ⟨b, 0, none⟩ = a := by injection e
  rcases hr with rfl | ⟨b', e', _, _, hc⟩
  · intro j hj; simp at hj
  · obtain rfl : b = b' := congrArg (fun q : Option Addr => (q.map Addr.block).getD 0) e'
    exact hc
/-- Row i up to column c of a grid that is given place by place. -/
def rowG (F : Nat × Nat → Int) (i c : Nat) : List Int := (List.range c).map fun k => F (i, k)
theorem rowG_len (F : Nat × Nat → Int) (i c : Nat) : (rowG F i c).length = c := by simp [rowG]
theorem rowG_succ (F : Nat × Nat → Int) (i c : Nat) : rowG F i (c + 1) = rowG F i c ++ [F (i, c)] := by simp [rowG, List.range_succ]
theorem rowG_nth {F : Nat × Nat → Int} {i c k : Nat} (h : k < c) : nth (rowG F i c) k = F (i, k) := by simp [nth, rowG, List.getD_eq_getElem?_getD, h]
/-- The first k rows of a grid that is given place by place; n: the rows' lengths. -/
def gridG (F : Nat × Nat → Int) (n : Nat → Nat) (k : Nat) : List (List Int) := (List.range k).map fun i => rowG F i (n i)
theorem gridG_len (F : Nat × Nat → Int) (n : Nat → Nat) (k : Nat) : (gridG F n k).length = k := by simp [gridG]
theorem gridG_succ (F : Nat × Nat → Int) (n : Nat → Nat) (k : Nat) : gridG F n (k + 1) = gridG F n k ++ [rowG F k (n k)] := by simp [gridG, List.range_succ]
theorem gridG_nth {F : Nat × Nat → Int} {n : Nat → Nat} {k i : Nat} (h : i < k) : nthL (gridG F n k) i = rowG F i (n i) := by simp [nthL, gridG, List.getD_eq_getElem?_getD, h]
theorem gridG_sum (F : Nat × Nat → Int) (n : Nat → Nat) (k m : Nat) (hn : ∀ i, i < k → n i ≤ m) : ∀ i, i ≤ k → sumL (gridG F n k) i ≤ m * i
  | 0, _ => by simp [sumL]
  | i + 1, h => by
    have h1 := gridG_sum F n k m hn i (by omega)
    have h2 := hn i h
    simp only [sumL, gridG_nth (Nat.lt_of_succ_le h), rowG_len]
    rw [Nat.mul_succ]; omega
theorem gridG_small {F : Nat × Nat → Int} {n : Nat → Nat} {k : Nat} (hk : k ≤ 10) (hn : ∀ i, i < k → n i ≤ 10) : Small (gridG F n k) := by
  unfold Small
  have := gridG_sum F n k 10 hn k (Nat.le_refl _)
  rw [gridG_len]
  omega
/-- Each of the program's maps of a plate's places. -/
def lenG (g : List (List Int)) (i : Nat) : Nat := (nthL g i).length
end Go.Proofs.Ytlenihncfhemkaa
