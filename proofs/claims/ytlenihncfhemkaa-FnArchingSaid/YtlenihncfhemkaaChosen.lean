/- The places of a grid that are chosen, each as a row of two numbers. -/
import Derived.Test.YtlenihncfhemkaaOwnG
import Derived.Test.YtlenihncfhemkaaNear
import Derived.Test.YtlenihncfhemkaaMass
namespace Go.Proofs.Ytlenihncfhemkaa
open Go.RowKit Go.ChangeShapes Go.WideShapes
set_option linter.unusedVariables false

/-- Places as rows of two numbers. -/
def pairsG (l : List (Nat × Nat)) : List (List Int) := l.map fun p => [(p.1 : Int), (p.2 : Int)]
def chosenG (g : List (List Int)) (E : Nat × Nat → Bool) : List (List Int) := pairsG ((plTo g g.length).filter E)
theorem pairs_snoc (l : List (Nat × Nat)) (p : Nat × Nat) : pairsG (l ++ [p]) = pairsG l ++ [[(p.1 : Int), (p.2 : Int)]] := by simp [pairsG]
theorem pairs_take {E : Nat × Nat → Bool} {L : List (Nat × Nat)} {j : Nat} (h : j < L.length) :
    (E (L.getD j (0, 0)) = false → pairsG ((L.take (j + 1)).filter E) = pairsG ((L.take j).filter E)) ∧
    (E (L.getD j (0, 0)) = true → pairsG ((L.take (j + 1)).filter E) = pairsG ((L.take j).filter E) ++ [[((L.getD j (0, 0)).1 : Int), ((L.getD j (0, 0)).2 : Int)]]) := by
  have e : L[j] = L.getD j (0, 0) := by simp [List.getD_eq_getElem?_getD, h]
  rw [List.take_succ_eq_append_getElem h, e, List.filter_append]
  generalize L.getD j (0, 0) = p
  constructor
  · intro hE; simp [hE]
  · intro hE; rw [← pairs_snoc]; simp [hE]
theorem pairs_len (E : Nat × Nat → Bool) (L : List (Nat × Nat)) (j : Nat) : (pairsG ((L.take j).filter E)).length ≤ j := by
  unfold pairsG
  rw [List.length_map]
  exact Nat.le_trans (List.length_filter_le _ _) (List.length_take_le _ _)
theorem pairs_sum (l : List (Nat × Nat)) : ∀ k, k ≤ (pairsG l).length → sumL (pairsG l) k ≤ 2 * k
  | 0, _ => by simp [sumL]
  | k + 1, h => by
    have h1 := pairs_sum l k (by omega)
    have h2 : (nthL (pairsG l) k).length = 2 := by
      have hk : k < l.length := Nat.lt_of_succ_le (by simpa [pairsG] using h)
      simp [nthL, pairsG, List.getD_eq_getElem?_getD, hk]
    simp only [sumL]
    omega
theorem chosen_small {lo hi : Int} {g : List (List Int)} (ok : GridOk lo hi g) (E : Nat × Nat → Bool) : Small (chosenG g E) := by
  have h1 : (chosenG g E).length ≤ 100 := by
    unfold chosenG pairsG
    rw [List.length_map]
    exact Nat.le_trans (List.length_filter_le _ _) ok.places
  have h2 := pairs_sum ((plTo g g.length).filter E) (chosenG g E).length (Nat.le_refl _)
  unfold Small
  have : sumL (chosenG g E) (chosenG g E).length ≤ 2 * (chosenG g E).length := h2
  omega
/-- A list of places that is not nil: its block whole. -/
theorem own_form2 {w : World} {B : Nat} {v : Value} {l : List (Nat × Nat)} (h : w.ownsRow B 43 2 v l.length (plCells l)) (hn : v ≠ .slice none 0 0) :
    ∃ b cap cur, v = .slice (some ⟨b, 0, none⟩) l.length cap ∧ w.heap[b]? = some (.cells cur 43 (0, 0)) ∧
      ∀ w' : World, w'.heap[b]? = some (.cells cur 43 (0, 0)) → ∀ j, j < l.length → w'.cell? ⟨b, j * 2, none⟩ = some (.int .i64 (l.getD j (0, 0)).1) ∧ w'.cell? ⟨b, j * 2 + 1, none⟩ = some (.int .i64 (l.getD j (0, 0)).2) := by
  rcases h.2 with ⟨rfl, _⟩ | ⟨b, cap, cur, rfl, hb, hh, _⟩
  · exact absurd rfl hn
  · refine ⟨b, cap, cur, rfl, hh, fun w' hw' j hj => ?_⟩
    obtain ⟨h1, h2⟩ := own_pl_cells h hj
    have e : w'.heap[b]? = w.heap[b]? := by rw [hw', hh]
    exact ⟨(World.cell?_of_block (w := w) e).trans h1, (World.cell?_of_block (w := w) e).trans h2⟩
theorem blk_lt {w : World} {b : Nat} {o : Obj} (h : w.heap[b]? = some o) : b < w.heap.size := by
  by_cases hb : b < w.heap.size
  · exact hb
  · rw [Array.getElem?_eq_none (by omega)] at h; cases h
theorem blk_keep {w w' : World} {b : Nat} {o : Obj} (h : w.heap[b]? = some o) (hb : Below w.heap.size w w') : w'.heap[b]? = some o := (hb.block b (blk_lt h)).trans h
theorem blk_grown {w w' : World} {B b n : Nat} {cur : Array Value} {o : Obj} {v : Value} {xs : List Value} (h : w.heap[b]? = some (.cells cur 43 (0, 0))) (hown : w.ownsRow B 26 1 v n xs) (hg : (w.alloc o).grownBy w' v.ownBlock) :
    w'.heap[b]? = some (.cells cur 43 (0, 0)) := by
  have hlt := blk_lt h
  refine (hg.block b (by simp; omega) (fun e => ?_)).trans ((((Below.refl w.heap.size w).alloc (Nat.le_refl _) o).block b hlt).trans h)
  rcases hown.2 with ⟨rfl, _⟩ | ⟨b', cap, cur', rfl, _, hh, _⟩
  · simp [Value.ownBlock] at e
  · simp only [Value.ownBlock, Option.some.injEq] at e
    subst e
    rw [hh] at h
    simp at h
end Go.Proofs.Ytlenihncfhemkaa
