/- The mass of a plate: the program's and the reference's. -/
import Derived.Test.YtlenihncfhemkaaPlaces
import Derived.Test.YtlenihncfhemkaaPlate
import Derived.Test.YtlenihncfhemkaaDiv
namespace Go.Proofs.Ytlenihncfhemkaa
open Go.RowKit Go.ChangeShapes Go.WideShapes
set_option linter.unusedVariables false

/-- The sum over a list of places. -/
def sumP (g : List (List Int)) (l : List (Nat × Nat)) : Int := (l.map (atG g)).sum
theorem sumP_snoc (g : List (List Int)) (l : List (Nat × Nat)) (p : Nat × Nat) : sumP g (l ++ [p]) = sumP g l + atG g p := by simp [sumP]
theorem sumP_take {g : List (List Int)} {l : List (Nat × Nat)} {j : Nat} (h : j < l.length) : sumP g (l.take (j + 1)) = sumP g (l.take j) + atG g (l.getD j (0, 0)) := by
  rw [List.take_succ_eq_append_getElem h, sumP_snoc]
  simp [List.getD_eq_getElem?_getD, h]
theorem sumP_bd {g : List (List Int)} : ∀ {l : List (Nat × Nat)}, (∀ p ∈ l, 0 ≤ atG g p ∧ atG g p ≤ 1000) → 0 ≤ sumP g l ∧ sumP g l ≤ 1000 * l.length
  | [], _ => by simp [sumP]
  | p :: l, h => by
    have h1 := sumP_bd (l := l) fun q hq => h q (List.mem_cons_of_mem _ hq)
    have h2 := h p (List.mem_cons_self ..)
    have e : sumP g (p :: l) = atG g p + sumP g l := by simp [sumP]
    rw [e, List.length_cons]
    omega
theorem place_mem {l : List (Nat × Nat)} {j : Nat} (h : j < l.length) : l.getD j (0, 0) ∈ l := by
  rw [show l.getD j (0, 0) = l[j] by simp [List.getD_eq_getElem?_getD, h]]
  exact List.getElem_mem h
theorem place_ok {g : List (List Int)} {j : Nat} (h : j < (plTo g g.length).length) : ((plTo g g.length).getD j (0, 0)).1 < g.length ∧ ((plTo g g.length).getD j (0, 0)).2 < (nthL g ((plTo g g.length).getD j (0, 0)).1).length :=
  plTo_in (Nat.le_refl _) (place_mem h)
theorem pre_in {g : List (List Int)} {k c : Nat} (hk : k < g.length) (hc : c ≤ (nthL g k).length) {p : Nat × Nat} (hp : p ∈ plTo g k ++ rowPl k c) : p.1 < g.length ∧ p.2 < (nthL g p.1).length := by
  rcases List.mem_append.1 hp with h | h
  · exact plTo_in (by omega) h
  · simp only [rowPl, List.mem_map, List.mem_range] at h
    obtain ⟨j, hj, rfl⟩ := h
    exact ⟨hk, by simp only; omega⟩
theorem sumL_le {g : List (List Int)} {m : Nat} (h : ∀ j, j < g.length → (nthL g j).length ≤ m) : ∀ k, k ≤ g.length → sumL g k ≤ m * k
  | 0, _ => by simp [sumL]
  | k + 1, hk => by
    have h1 := sumL_le h k (by omega)
    have h2 := h k hk
    simp only [sumL]
    rw [Nat.mul_succ]; omega
theorem GridOk.len {lo hi : Int} {g : List (List Int)} (ok : GridOk lo hi g) {j : Nat} (hj : j < g.length) : 1 ≤ (nthL g j).length ∧ (nthL g j).length ≤ 10 := by
  have := ok.same j hj
  have := ok.cols
  omega
theorem GridOk.places {lo hi : Int} {g : List (List Int)} (ok : GridOk lo hi g) : (plTo g g.length).length ≤ 100 := by
  rw [plTo_len]
  have := sumL_le (m := 10) (fun j hj => (ok.len hj).2) g.length (Nat.le_refl _)
  have := ok.rows
  omega
theorem GridOk.at_ {lo hi : Int} {g : List (List Int)} (ok : GridOk lo hi g) {p : Nat × Nat} (h : p.1 < g.length ∧ p.2 < (nthL g p.1).length) : lo ≤ atG g p ∧ atG g p ≤ hi := ok.range _ h.1 _ h.2
def massF (g : List (List Int)) (c d : Int) : Int := rdiv (sumP g (plTo g g.length) * c * d) 10000
def cellB (c d : Int) : Bool := inB c 1 10000 && inB d 1 2000

theorem mass_mul {s c d : Int} (hs : 0 ≤ s ∧ s ≤ 100000) (hc : 1 ≤ c ∧ c ≤ 10000) (hd : 1 ≤ d ∧ d ≤ 2000) : (0 ≤ s * c ∧ s * c ≤ 1000000000) ∧ (0 ≤ s * c * d ∧ s * c * d ≤ 2000000000000) := by
  have b1 := mul_bd hs.1 hs.2 (by omega : 0 ≤ c) hc.2
  have b2 := mul_bd b1.1 b1.2 (by omega : 0 ≤ d) hd.2
  omega

end Go.Proofs.Ytlenihncfhemkaa
