/- A plate: both sides' test of validity. -/
import Derived.Test.YtlenihncfhemkaaGridOk
namespace Go.Proofs.Ytlenihncfhemkaa
open Go.RowKit

/-- A grid whose row k is too short, too long or of another length is not valid. -/
theorem gridB_len {lo hi : Int} {g : List (List Int)} {k : Nat} (hk : k < g.length) (h : (nthL g k).length < 1 ∨ 10 < (nthL g k).length ∨ (nthL g k).length ≠ (nthL g 0).length) : gridB lo hi g = false := by
  rw [Bool.eq_false_iff]
  intro hg
  have := gridB_true hg
  have h1 := this.same k hk
  have h2 := this.cols
  omega
theorem gridB_num {lo hi : Int} {g : List (List Int)} {k m : Nat} (hk : k < g.length) (hm : m < (nthL g k).length) (h : inB (nth (nthL g k) m) lo hi = false) : gridB lo hi g = false := by
  rw [gridB, allL_not (q := rowB lo hi (nthL g 0).length) hk (by rw [rowB, all_not (p := (inB · lo hi)) hm h, Bool.and_false])]; simp
theorem gridB_out {lo hi : Int} {g : List (List Int)} (h : inB g.length 1 10 = false) : gridB lo hi g = false := by rw [gridB, h]; rfl
/-- A row in order: of the first row's length, of 1 to 10 numbers in a range. -/
def RowOk (lo hi : Int) (g : List (List Int)) (j : Nat) : Prop := (1 ≤ (nthL g j).length ∧ (nthL g j).length ≤ 10) ∧ (nthL g j).length = (nthL g 0).length ∧ (nthL g j).all (inB · lo hi) = true
theorem gridB_rows {lo hi : Int} {g : List (List Int)} (h : inB g.length 1 10 = true) (hr : ∀ j, j < g.length → RowOk lo hi g j) : gridB lo hi g = true := by
  have h1 := inB_true h
  have h2 := (hr 0 (by omega)).1
  have h3 : g.all (rowB lo hi (nthL g 0).length) = true := NAll.all fun j hj => by
    obtain ⟨_, h5, h6⟩ := hr j hj
    show (decide _ && _) = true
    rw [h6, decide_eq_true h5]; rfl
  have h4 : inB (nthL g 0).length 1 10 = true := by simp [inB]; omega
  rw [gridB, h, h4, h3]; rfl

end Go.Proofs.Ytlenihncfhemkaa
