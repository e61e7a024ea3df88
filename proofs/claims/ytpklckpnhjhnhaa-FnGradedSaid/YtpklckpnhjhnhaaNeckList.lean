/- Lists of necks: the code; how far two necks are apart. -/
import Derived.Test.YtpklckpnhjhnhaaNecks
import Derived.Test.YtpklckpnhjhnhaaHeights
namespace Go.Proofs.Ytpklckpnhjhnhaa
open Go.RowKit Go.ChangeShapes Go.WideShapes Go.Deep

def neckOk (q : Int × Int × Int × Int) : Bool := neckB q.1 q.2.1 q.2.2.1 q.2.2.2
/-- What the list's code is. -/
def necksN (z : List (Int × Int × Int × Int)) : Int := if z.all neckOk then (if (z.length : Int) ≤ 64 then 0 else 2) else 1
theorem necksN_bad {z : List (Int × Int × Int × Int)} (h : z.all neckOk = false) : necksN z = 1 := by unfold necksN; rw [h]; rfl
theorem necksN_good {z : List (Int × Int × Int × Int)} (h : z.all neckOk = true) (hl : (z.length : Int) ≤ 64) : necksN z = 0 := by unfold necksN; rw [h, if_pos hl]; rfl
theorem necksN_long {z : List (Int × Int × Int × Int)} (h : z.all neckOk = true) (hl : ¬ (z.length : Int) ≤ 64) : necksN z = 2 := by unfold necksN; rw [h, if_neg hl]; rfl
theorem necksN_cases (z : List (Int × Int × Int × Int)) : (z.all neckOk = false) ∨ (z.all neckOk = true ∧ (z.length : Int) ≤ 64) ∨ (z.all neckOk = true ∧ ¬ (z.length : Int) ≤ 64) := by
  cases z.all neckOk
  · exact .inl rfl
  · by_cases h : (z.length : Int) ≤ 64
    · exact .inr (.inl ⟨rfl, h⟩)
    · exact .inr (.inr ⟨rfl, h⟩)

/-- A neck's numbers within their bounds. -/
def NeckIn (q : Int × Int × Int × Int) : Prop := (0 ≤ q.1 ∧ q.1 ≤ 10000) ∧ (0 ≤ q.2.1 ∧ q.2.1 ≤ 10000) ∧ (0 ≤ q.2.2.1 ∧ q.2.2.1 ≤ 10000) ∧ (0 ≤ q.2.2.2 ∧ q.2.2.2 ≤ 10000)
theorem NeckIn.of {q : Int × Int × Int × Int} (h : neckOk q = true) : NeckIn q := by
  have := neckB_true h
  exact ⟨by omega, by omega, by omega, by omega⟩
/-- How far two necks are apart. -/
def apartF (q r : Int × Int × Int × Int) : Int := distF q.1 r.1 + distF q.2.1 r.2.1 + distF q.2.2.1 r.2.2.1 + distF q.2.2.2 r.2.2.2

end Go.Proofs.Ytpklckpnhjhnhaa
