/- A neck: both sides' test of validity, and the law's copy. -/
import Derived.Test.YtpklckpnhjhnhaaWithin
namespace Go.Proofs.Ytpklckpnhjhnhaa
open Go.RowKit

/-- A valid neck's four numbers. -/
def neckB (s b o a : Int) : Bool := inB s 100 10000 && inB b 100 10000 && inB o 0 500 && inB a 0 300
theorem neckB_true {s b o a : Int} (h : neckB s b o a = true) : (100 ≤ s ∧ s ≤ 10000) ∧ (100 ≤ b ∧ b ≤ 10000) ∧ (0 ≤ o ∧ o ≤ 500) ∧ (0 ≤ a ∧ a ≤ 300) := by
  simp [neckB, inB] at h; omega

end Go.Proofs.Ytpklckpnhjhnhaa
