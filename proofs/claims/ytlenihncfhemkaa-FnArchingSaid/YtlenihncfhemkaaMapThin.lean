/- The program's map of a plate's places: to thinner ones, in all rows or in one. -/
import Derived.Test.YtlenihncfhemkaaOwnG
import Derived.Test.YtlenihncfhemkaaPlaces
import Derived.Test.YtlenihncfhemkaaPlate
import Derived.Test.YtlenihncfhemkaaHeights
namespace Go.Proofs.Ytlenihncfhemkaa
open Go.RowKit Go.ChangeShapes Go.WideShapes
set_option linter.unusedVariables false

/-- A number that is made thinner. -/
def thinF (n b l : Int) : Int := min n (max (n - b) l)
theorem thinF_bd {n b l : Int} (hn : 1 ≤ n ∧ n ≤ 200) (hb : 0 ≤ b ∧ b ≤ 200) (hl : 1 ≤ l ∧ l ≤ 200) : 1 ≤ thinF n b l ∧ thinF n b l ≤ 200 := by unfold thinF; omega
end Go.Proofs.Ytlenihncfhemkaa
