/- An arching: both sides' test of validity; the heights around a place. -/
import Derived.Test.YtlenihncfhemkaaPlate
import Derived.Test.YtlenihncfhemkaaOwnInts
import Derived.Deep.DeepCutAuto
namespace Go.Proofs.Ytlenihncfhemkaa
open Go.RowKit Go.ChangeShapes Go.WideShapes
set_option linter.unusedVariables false

theorem validArch_c (a : Option Addr) (cap : Nat) (g : List (List Int)) (w : World) (h : Grid w a g) (hs : Small g) :
    Calls Try.prog 13 #[.slice a g.length cap] w fun e w' => e = .returned (.bool (gridB 0 1000 g)) ∧ w = w' := by
  go_enter Try.func13, Try.ntmps13
  go_wp2_with (go_at_call 32; refine call_same (isGrid_c _ _ g 0 1000 _ h hs) ?_)
  go_ret
  exact ⟨rfl, rfl⟩

end Go.Proofs.Ytlenihncfhemkaa
