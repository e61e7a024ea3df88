/- Heights of a stick: both sides' test of validity; distances; the greater of two numbers. -/
import Derived.Test.YtlenihncfhemkaaInts
import Derived.Lib.MinMax
namespace Go.Proofs.Ytlenihncfhemkaa
open Go.RowKit

/-- The distance of two numbers. -/
def distF (a b : Int) : Int := max (a - b) (b - a)
theorem distF_bd {a b A : Int} (h1 : a - b ≤ A) (h2 : b - a ≤ A) : 0 ≤ distF a b ∧ distF a b ≤ A := by unfold distF; omega

theorem distance_c (a b : Int) (w : World) (h1 : -1000000000000 ≤ a ∧ a ≤ 1000000000000) (h2 : -1000000000000 ≤ b ∧ b ≤ 1000000000000) : Calls Try.prog 25 #[.int .i64 a, .int .i64 b] w fun e w' => e = .returned (.int .i64 (distF a b)) ∧ w = w' := by
  go_enter Try.func25, Try.ntmps25
  go_wp2
  go_ret
  exact ⟨rfl, rfl⟩
end Go.Proofs.Ytlenihncfhemkaa
