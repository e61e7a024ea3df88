/- A number on a line through two points, the first of them at 0: impl.blend and spec.l01Line. -/
import Derived.Test.YtpklckpnhjhnhaaDiv
namespace Go.Proofs.Ytpklckpnhjhnhaa
open Go.RowKit

def lineF (y0 x1 y1 x : Int) : Int := if x ≤ 0 ∨ x1 ≤ 0 then y0 else if x1 ≤ x then y1 else y0 + rdiv ((y1 - y0) * x) x1
theorem mul_abs {d x D X : Int} (h1 : -D ≤ d) (h2 : d ≤ D) (h3 : 0 ≤ x) (h4 : x ≤ X) (hD : 0 ≤ D) : -(D * X) ≤ d * x ∧ d * x ≤ D * X := by
  have a := Int.mul_le_mul_of_nonneg_right h2 h3
  have b := Int.mul_le_mul_of_nonneg_left h4 hD
  have c := Int.mul_le_mul_of_nonneg_right h1 h3
  rw [Int.neg_mul] at c
  omega
theorem blend_c (y0 x1 y1 x : Int) (w : World) (h0 : 0 ≤ y0 ∧ y0 ≤ 10000) (h1 : 0 ≤ y1 ∧ y1 ≤ 10000) (hx1 : 0 ≤ x1 ∧ x1 ≤ 1000) (hx : 0 ≤ x ∧ x ≤ 1000) :
    Calls Try.prog 51 #[.int .i64 0, .int .i64 y0, .int .i64 x1, .int .i64 y1, .int .i64 x] w fun e w' => e = .returned (.int .i64 (lineF y0 x1 y1 x)) ∧ w = w' := by
  by_cases c1 : x ≤ 0
  · have HF := Lib.hid (show lineF y0 x1 y1 x = y0 by unfold lineF; rw [if_pos (.inl c1)])
    go_enter Try.func51, Try.ntmps51
    go_wp2
    go_ret
    exact ⟨by rw [HF.out]; rfl, rfl⟩
  by_cases c2 : x1 ≤ 0
  · have HF := Lib.hid (show lineF y0 x1 y1 x = y0 by unfold lineF; rw [if_pos (.inr c2)])
    go_enter Try.func51, Try.ntmps51
    go_wp2
    go_ret
    exact ⟨by rw [HF.out]; rfl, rfl⟩
  by_cases c3 : x1 ≤ x
  · have HF := Lib.hid (show lineF y0 x1 y1 x = y1 by unfold lineF; rw [if_neg (by omega), if_pos c3])
    go_enter Try.func51, Try.ntmps51
    go_wp2
    go_ret
    exact ⟨by rw [HF.out]; rfl, rfl⟩
  · have HF := Lib.hid (show lineF y0 x1 y1 x = y0 + rdiv ((y1 - y0) * x) x1 by unfold lineF; rw [if_neg (by omega), if_neg c3])
    have hb := mul_abs (d := y1 - y0) (D := 10000) (by omega) (by omega) hx.1 hx.2 (by omega)
    have hr := rdiv_bd (a := (y1 - y0) * x) (b := x1) (by omega) (by omega) (by omega)
    go_enter Try.func51, Try.ntmps51
    go_wp2_with (go_at_call 41; refine call_same (divRound_c _ _ _ (by omega) (by omega) (by omega) (by omega)) ?_)
    go_ret
    exact ⟨by rw [HF.out]; rfl, rfl⟩
end Go.Proofs.Ytpklckpnhjhnhaa
