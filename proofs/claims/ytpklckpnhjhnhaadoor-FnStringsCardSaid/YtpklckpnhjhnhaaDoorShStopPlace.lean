/- What StopPlace returns, on both sides. -/
import Derived.Test.YtpklckpnhjhnhaaDoorCord2
namespace Go.Proofs.YtpklckpnhjhnhaaDoor.shStopPlace
open Go.ChangeShapes Go.WideShapes Go.RowKit
set_option linter.unusedVariables false

def fF (p q r s m0 : Int) : Int × Int := if cordB p q r s then (if inB m0 p 10000 then (rdiv (10 * q * (m0 - p)) m0, 0) else (0, 2)) else (0, 1)

theorem i_c (p q r s m0 : Int) (w : World) : Calls Tryd.prog 19 #[.agg #[.int .i64 p, .int .i64 q, .int .i64 r, .int .i64 s], .int .i64 m0] w fun e w' => e = .returned (.tuple #[.int .i64 (fF p q r s m0).1, .int .i64 (fF p q r s m0).2]) ∧ Below w.heap.size w w' := by
  cases h : cordB p q r s
  · go_enter Tryd.func19, Tryd.ntmps19
    go_wp2_with fail
    refine call_below (validString_c _ _ _ _ _) ?_
    intro w1 hb1
    go_wp2
    go_ret2
    exact ⟨by simp [fF, h], below_from hb1⟩
  · cases hm : inB m0 p 10000
    · go_enter Tryd.func19, Tryd.ntmps19
      go_wp2_with fail
      refine call_below (validString_c _ _ _ _ _) ?_
      intro w1 hb1
      have c1 := box_cell hb1
      go_wp2_with (go_at_call 36; refine call_same (within_c _ _ _ _) ?_)
      go_ret2
      exact ⟨by simp [fF, h, hm], below_from hb1⟩
    · have hn := cordB_true h
      have hm1 := inB_true hm
      have b3 := mul_bd (a := 10 * q) (A := 5000) (b := m0 - p) (B := 10000) (by omega) (by omega) (by omega) (by omega)
      go_enter Tryd.func19, Tryd.ntmps19
      go_wp2_with fail
      refine call_below (validString_c _ _ _ _ _) ?_
      intro w1 hb1
      have c1 := box_cell hb1
      go_wp2_with (first | (go_at_call 36; refine call_same (within_c _ _ _ _) ?_) | (go_at_call 41; refine call_same (divRound_c _ _ _ (by omega) (by omega) (by omega) (by omega)) ?_))
      go_ret2
      exact ⟨by simp [fF, h, hm], below_from hb1⟩

end Go.Proofs.YtpklckpnhjhnhaaDoor.shStopPlace
