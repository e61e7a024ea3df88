/- What TensionOf returns, on both sides. -/
import Derived.Test.YtpklckpnhjhnhaaDoorCord2
namespace Go.Proofs.YtpklckpnhjhnhaaDoor.shTensionOf
open Go.ChangeShapes Go.WideShapes Go.RowKit
set_option linter.unusedVariables false

def fF (p q r s : Int) : Int × Int := if cordB p q r s then (tenF p q r, 0) else (0, 1)

theorem i_c (p q r s : Int) (w : World) : Calls Tryd.prog 9 #[.agg #[.int .i64 p, .int .i64 q, .int .i64 r, .int .i64 s]] w fun e w' => e = .returned (.tuple #[.int .i64 (fF p q r s).1, .int .i64 (fF p q r s).2]) ∧ Below w.heap.size w w' := by
  cases h : cordB p q r s
  · go_enter Tryd.func9, Tryd.ntmps9
    go_wp2_with fail
    refine call_below (validString_c _ _ _ _ _) ?_
    intro w1 hb1
    go_wp2
    go_ret2
    exact ⟨by simp [fF, h], below_from hb1⟩
  · go_enter Tryd.func9, Tryd.ntmps9
    go_wp2_with fail
    refine call_below (validString_c _ _ _ _ _) ?_
    intro w1 hb1
    have c1 := box_cell hb1
    go_wp2_with fail
    refine call_below (tension_c p q r s _ (CordIn.of h)) ?_
    intro w2 hb2
    go_wp2
    go_ret2
    exact ⟨by simp [fF, h], below_from (below_next hb1 hb2)⟩

theorem s_c (p q r s : Int) (w : World) : Calls Tryd.prog 16 #[.agg #[.int .i64 p, .int .i64 q, .int .i64 r, .int .i64 s]] w fun e w' => e = .returned (.tuple #[.int .i64 (fF p q r s).1, .int .i64 (fF p q r s).2]) ∧ Below w.heap.size w w' := by
  cases h : cordB p q r s
  · go_enter Tryd.func16, Tryd.ntmps16
    go_wp2_with fail
    refine call_same (l09One_c _ _ p q r s _ ?_ ?_ ?_ ?_) ?_
    iterate 4 (· go_cell)
    go_wp2
    go_ret2
    exact ⟨by simp [fF, h], by go_grown⟩
  · go_enter Tryd.func16, Tryd.ntmps16
    go_wp2_with fail
    refine call_same (l09One_c _ _ p q r s _ ?_ ?_ ?_ ?_) ?_
    iterate 4 (· go_cell)
    go_wp2_with fail
    refine call_below (l09Tension_c _ _ p q r _ ?_ ?_ ?_ (CordIn.of h)) ?_
    iterate 3 (· go_cell)
    intro w1 hb1
    go_wp2
    go_ret2
    exact ⟨by simp [fF, h], below_from hb1⟩

end Go.Proofs.YtpklckpnhjhnhaaDoor.shTensionOf
