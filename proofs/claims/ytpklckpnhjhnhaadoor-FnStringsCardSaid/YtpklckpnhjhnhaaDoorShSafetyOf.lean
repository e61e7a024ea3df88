/- What SafetyOf returns, on both sides. -/
import Derived.Test.YtpklckpnhjhnhaaDoorCord2
namespace Go.Proofs.YtpklckpnhjhnhaaDoor.shSafetyOf
open Go.ChangeShapes Go.WideShapes Go.RowKit
set_option linter.unusedVariables false

def fF (p q r s : Int) : Int × Int := if cordB p q r s then (if tenF p q r = 0 then (0, 3) else (1000 * s / tenF p q r, 0)) else (0, 1)

theorem i_c (p q r s : Int) (w : World) : Calls Tryd.prog 12 #[.agg #[.int .i64 p, .int .i64 q, .int .i64 r, .int .i64 s]] w fun e w' => e = .returned (.tuple #[.int .i64 (fF p q r s).1, .int .i64 (fF p q r s).2]) ∧ Below w.heap.size w w' := by
  cases h : cordB p q r s
  · go_enter Tryd.func12, Tryd.ntmps12
    go_wp2_with fail
    refine call_below (validString_c _ _ _ _ _) ?_
    intro w1 hb1
    go_wp2
    go_ret2
    exact ⟨by simp [fF, h], below_from hb1⟩
  · have hn := cordB_true h
    have hT := tenF_bd (CordIn.of h)
    by_cases ht : tenF p q r = 0
    · have HF := Lib.hid (show fF p q r s = (0, 3) by simp only [fF, h, if_true, if_pos ht])
      have ht' : (tenF p q r == 0) = true := by simpa using ht
      clear ht
      go_enter Tryd.func12, Tryd.ntmps12
      go_wp2_with fail
      refine call_below (validString_c _ _ _ _ _) ?_
      intro w1 hb1
      have c1 := box_cell hb1
      go_wp2_with fail
      refine call_below (tension_c p q r s _ (CordIn.of h)) ?_
      intro w2 hb2
      go_wp2
      go_ret2
      exact ⟨by rw [HF.out]; rfl, below_from (below_next hb1 hb2)⟩
    · have HF := Lib.hid (show fF p q r s = (1000 * s / tenF p q r, 0) by simp only [fF, h, if_true, if_neg ht])
      have ht' : (tenF p q r == 0) = false := by simpa using ht
      have ht1 : 0 < tenF p q r := by omega
      have q1 := Int.ediv_le_self (a := 1000 * s) (tenF p q r) (by omega)
      have q2 := Int.ediv_nonneg (show 0 ≤ 1000 * s by omega) (show 0 ≤ tenF p q r by omega)
      have i1 := IntWalk.i64_in (1000 * s) (by omega)
      have i2 : IntKind.i64.wrap ((1000 * s).tdiv (tenF p q r)) = 1000 * s / tenF p q r := by
        rw [Int.tdiv_eq_ediv_of_nonneg (by omega)]
        exact IntWalk.i64_in (1000 * s / tenF p q r) (by omega)
      have ht2 : ¬ tenF p q r = 0 := by omega
      clear ht
      go_enter Tryd.func12, Tryd.ntmps12
      go_wp2_with fail
      refine call_below (validString_c _ _ _ _ _) ?_
      intro w1 hb1
      have c1 := box_cell hb1
      go_wp2_with fail
      refine call_below (tension_c p q r s _ (CordIn.of h)) ?_
      intro w2 hb2
      have hb2' := below_next hb1 hb2
      have D := box_four hb2'
      obtain ⟨d0, d1, d2, d3⟩ := D
      have HB := Lib.hid hb2'
      have HD := Lib.hid (show Four w.heap.size _ _ _ _ w2 from ⟨d0, d1, d2, d3⟩)
      clear hb1 hb2 hb2' c1
      go_wp2_with fail
      go_region_held3 (fun w' => w'.cell? ⟨w.heap.size, 0, none⟩ = some (.int .i64 p) ∧ w'.cell? ⟨w.heap.size, 1, none⟩ = some (.int .i64 q) ∧ w'.cell? ⟨w.heap.size, 2, none⟩ = some (.int .i64 r) ∧ w'.cell? ⟨w.heap.size, 3, none⟩ = some (.int .i64 s) ∧ Below w2.heap.size w2 w') (first | exact keep4 HD.out (Below.refl _ _).drew | exact keep4 HD.out (below_next (Below.refl _ _).drew hb3) | go_keep)
        (first | (go_at_call 33; refine call_below (tension_c p q r s _ (CordIn.of h)) ?_; intro w3 hb3))
      go_wp2
      go_ret2
      exact ⟨by rw [HF.out]; rfl, below_from (below_next HB.out (below_next (Below.refl _ _).drew hb3))⟩

end Go.Proofs.YtpklckpnhjhnhaaDoor.shSafetyOf
