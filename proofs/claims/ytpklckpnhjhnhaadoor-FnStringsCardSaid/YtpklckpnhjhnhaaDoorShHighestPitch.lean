/- What HighestPitch returns, on both sides. -/
import Derived.Test.YtpklckpnhjhnhaaDoorHolds
namespace Go.Proofs.YtpklckpnhjhnhaaDoor.shHighestPitch
open Go.ChangeShapes Go.WideShapes Go.RowKit
set_option linter.unusedVariables false

/-- Whether the pitch 10000 - k holds. -/
def hiP (q r s m0 : Int) (k : Nat) : Bool := holdB (10000 - k) q r s m0
def fF (p q r s m0 : Int) : Int × Int := if cordB p q r s then (if inB m0 0 1000 then (match firstUpTo (hiP q r s m0) 10000 with | some k => (10000 - (k : Int), 0) | none => (0, 3)) else (0, 2)) else (0, 1)
theorem fF_some {p q r s m0 : Int} {k : Nat} (h : cordB p q r s = true) (hm : inB m0 0 1000 = true) (hk : k < 10000) (hp : hiP q r s m0 k = true) (hn : NoneTo (hiP q r s m0) k) : fF p q r s m0 = (10000 - (k : Int), 0) := by
  simp only [fF, h, hm, if_true, first_some hk hp hn]
theorem fF_none {p q r s m0 : Int} (h : cordB p q r s = true) (hm : inB m0 0 1000 = true) (hn : NoneTo (hiP q r s m0) 10000) : fF p q r s m0 = (0, 3) := by
  simp only [fF, h, hm, if_true, first_none hn]
theorem pitch_in {p q r s : Int} (h : cordB p q r s = true) {y : Int} (h0 : 0 ≤ y) (h1 : y ≤ 10000) : CordIn y q r := by
  have := cordB_true h
  exact ⟨⟨by omega, by omega⟩, ⟨by omega, by omega⟩, ⟨by omega, by omega⟩⟩
theorem share_in {p q r s m0 : Int} (h : cordB p q r s = true) (hm : inB m0 0 1000 = true) : ShareIn s m0 := by
  have := cordB_true h
  have := inB_true hm
  exact ⟨⟨by omega, by omega⟩, ⟨by omega, by omega⟩⟩
theorem tenF_mono {a b q r : Int} (h0 : 0 ≤ a) (h : a ≤ b) (hq : 0 ≤ q) (hr : 0 ≤ r) : tenF a q r ≤ tenF b q r := by
  refine rdiv_mono (by omega) ?_
  have k1 : 4 * a * a ≤ 4 * b * b := Int.mul_le_mul (by omega) h h0 (by omega)
  exact Int.mul_le_mul_of_nonneg_right (Int.mul_le_mul_of_nonneg_right (Int.mul_le_mul_of_nonneg_right k1 hq) hq) hr
theorem hold_mono {p q r s m0 a b : Int} (hc : cordB p q r s = true) (h0 : 0 ≤ a) (h : a ≤ b) (hb : holdB a q r s m0 = false) : holdB b q r s m0 = false := by
  have hx := cordB_true hc
  have := tenF_mono (q := q) (r := r) h0 h (by omega) (by omega)
  have h2 := of_decide_eq_false hb
  exact decide_eq_false (by omega)
/-- No pitch above y holds. -/
def Above (q r s m0 y : Int) : Prop := ∀ z, y < z → z ≤ 10000 → holdB z q r s m0 = false
theorem Above.none {q r s m0 y : Int} (h : Above q r s m0 y) {k : Nat} (hk : y = 10000 - k) : NoneTo (hiP q r s m0) k := fun j hj => h _ (by omega) (by omega)

set_option maxRecDepth 100000 in
theorem i_c (p q r s m0 : Int) (w : World) : Calls Tryd.prog 15 #[.agg #[.int .i64 p, .int .i64 q, .int .i64 r, .int .i64 s], .int .i64 m0] w fun e w' => e = .returned (.tuple #[.int .i64 (fF p q r s m0).1, .int .i64 (fF p q r s m0).2]) ∧ Below w.heap.size w w' := by
  cases h : cordB p q r s
  · go_enter Tryd.func15, Tryd.ntmps15
    go_wp2_with fail
    refine call_below (validString_c _ _ _ _ _) ?_
    intro w1 hb1
    go_wp2
    go_ret2
    exact ⟨by simp [fF, h], below_from hb1⟩
  · cases hm : inB m0 0 1000
    · go_enter Tryd.func15, Tryd.ntmps15
      go_wp2_with fail
      refine call_below (validString_c _ _ _ _ _) ?_
      intro w1 hb1
      go_wp2_with (go_at_call 37; refine call_same (isShare_c _ _) ?_)
      go_ret2
      exact ⟨by simp [fF, h, hm], below_from hb1⟩
    · have hsh := Lib.hid (share_in h hm)
      go_enter Tryd.func15, Tryd.ntmps15
      go_wp2_with fail
      refine call_below (validString_c _ _ _ _ _) ?_
      intro w1 hb1
      have D := box_four hb1
      obtain ⟨d0, d1, d2, d3⟩ := D
      have hf3 : w1.frozen? ⟨w.heap.size, 0, none⟩ = false := by rw [hb1.frozen (p := ⟨w.heap.size, 0, none⟩) (by simp)]; go_cell
      have HB := Lib.hid hb1
      have HD := Lib.hid (show Four w.heap.size _ _ _ _ w1 from ⟨d0, d1, d2, d3⟩)
      clear hb1
      go_wp2_with (go_at_call 37; refine call_same (isShare_c _ _) ?_)
      go_loopg [] 10000 (fun g wr => ∃ (k : Nat) (y : Int), (g : Int) = y ∧ 0 ≤ y ∧ y = 10000 - k ∧ Four w.heap.size (.int .i64 y) (.int .i64 q) (.int .i64 r) (.int .i64 s) wr ∧ wr.frozen? ⟨w.heap.size, 0, none⟩ = false ∧ Below w.heap.size w wr ∧ NoneTo (hiP q r s m0) k)
      case atStart => exact ⟨0, 10000, by omega, by omega, by omega, HD.out.set0 _, by simpa using hf3, (below_from HB.out).setCell (Nat.le_refl _) _, NoneTo.zero _⟩
      case round =>
        obtain ⟨k, y, hg, hy0, hyk, hD, hf, hbl, hno⟩ := hrel
        clear d0 d1 d2 d3 hf3 HB HD
        have HG := Lib.hid hg
        have HY := Lib.hid hyk
        have hy1 : y ≤ 10000 := by omega
        have HD := Lib.hid hD
        have HN := Lib.hid hno
        obtain ⟨d0, d1, d2, d3⟩ := hD
        clear hno hg hyk
        by_cases hlt : 0 < y
        · have hin := Lib.hid (pitch_in h hy0 hy1)
          have hP : hiP q r s m0 k = holdB y q r s m0 := by unfold hiP; rw [HY.out]
          have HP := Lib.hid hP
          clear hP
          cases hv : holdB y q r s m0
          · go_wp2_with fail
            refine call_below (holds_c y q r s m0 _ hin.out hsh.out) ?_
            intro w2 hb2
            have e3 := (HD.out.keep hb2).1
            have f3 : w2.frozen? ⟨w.heap.size, 0, none⟩ = false := (hb2.frozen (p := ⟨w.heap.size, 0, none⟩) HD.out.lt).trans hf
            go_wp2
            go_roundg (gk - 1)
            case measure => have := HG.out; omega
            case rel => exact ⟨k + 1, y - 1, by have := HG.out; omega, by omega, by have := HY.out; omega, (HD.out.keep hb2).set0 _, by simpa using f3, (below_next hbl hb2).setCell (Nat.le_refl _) _, HN.out.step (HP.out.trans hv)⟩
          · have HF := Lib.hid (fF_some h hm (by have := HY.out; omega) (HP.out.trans hv) HN.out)
            go_wp2_with fail
            refine call_below (holds_c y q r s m0 _ hin.out hsh.out) ?_
            intro w2 hb2
            have e3 := (HD.out.keep hb2).1
            go_wp2
            go_ret2
            exact ⟨by rw [HF.out, ← HY.out]; rfl, below_next hbl hb2⟩
        · obtain rfl : y = 0 := by omega
          have hk : k = 10000 := by have := HY.out; omega
          have HF := Lib.hid (fF_none h hm (hk ▸ HN.out))
          clear hk
          go_wp2
          go_ret2
          exact ⟨by rw [HF.out]; rfl, hbl⟩

end Go.Proofs.YtpklckpnhjhnhaaDoor.shHighestPitch
