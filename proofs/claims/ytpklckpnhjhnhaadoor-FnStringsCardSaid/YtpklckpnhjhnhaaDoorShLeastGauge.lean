/- What LeastGauge returns, on both sides. -/
import Derived.Test.YtpklckpnhjhnhaaDoorCord2
namespace Go.Proofs.YtpklckpnhjhnhaaDoor.shLeastGauge
open Go.ChangeShapes Go.WideShapes Go.RowKit
set_option linter.unusedVariables false

/-- The number of gauges, behind a name that the walk does not open. -/
def tenK : Nat := 10000
theorem tenK_eq : tenK = 10000 := rfl
/-- Whether the gauge k + 1 suffices. -/
def gauP (p q m0 : Int) (k : Nat) : Bool := decide (m0 ≤ tenF p q (k + 1))
def fF (p q r s m0 : Int) : Int × Int := if cordB p q r s then (if inB m0 0 500000 then (match firstUpTo (gauP p q m0) 10000 with | some k => ((k : Int) + 1, 0) | none => (0, 3)) else (0, 2)) else (0, 1)
theorem fF_some {p q r s m0 : Int} {k : Nat} (h : cordB p q r s = true) (hm : inB m0 0 500000 = true) (hk : k < 10000) (hp : gauP p q m0 k = true) (hn : NoneTo (gauP p q m0) k) : fF p q r s m0 = ((k : Int) + 1, 0) := by
  simp only [fF, h, hm, if_true, first_some hk hp hn]
theorem fF_none {p q r s m0 : Int} (h : cordB p q r s = true) (hm : inB m0 0 500000 = true) (hn : NoneTo (gauP p q m0) 10000) : fF p q r s m0 = (0, 3) := by
  simp only [fF, h, hm, if_true, first_none hn]
theorem gauge_in {p q r s : Int} {k : Nat} (h : cordB p q r s = true) (hk : k < 10000) : CordIn p q ((k : Int) + 1) := by
  have := cordB_true h
  exact ⟨⟨by omega, by omega⟩, ⟨by omega, by omega⟩, ⟨by omega, by omega⟩⟩

set_option maxRecDepth 100000 in
theorem i_c (p q r s m0 : Int) (w : World) : Calls Tryd.prog 17 #[.agg #[.int .i64 p, .int .i64 q, .int .i64 r, .int .i64 s], .int .i64 m0] w fun e w' => e = .returned (.tuple #[.int .i64 (fF p q r s m0).1, .int .i64 (fF p q r s m0).2]) ∧ Below w.heap.size w w' := by
  cases h : cordB p q r s
  · go_enter Tryd.func17, Tryd.ntmps17
    go_wp2_with fail
    refine call_below (validString_c _ _ _ _ _) ?_
    intro w1 hb1
    go_wp2
    go_ret2
    exact ⟨by simp [fF, h], below_from hb1⟩
  · cases hm : inB m0 0 500000
    · go_enter Tryd.func17, Tryd.ntmps17
      go_wp2_with fail
      refine call_below (validString_c _ _ _ _ _) ?_
      intro w1 hb1
      go_wp2_with (go_at_call 36; refine call_same (within_c _ _ _ _) ?_)
      go_ret2
      exact ⟨by simp [fF, h, hm], below_from hb1⟩
    · have hm1 := inB_true hm
      go_enter Tryd.func17, Tryd.ntmps17
      go_wp2_with fail
      refine call_below (validString_c _ _ _ _ _) ?_
      intro w1 hb1
      have D := box_four hb1
      obtain ⟨d0, d1, d2, d3⟩ := D
      have hf3 : w1.frozen? ⟨w.heap.size, 2, none⟩ = false := by rw [hb1.frozen (p := ⟨w.heap.size, 2, none⟩) (by simp)]; go_cell
      have HB := Lib.hid hb1
      have HD := Lib.hid (show Four w.heap.size _ _ _ _ w1 from ⟨d0, d1, d2, d3⟩)
      clear hb1
      go_wp2_with (go_at_call 36; refine call_same (within_c _ _ _ _) ?_)
      go_loopg [] tenK (fun g wr => ∃ k : Nat, k ≤ tenK ∧ g + k = tenK ∧ Four w.heap.size (.int .i64 p) (.int .i64 q) (.int .i64 ((k : Nat) + 1)) (.int .i64 s) wr ∧ wr.frozen? ⟨w.heap.size, 2, none⟩ = false ∧ Below w.heap.size w wr ∧ NoneTo (gauP p q m0) k)
      case atStart => exact ⟨0, by have := tenK_eq; omega, by have := tenK_eq; omega, HD.out.set2 _, by simpa using hf3, (below_from HB.out).setCell (Nat.le_refl _) _, NoneTo.zero _⟩
      case round =>
        obtain ⟨k, hk, hg, hD, hf, hbl, hno⟩ := hrel
        have HG := Lib.hid hg
        clear hg
        clear d0 d1 d2 d3 hf3 HB HD
        have HD := Lib.hid hD
        have HN := Lib.hid hno
        obtain ⟨d0, d1, d2, d3⟩ := hD
        have htk := tenK_eq
        have hk2 : k ≤ 10000 := by omega
        have HG2 := Lib.hid (show gk + k = 10000 by have := HG.out; omega)
        clear hno htk hk
        by_cases hlt : k < 10000
        · have hin := Lib.hid (gauge_in h hlt)
          have hlt' := Lib.hid hlt
          have hki : (k : Int) < 10000 := by omega
          have hkj : (k : Int) + 1 ≤ 10000 := by omega
          clear hlt hk2
          cases hv : gauP p q m0 k
          · have ht : ¬ m0 ≤ tenF p q (k + 1) := of_decide_eq_false hv
            go_wp2_with fail
            refine call_below (tension_c p q _ s _ hin.out) ?_
            intro w2 hb2
            have e3 := (HD.out.keep hb2).2.2.1
            have f3 : w2.frozen? ⟨w.heap.size, 2, none⟩ = false := (hb2.frozen (p := ⟨w.heap.size, 2, none⟩) HD.out.lt).trans hf
            go_wp2
            go_roundg (gk - 1)
            case measure => have := HG2.out; have := hlt'.out; omega
            case rel => exact ⟨k + 1, by have := tenK_eq; have := hlt'.out; omega, by have := HG.out; have := HG2.out; have := hlt'.out; omega, by simpa using (HD.out.keep hb2).set2 (.int .i64 ((k : Int) + 1 + 1)), by simpa using f3, (below_next hbl hb2).setCell (Nat.le_refl _) _, HN.out.step hv⟩
          · have ht : m0 ≤ tenF p q (k + 1) := of_decide_eq_true hv
            have HF := Lib.hid (fF_some h hm hlt'.out hv HN.out)
            go_wp2_with fail
            refine call_below (tension_c p q _ s _ hin.out) ?_
            intro w2 hb2
            have e3 := (HD.out.keep hb2).2.2.1
            go_wp2
            go_ret2
            exact ⟨by rw [HF.out]; rfl, below_next hbl hb2⟩
        · obtain rfl : k = 10000 := by omega
          have HF := Lib.hid (fF_none h hm HN.out)
          go_wp2
          go_ret2
          exact ⟨by rw [HF.out]; rfl, hbl⟩

end Go.Proofs.YtpklckpnhjhnhaaDoor.shLeastGauge
