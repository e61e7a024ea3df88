/- The program's LeastGauge returns what the reference's returns, for all arguments. No condition. -/
import Derived.Test.YtdbgcchnaielmaaRows
import Derived.Test.YtdbgcchnaielmaaCord2
import Derived.OpenShut
import Derived.ChangeOld
import Derived.Lib.SmallJoins
namespace Go.Proofs.Ytdbgcchnaielmaa.lawLeastGauge
open Go.ChangeShapes Go.WideShapes Go.ChangeAt Go.RowKit
set_option linter.unusedVariables false

/-- The number of gauges, behind a name that the walk does not open. -/
def tenK : Nat := 10000
theorem tenK_eq : tenK = 10000 := rfl
/-- Whether the gauge k + 1 suffices. -/
def gauP (p q m0 : Int) (k : Nat) : Bool := decide (m0 ≤ tenF p q (k + 1))
def fF (p q r s m0 : Int) : Int × Int := if cordB p q r s then (if inB m0 0 500000 then (match firstUpTo (gauP p q m0) 10000 with | some k => ((k : Int) + 1, 0) | none => (0, 3)) else (0, 2)) else (0, 1)
theorem fF_some {p q r s m0 : Int} {k : Nat} (h : cordB p q r s = true) (hm : inB m0 0 500000 = true) (hk : k < 10000) (hp : gauP p q m0 k = true) (hn : NoneTo (gauP p q m0) k) : fF p q r s m0 = ((k : Int) + 1, 0) := by
  simp only [fF, h, hm, if_true, first_some hk hp hn]
theorem fF_none {p q r s m0 : Int} (h : cordB p q r s = true) (hm : inB m0 0 500000 = true) (hn : NoneTo (gauP p q m0) 10000) : fF p q r s m0 = (0, 3) := by
  simp only [fF, h, hm, if_true, first_none hn]
theorem gauge_in {p q r s : Int} {k : Nat} (h : cordB p q r s = true) (hk : k < 10000) : CordIn p q ((k : Int) + 1) := by
  have := cordB_true h
  exact ⟨⟨by omega, by omega⟩, ⟨by omega, by omega⟩, ⟨by omega, by omega⟩⟩

set_option maxRecDepth 100000 in
theorem i_c (p q r s m0 : Int) (w : World) : Calls Try.prog 38 #[.agg #[.int .i64 p, .int .i64 q, .int .i64 r, .int .i64 s], .int .i64 m0] w fun e w' => e = .returned (.tuple #[.int .i64 (fF p q r s m0).1, .int .i64 (fF p q r s m0).2]) ∧ Below w.heap.size w w' := by
  cases h : cordB p q r s
  · go_enter Try.func38, Try.ntmps38
    go_wp2_with fail
    refine call_below (validString_c _ _ _ _ _) ?_
    intro w1 hb1
    go_wp2
    go_ret2
    exact ⟨by simp [fF, h], below_from hb1⟩
  · cases hm : inB m0 0 500000
    · go_enter Try.func38, Try.ntmps38
      go_wp2_with fail
      refine call_below (validString_c _ _ _ _ _) ?_
      intro w1 hb1
      go_wp2_with (go_at_call 51; refine call_same (within_c _ _ _ _) ?_)
      go_ret2
      exact ⟨by simp [fF, h, hm], below_from hb1⟩
    · have hm1 := inB_true hm
      go_enter Try.func38, Try.ntmps38
      go_wp2_with fail
      refine call_below (validString_c _ _ _ _ _) ?_
      intro w1 hb1
      have D := box_four hb1
      obtain ⟨d0, d1, d2, d3⟩ := D
      have hf3 : w1.frozen? ⟨w.heap.size, 2, none⟩ = false := by rw [hb1.frozen (p := ⟨w.heap.size, 2, none⟩) (by simp)]; go_cell
      have HB := Lib.hid hb1
      have HD := Lib.hid (show Four w.heap.size _ _ _ _ w1 from ⟨d0, d1, d2, d3⟩)
      clear hb1
      go_wp2_with (go_at_call 51; refine call_same (within_c _ _ _ _) ?_)
      go_loopg [] tenK (fun g wr => ∃ k : Nat, k ≤ tenK ∧ g + k = tenK ∧ Four w.heap.size (.int .i64 p) (.int .i64 q) (.int .i64 ((k : Nat) + 1)) (.int .i64 s) wr ∧ wr.frozen? ⟨w.heap.size, 2, none⟩ = false ∧ Below w.heap.size w wr ∧ NoneTo (gauP p q m0) k)
      case atStart => exact ⟨0, by have := tenK_eq; omega, by have := tenK_eq; omega, HD.out.set2 _, by simpa using hf3, (below_from HB.out).setCell (Nat.le_refl _) _, NoneTo.zero _⟩
      case round =>
        obtain ⟨k, hk, hg, hD, hf, hbl, hno⟩ := hrel
        have HG := Lib.hid hg
        clear hg
        clear d0 d1 d2 d3 hf3 HB HD
        have HD := Lib.hid hD
        have HN := Lib.hid hno
        obtain ⟨d0, d1, d2, d3⟩ := hD
        have htk := tenK_eq
        have hk2 : k ≤ 10000 := by omega
        have HG2 := Lib.hid (show gk + k = 10000 by have := HG.out; omega)
        clear hno htk hk
        by_cases hlt : k < 10000
        · have hin := Lib.hid (gauge_in h hlt)
          have hlt' := Lib.hid hlt
          have hki : (k : Int) < 10000 := by omega
          have hkj : (k : Int) + 1 ≤ 10000 := by omega
          clear hlt hk2
          cases hv : gauP p q m0 k
          · have ht : ¬ m0 ≤ tenF p q (k + 1) := of_decide_eq_false hv
            go_wp2_with fail
            refine call_below (tension_c p q _ s _ hin.out) ?_
            intro w2 hb2
            have e3 := (HD.out.keep hb2).2.2.1
            have f3 : w2.frozen? ⟨w.heap.size, 2, none⟩ = false := (hb2.frozen (p := ⟨w.heap.size, 2, none⟩) HD.out.lt).trans hf
            go_wp2
            go_roundg (gk - 1)
            case measure => have := HG2.out; have := hlt'.out; omega
            case rel => exact ⟨k + 1, by have := tenK_eq; have := hlt'.out; omega, by have := HG.out; have := HG2.out; have := hlt'.out; omega, by simpa using (HD.out.keep hb2).set2 (.int .i64 ((k : Int) + 1 + 1)), by simpa using f3, (below_next hbl hb2).setCell (Nat.le_refl _) _, HN.out.step hv⟩
          · have ht : m0 ≤ tenF p q (k + 1) := of_decide_eq_true hv
            have HF := Lib.hid (fF_some h hm hlt'.out hv HN.out)
            go_wp2_with fail
            refine call_below (tension_c p q _ s _ hin.out) ?_
            intro w2 hb2
            have e3 := (HD.out.keep hb2).2.2.1
            go_wp2
            go_ret2
            exact ⟨by rw [HF.out]; rfl, below_next hbl hb2⟩
        · obtain rfl : k = 10000 := by omega
          have HF := Lib.hid (fF_none h hm HN.out)
          go_wp2
          go_ret2
          exact ⟨by rw [HF.out]; rfl, hbl⟩

set_option maxRecDepth 100000 in
theorem s_c (p q r s m0 : Int) (w : World) : Calls Try.prog 37 #[.agg #[.int .i64 p, .int .i64 q, .int .i64 r, .int .i64 s], .int .i64 m0] w fun e w' => e = .returned (.tuple #[.int .i64 (fF p q r s m0).1, .int .i64 (fF p q r s m0).2]) ∧ Below w.heap.size w w' := by
  cases h : cordB p q r s
  · go_enter Try.func37, Try.ntmps37
    go_wp2_with fail
    refine call_same (l09One_c _ _ p q r s _ ?_ ?_ ?_ ?_) ?_
    iterate 4 (· go_cell)
    go_wp2
    go_ret2
    exact ⟨by simp [fF, h], by go_grown⟩
  · cases hm : inB m0 0 500000
    · go_enter Try.func37, Try.ntmps37
      go_wp2_with fail
      refine call_same (l09One_c _ _ p q r s _ ?_ ?_ ?_ ?_) ?_
      iterate 4 (· go_cell)
      go_wp2_with (go_at_call 48; refine call_same (l00In_c _ _ _ _) ?_)
      go_ret2
      exact ⟨by simp [fF, h, hm], by go_grown⟩
    · have hm1 := inB_true hm
      go_enter Try.func37, Try.ntmps37
      go_wp2_with fail
      refine call_same (l09One_c _ _ p q r s _ ?_ ?_ ?_ ?_) ?_
      iterate 4 (· go_cell)
      go_wp2_with (go_at_call 48; refine call_same (l00In_c _ _ _ _) ?_)
      go_loopg [] tenK (fun g wr => ∃ k : Nat, k ≤ tenK ∧ g + k = tenK ∧ Four (w.heap.size + 1) (.int .i64 p) (.int .i64 q) (.int .i64 ((k : Nat) + 1)) (.int .i64 s) wr ∧ wr.frozen? ⟨w.heap.size + 1, 2, none⟩ = false ∧ Below w.heap.size w wr ∧ NoneTo (gauP p q m0) k)
      case atStart => exact ⟨0, by have := tenK_eq; omega, by have := tenK_eq; omega, ⟨by go_cell, by go_cell, by go_cell, by go_cell⟩, by go_cell, by go_grown, NoneTo.zero _⟩
      case round =>
        obtain ⟨k, hk, hg, hD, hf, hbl, hno⟩ := hrel
        have HG := Lib.hid hg
        clear hg
        have HD := Lib.hid hD
        have HN := Lib.hid hno
        obtain ⟨d0, d1, d2, d3⟩ := hD
        have htk := tenK_eq
        have hk2 : k ≤ 10000 := by omega
        have HG2 := Lib.hid (show gk + k = 10000 by have := HG.out; omega)
        clear hno htk hk
        by_cases hlt : k < 10000
        · have hin := Lib.hid (gauge_in h hlt)
          have hlt' := Lib.hid hlt
          have hki : (k : Int) < 10000 := by omega
          have hkj : (k : Int) + 1 ≤ 10000 := by omega
          clear hlt hk2
          cases hv : gauP p q m0 k
          · have ht : ¬ m0 ≤ tenF p q (k + 1) := of_decide_eq_false hv
            go_wp2_with fail
            refine call_below (l09Tension_c _ _ p q _ _ d0 d1 d2 hin.out) ?_
            intro w2 hb2
            have e3 := (HD.out.keep hb2).2.2.1
            have f3 : w2.frozen? ⟨w.heap.size + 1, 2, none⟩ = false := (hb2.frozen (p := ⟨w.heap.size + 1, 2, none⟩) HD.out.lt).trans hf
            go_wp2
            go_roundg (gk - 1)
            case measure => have := HG2.out; have := hlt'.out; omega
            case rel => exact ⟨k + 1, by have := tenK_eq; have := hlt'.out; omega, by have := HG.out; have := HG2.out; have := hlt'.out; omega, by simpa using (HD.out.keep hb2).set2 (.int .i64 ((k : Int) + 1 + 1)), by simpa using f3, (below_next hbl hb2).setCell (Nat.le_succ _) _, HN.out.step hv⟩
          · have ht : m0 ≤ tenF p q (k + 1) := of_decide_eq_true hv
            have HF := Lib.hid (fF_some h hm hlt'.out hv HN.out)
            go_wp2_with fail
            refine call_below (l09Tension_c _ _ p q _ _ d0 d1 d2 hin.out) ?_
            intro w2 hb2
            have e3 := (HD.out.keep hb2).2.2.1
            go_wp2
            go_ret2
            exact ⟨by rw [HF.out]; rfl, below_next hbl hb2⟩
        · obtain rfl : k = 10000 := by omega
          have HF := Lib.hid (fF_none h hm HN.out)
          go_wp2
          go_ret2
          exact ⟨by rw [HF.out]; rfl, hbl⟩

theorem walk (p q r s m0 : Int) (w : World) (_ : (Lit.int .i64 p).wf = true) (_ : (Lit.int .i64 q).wf = true) (_ : (Lit.int .i64 r).wf = true) (_ : (Lit.int .i64 s).wf = true) (_ : (Lit.int .i64 m0).wf = true) :
    Calls Try.prog 12 #[.agg #[.int .i64 p, .int .i64 q, .int .i64 r, .int .i64 s], .int .i64 m0] w fun e w' => e = .returned (.bool true) ∧ Below w.heap.size w w' := by
  go_enter Try.func12, Try.ntmps12
  go_wp2_with fail
  refine call_below (toCord_c _ _ _ _ _) ?_
  intro w1 hb1
  have c1 := box_cell hb1
  go_wp2_with fail
  refine call_below (s_c p q r s m0 _) ?_
  intro w2 hb2
  have H2 := below_next hb1 hb2
  clear c1 hb1 hb2
  have c2 := box_cell H2
  go_wp2_with fail
  refine call_below (toCord_c _ _ _ _ _) ?_
  intro w3 hb3
  have H3 := below_next H2 hb3
  clear c2 H2 hb3
  go_wp2_with fail
  refine call_below (i_c p q r s m0 _) ?_
  intro w4 hb4
  have H4 := below_next H3 hb4
  clear H3 hb4
  go_wp2
  go_ret
  exact ⟨rfl, below_from H4⟩

theorem own : ownKnob Try.prog.godebug = none := by kernel_rfl
theorem laidOut : laidOutB Try.prog = true := by kernel_rfl
theorem cells30 : Try.prog.cellsOf 30 = 4 := by kernel_rfl
set_option maxRecDepth 100000 in
theorem lifted (os : Os) (started : os.Started) (H : Type) (enc : TypeId × Value → H) :
    ReturnsInHanded {} Try.checked os 12 .any (Rows.fnExactLeastGaugeSpec.pre6 enc Try.prog Try.f12 Rows.fnExactLeastGaugeRow.domain false) (Rows.fnExactLeastGaugeSpec.post enc Try.prog Try.f12 false true false false) := by
  refine returnsInHanded_of_change (C := Try.checked) own started (by kernel_rfl) Try.func12
    (ChangeSpec.witness6 (enc := enc) (C := Try.checked) false ⟨#[], #[.agg #[.int .i64 0, .int .i64 0, .int .i64 0, .int .i64 0], .int .i64 0], []⟩ 8 (by kernel_rfl) (by kernel_rfl) (by kernel_rfl) (by kernel_rfl)) ?_
  intro W base args ds gs before hval0 hW hcnd _
  have hval : ∀ (j : Nat) t v, Try.f12.params[j]? = some t → args[j]? = some v → Value.okWide Try.prog W .any base t v := hval0
  have hW' := hW
  obtain ⟨p, q, hA0, hV, rfl, hfz, hnd⟩ := hW
  have hA : DataW.TrodAll enc Try.prog W 0 (fun _ => true) true Try.f12.params.toList args.toList ds p := hA0
  rw [Try.params12] at hA hval
  obtain ⟨v0, vs0, d0, ds0, p0, q0, hargs, rfl, rfl, h0, r0⟩ := trodAll_cons hA
  obtain ⟨v1, vs1, d1, ds1, p1, q1, rfl, rfl, rfl, h1, r1⟩ := trodAll_cons r0
  obtain ⟨rfl, rfl, rfl⟩ := trodAll_nil r1
  obtain rfl : args = #[v0, v1] := by cases args; simp_all
  obtain ⟨rfl, rfl⟩ := trodVars_none hV
  have k0 := h0
  have lt0 : ∀ x ∈ p0, x.block < W.heap.size := by obtain ⟨m, hm⟩ := k0; exact DataW.trod_lt m _ _ _ hm
  obtain ⟨c00, c01, c02, c03, y00, y01, y02, y03, n0, rfl, hd0, hp0, t00, t01, t02, t03⟩ := Go.Joins.open_agg4 Try.underlying30 (by kernel_rfl) cells30 (hval 0 30 v0 rfl rfl) h0
  obtain ⟨a00, e00, z00, w00⟩ := DataW.trod_int Try.underlying2 t00
  simp only [List.cons.injEq, and_true] at e00
  subst e00
  obtain ⟨a01, e01, z01, w01⟩ := DataW.trod_int Try.underlying2 t01
  simp only [List.cons.injEq, and_true] at e01
  subst e01
  obtain ⟨a02, e02, z02, w02⟩ := DataW.trod_int Try.underlying2 t02
  simp only [List.cons.injEq, and_true] at e02
  subst e02
  obtain ⟨a03, e03, z03, w03⟩ := DataW.trod_int Try.underlying2 t03
  simp only [List.cons.injEq, and_true] at e03
  subst e03
  have k1 := h1
  have lt1 : ∀ x ∈ p1, x.block < W.heap.size := by obtain ⟨m, hm⟩ := k1; exact DataW.trod_lt m _ _ _ hm
  obtain ⟨a1, rfl, rfl, rfl, w1⟩ := open_int Try.underlying2 (hval 1 2 v1 rfl rfl) h1
  clear hA0 hval0
  refine (walk a00 a01 a02 a03 a1 W w00 w01 w02 w03 w1).mono fun e W' ⟨he, bel⟩ => ?_
  subst he
  exact ⟨_, rfl, _, _, _, [], _, [], hW', trodAll_mk1 (shut_bool Try.underlying4 _), (trodAll_cons_mk (Below.trod laidOut (by kernel_rfl) (of_decide_eq_true (by kernel_rfl)) k0 bel lt0) (trodAll_cons_mk (Below.trod laidOut (by kernel_rfl) (of_decide_eq_true (by kernel_rfl)) k1 bel lt1) trodAll_mk0)), rfl, bel.frame _, fun h => by cases h⟩

theorem over : Rows.fnExactLeastGaugeRow.holds Try.pinned (OpenSpec.ofChange Rows.fnExactLeastGaugeSpec) :=
  OpenClaim.holds_of_wide 12 Try.f12 rfl rfl rfl rfl rfl rfl rfl ⟨rfl, rfl, rfl, rfl, rfl⟩ rfl rfl rfl rfl rfl (by kernel_rfl) Try.func12 (by kernel_rfl)
    (of_decide_eq_true (by kernel_rfl)) (by unfold Func.isWrapper; first | (rw [if_pos (by decide +kernel)]; kernel_rfl) | (rw [if_neg (by decide +kernel)]; exact ⟨rfl, rfl⟩))
    (fun os started H enc _ => lifted os started H enc)

/-- THE STATEMENT. -/
theorem proved : Rows.FnExactLeastGaugeSaid := over
#print axioms proved
end Go.Proofs.Ytdbgcchnaielmaa.lawLeastGauge
