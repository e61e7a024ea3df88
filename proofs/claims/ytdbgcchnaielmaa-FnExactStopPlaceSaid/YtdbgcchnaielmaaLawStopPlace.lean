/- The program's StopPlace returns what the reference's returns, for all arguments. No condition. -/
import Derived.Test.YtdbgcchnaielmaaRows
import Derived.Test.YtdbgcchnaielmaaCord2
import Derived.OpenShut
import Derived.ChangeOld
import Derived.Lib.SmallJoins
namespace Go.Proofs.Ytdbgcchnaielmaa.lawStopPlace
open Go.ChangeShapes Go.WideShapes Go.ChangeAt Go.RowKit
set_option linter.unusedVariables false

def fF (p q r s m0 : Int) : Int × Int := if cordB p q r s then (if inB m0 p 10000 then (rdiv (10 * q * (m0 - p)) m0, 0) else (0, 2)) else (0, 1)

theorem i_c (p q r s m0 : Int) (w : World) : Calls Try.prog 20 #[.agg #[.int .i64 p, .int .i64 q, .int .i64 r, .int .i64 s], .int .i64 m0] w fun e w' => e = .returned (.tuple #[.int .i64 (fF p q r s m0).1, .int .i64 (fF p q r s m0).2]) ∧ Below w.heap.size w w' := by
  cases h : cordB p q r s
  · go_enter Try.func20, Try.ntmps20
    go_wp2_with fail
    refine call_below (validString_c _ _ _ _ _) ?_
    intro w1 hb1
    go_wp2
    go_ret2
    exact ⟨by simp [fF, h], below_from hb1⟩
  · cases hm : inB m0 p 10000
    · go_enter Try.func20, Try.ntmps20
      go_wp2_with fail
      refine call_below (validString_c _ _ _ _ _) ?_
      intro w1 hb1
      have c1 := box_cell hb1
      go_wp2_with (go_at_call 51; refine call_same (within_c _ _ _ _) ?_)
      go_ret2
      exact ⟨by simp [fF, h, hm], below_from hb1⟩
    · have hn := cordB_true h
      have hm1 := inB_true hm
      have b3 := mul_bd (a := 10 * q) (A := 5000) (b := m0 - p) (B := 10000) (by omega) (by omega) (by omega) (by omega)
      go_enter Try.func20, Try.ntmps20
      go_wp2_with fail
      refine call_below (validString_c _ _ _ _ _) ?_
      intro w1 hb1
      have c1 := box_cell hb1
      go_wp2_with (first | (go_at_call 51; refine call_same (within_c _ _ _ _) ?_) | (go_at_call 52; refine call_same (divRound_c _ _ _ (by omega) (by omega) (by omega) (by omega)) ?_))
      go_ret2
      exact ⟨by simp [fF, h, hm], below_from hb1⟩

theorem s_c (p q r s m0 : Int) (w : World) : Calls Try.prog 18 #[.agg #[.int .i64 p, .int .i64 q, .int .i64 r, .int .i64 s], .int .i64 m0] w fun e w' => e = .returned (.tuple #[.int .i64 (fF p q r s m0).1, .int .i64 (fF p q r s m0).2]) ∧ Below w.heap.size w w' := by
  cases h : cordB p q r s
  · go_enter Try.func18, Try.ntmps18
    go_wp2_with fail
    refine call_same (l09One_c _ _ p q r s _ ?_ ?_ ?_ ?_) ?_
    iterate 4 (· go_cell)
    go_wp2
    go_ret2
    exact ⟨by simp [fF, h], by go_grown⟩
  · cases hm : inB m0 p 10000
    · go_enter Try.func18, Try.ntmps18
      go_wp2_with fail
      refine call_same (l09One_c _ _ p q r s _ ?_ ?_ ?_ ?_) ?_
      iterate 4 (· go_cell)
      go_wp2_with (go_at_call 48; refine call_same (l00In_c _ _ _ _) ?_)
      go_ret2
      exact ⟨by simp [fF, h, hm], by go_grown⟩
    · have hn := cordB_true h
      have hm1 := inB_true hm
      have b3 := mul_bd (a := 10 * q) (A := 5000) (b := m0 - p) (B := 10000) (by omega) (by omega) (by omega) (by omega)
      go_enter Try.func18, Try.ntmps18
      go_wp2_with fail
      refine call_same (l09One_c _ _ p q r s _ ?_ ?_ ?_ ?_) ?_
      iterate 4 (· go_cell)
      go_wp2_with (first | (go_at_call 48; refine call_same (l00In_c _ _ _ _) ?_) | (go_at_call 49; refine call_same (l01Div_c _ _ _ (by omega) (by omega) (by omega) (by omega)) ?_))
      go_ret2
      exact ⟨by simp [fF, h, hm], by go_grown⟩

theorem walk (p q r s m0 : Int) (w : World) (_ : (Lit.int .i64 p).wf = true) (_ : (Lit.int .i64 q).wf = true) (_ : (Lit.int .i64 r).wf = true) (_ : (Lit.int .i64 s).wf = true) (_ : (Lit.int .i64 m0).wf = true) :
    Calls Try.prog 4 #[.agg #[.int .i64 p, .int .i64 q, .int .i64 r, .int .i64 s], .int .i64 m0] w fun e w' => e = .returned (.bool true) ∧ Below w.heap.size w w' := by
  go_enter Try.func4, Try.ntmps4
  go_wp2_with fail
  refine call_below (toCord_c _ _ _ _ _) ?_
  intro w1 hb1
  have c1 := box_cell hb1
  go_wp2_with fail
  refine call_below (s_c p q r s m0 _) ?_
  intro w2 hb2
  have H2 := below_next hb1 hb2
  clear c1 hb1 hb2
  have c2 := box_cell H2
  go_wp2_with fail
  refine call_below (toCord_c _ _ _ _ _) ?_
  intro w3 hb3
  have H3 := below_next H2 hb3
  clear c2 H2 hb3
  go_wp2_with fail
  refine call_below (i_c p q r s m0 _) ?_
  intro w4 hb4
  have H4 := below_next H3 hb4
  clear H3 hb4
  go_wp2
  go_ret
  exact ⟨rfl, below_from H4⟩

theorem own : ownKnob Try.prog.godebug = none := by kernel_rfl
theorem laidOut : laidOutB Try.prog = true := by kernel_rfl
theorem cells30 : Try.prog.cellsOf 30 = 4 := by kernel_rfl
set_option maxRecDepth 100000 in
theorem lifted (os : Os) (started : os.Started) (H : Type) (enc : TypeId × Value → H) :
    ReturnsInHanded {} Try.checked os 4 .any (Rows.fnExactStopPlaceSpec.pre6 enc Try.prog Try.f4 Rows.fnExactStopPlaceRow.domain false) (Rows.fnExactStopPlaceSpec.post enc Try.prog Try.f4 false true false false) := by
  refine returnsInHanded_of_change (C := Try.checked) own started (by kernel_rfl) Try.func4
    (ChangeSpec.witness6 (enc := enc) (C := Try.checked) false ⟨#[], #[.agg #[.int .i64 0, .int .i64 0, .int .i64 0, .int .i64 0], .int .i64 0], []⟩ 8 (by kernel_rfl) (by kernel_rfl) (by kernel_rfl) (by kernel_rfl)) ?_
  intro W base args ds gs before hval0 hW hcnd _
  have hval : ∀ (j : Nat) t v, Try.f4.params[j]? = some t → args[j]? = some v → Value.okWide Try.prog W .any base t v := hval0
  have hW' := hW
  obtain ⟨p, q, hA0, hV, rfl, hfz, hnd⟩ := hW
  have hA : DataW.TrodAll enc Try.prog W 0 (fun _ => true) true Try.f4.params.toList args.toList ds p := hA0
  rw [Try.params4] at hA hval
  obtain ⟨v0, vs0, d0, ds0, p0, q0, hargs, rfl, rfl, h0, r0⟩ := trodAll_cons hA
  obtain ⟨v1, vs1, d1, ds1, p1, q1, rfl, rfl, rfl, h1, r1⟩ := trodAll_cons r0
  obtain ⟨rfl, rfl, rfl⟩ := trodAll_nil r1
  obtain rfl : args = #[v0, v1] := by cases args; simp_all
  obtain ⟨rfl, rfl⟩ := trodVars_none hV
  have k0 := h0
  have lt0 : ∀ x ∈ p0, x.block < W.heap.size := by obtain ⟨m, hm⟩ := k0; exact DataW.trod_lt m _ _ _ hm
  obtain ⟨c00, c01, c02, c03, y00, y01, y02, y03, n0, rfl, hd0, hp0, t00, t01, t02, t03⟩ := Go.Joins.open_agg4 Try.underlying30 (by kernel_rfl) cells30 (hval 0 30 v0 rfl rfl) h0
  obtain ⟨a00, e00, z00, w00⟩ := DataW.trod_int Try.underlying2 t00
  simp only [List.cons.injEq, and_true] at e00
  subst e00
  obtain ⟨a01, e01, z01, w01⟩ := DataW.trod_int Try.underlying2 t01
  simp only [List.cons.injEq, and_true] at e01
  subst e01
  obtain ⟨a02, e02, z02, w02⟩ := DataW.trod_int Try.underlying2 t02
  simp only [List.cons.injEq, and_true] at e02
  subst e02
  obtain ⟨a03, e03, z03, w03⟩ := DataW.trod_int Try.underlying2 t03
  simp only [List.cons.injEq, and_true] at e03
  subst e03
  have k1 := h1
  have lt1 : ∀ x ∈ p1, x.block < W.heap.size := by obtain ⟨m, hm⟩ := k1; exact DataW.trod_lt m _ _ _ hm
  obtain ⟨a1, rfl, rfl, rfl, w1⟩ := open_int Try.underlying2 (hval 1 2 v1 rfl rfl) h1
  clear hA0 hval0
  refine (walk a00 a01 a02 a03 a1 W w00 w01 w02 w03 w1).mono fun e W' ⟨he, bel⟩ => ?_
  subst he
  exact ⟨_, rfl, _, _, _, [], _, [], hW', trodAll_mk1 (shut_bool Try.underlying4 _), (trodAll_cons_mk (Below.trod laidOut (by kernel_rfl) (of_decide_eq_true (by kernel_rfl)) k0 bel lt0) (trodAll_cons_mk (Below.trod laidOut (by kernel_rfl) (of_decide_eq_true (by kernel_rfl)) k1 bel lt1) trodAll_mk0)), rfl, bel.frame _, fun h => by cases h⟩

theorem over : Rows.fnExactStopPlaceRow.holds Try.pinned (OpenSpec.ofChange Rows.fnExactStopPlaceSpec) :=
  OpenClaim.holds_of_wide 4 Try.f4 rfl rfl rfl rfl rfl rfl rfl ⟨rfl, rfl, rfl, rfl, rfl⟩ rfl rfl rfl rfl rfl (by kernel_rfl) Try.func4 (by kernel_rfl)
    (of_decide_eq_true (by kernel_rfl)) (by unfold Func.isWrapper; first | (rw [if_pos (by decide +kernel)]; kernel_rfl) | (rw [if_neg (by decide +kernel)]; exact ⟨rfl, rfl⟩))
    (fun os started H enc _ => lifted os started H enc)

/-- THE STATEMENT. -/
theorem proved : Rows.FnExactStopPlaceSaid := over
#print axioms proved
end Go.Proofs.Ytdbgcchnaielmaa.lawStopPlace
