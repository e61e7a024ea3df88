/- The program's SafetyOf returns what the reference's returns, for all arguments. No condition. -/
import Derived.Test.YtdbgcchnaielmaaRows
import Derived.Test.YtdbgcchnaielmaaCord2
import Derived.OpenShut
import Derived.ChangeOld
import Derived.Lib.SmallJoins
namespace Go.Proofs.Ytdbgcchnaielmaa.lawSafetyOf
open Go.ChangeShapes Go.WideShapes Go.ChangeAt Go.RowKit
set_option linter.unusedVariables false

def fF (p q r s : Int) : Int × Int := if cordB p q r s then (if tenF p q r = 0 then (0, 3) else (1000 * s / tenF p q r, 0)) else (0, 1)

theorem i_c (p q r s : Int) (w : World) : Calls Try.prog 26 #[.agg #[.int .i64 p, .int .i64 q, .int .i64 r, .int .i64 s]] w fun e w' => e = .returned (.tuple #[.int .i64 (fF p q r s).1, .int .i64 (fF p q r s).2]) ∧ Below w.heap.size w w' := by
  cases h : cordB p q r s
  · go_enter Try.func26, Try.ntmps26
    go_wp2_with fail
    refine call_below (validString_c _ _ _ _ _) ?_
    intro w1 hb1
    go_wp2
    go_ret2
    exact ⟨by simp [fF, h], below_from hb1⟩
  · have hn := cordB_true h
    have hT := tenF_bd (CordIn.of h)
    by_cases ht : tenF p q r = 0
    · have HF := Lib.hid (show fF p q r s = (0, 3) by simp only [fF, h, if_true, if_pos ht])
      have ht' : (tenF p q r == 0) = true := by simpa using ht
      clear ht
      go_enter Try.func26, Try.ntmps26
      go_wp2_with fail
      refine call_below (validString_c _ _ _ _ _) ?_
      intro w1 hb1
      have c1 := box_cell hb1
      go_wp2_with fail
      refine call_below (tension_c p q r s _ (CordIn.of h)) ?_
      intro w2 hb2
      go_wp2
      go_ret2
      exact ⟨by rw [HF.out]; rfl, below_from (below_next hb1 hb2)⟩
    · have HF := Lib.hid (show fF p q r s = (1000 * s / tenF p q r, 0) by simp only [fF, h, if_true, if_neg ht])
      have ht' : (tenF p q r == 0) = false := by simpa using ht
      have ht1 : 0 < tenF p q r := by omega
      have q1 := Int.ediv_le_self (a := 1000 * s) (tenF p q r) (by omega)
      have q2 := Int.ediv_nonneg (show 0 ≤ 1000 * s by omega) (show 0 ≤ tenF p q r by omega)
      have i1 := IntWalk.i64_in (1000 * s) (by omega)
      have i2 : IntKind.i64.wrap ((1000 * s).tdiv (tenF p q r)) = 1000 * s / tenF p q r := by
        rw [Int.tdiv_eq_ediv_of_nonneg (by omega)]
        exact IntWalk.i64_in (1000 * s / tenF p q r) (by omega)
      have ht2 : ¬ tenF p q r = 0 := by omega
      clear ht
      go_enter Try.func26, Try.ntmps26
      go_wp2_with fail
      refine call_below (validString_c _ _ _ _ _) ?_
      intro w1 hb1
      have c1 := box_cell hb1
      go_wp2_with fail
      refine call_below (tension_c p q r s _ (CordIn.of h)) ?_
      intro w2 hb2
      have hb2' := below_next hb1 hb2
      have D := box_four hb2'
      obtain ⟨d0, d1, d2, d3⟩ := D
      have HB := Lib.hid hb2'
      have HD := Lib.hid (show Four w.heap.size _ _ _ _ w2 from ⟨d0, d1, d2, d3⟩)
      clear hb1 hb2 hb2' c1
      go_wp2_with fail
      go_region_held3 (fun w' => w'.cell? ⟨w.heap.size, 0, none⟩ = some (.int .i64 p) ∧ w'.cell? ⟨w.heap.size, 1, none⟩ = some (.int .i64 q) ∧ w'.cell? ⟨w.heap.size, 2, none⟩ = some (.int .i64 r) ∧ w'.cell? ⟨w.heap.size, 3, none⟩ = some (.int .i64 s) ∧ Below w2.heap.size w2 w') (first | exact keep4 HD.out (Below.refl _ _).drew | exact keep4 HD.out (below_next (Below.refl _ _).drew hb3) | go_keep)
        (first | (go_at_call 54; refine call_below (tension_c p q r s _ (CordIn.of h)) ?_; intro w3 hb3))
      go_wp2
      go_ret2
      exact ⟨by rw [HF.out]; rfl, below_from (below_next HB.out (below_next (Below.refl _ _).drew hb3))⟩

theorem s_c (p q r s : Int) (w : World) : Calls Try.prog 25 #[.agg #[.int .i64 p, .int .i64 q, .int .i64 r, .int .i64 s]] w fun e w' => e = .returned (.tuple #[.int .i64 (fF p q r s).1, .int .i64 (fF p q r s).2]) ∧ Below w.heap.size w w' := by
  cases h : cordB p q r s
  · go_enter Try.func25, Try.ntmps25
    go_wp2_with fail
    refine call_same (l09One_c _ _ p q r s _ ?_ ?_ ?_ ?_) ?_
    iterate 4 (· go_cell)
    go_wp2
    go_ret2
    exact ⟨by simp [fF, h], by go_grown⟩
  · have hn := cordB_true h
    have hT := tenF_bd (CordIn.of h)
    by_cases ht : tenF p q r = 0
    · have HF := Lib.hid (show fF p q r s = (0, 3) by simp only [fF, h, if_true, if_pos ht])
      have ht' : (tenF p q r == 0) = true := by simpa using ht
      clear ht
      go_enter Try.func25, Try.ntmps25
      go_wp2_with fail
      refine call_same (l09One_c _ _ p q r s _ ?_ ?_ ?_ ?_) ?_
      iterate 4 (· go_cell)
      go_wp2_with fail
      refine call_below (l09Tension_c _ _ p q r _ ?_ ?_ ?_ (CordIn.of h)) ?_
      iterate 3 (· go_cell)
      intro w1 hb1
      go_wp2
      go_ret2
      exact ⟨by rw [HF.out]; rfl, below_from hb1⟩
    · have HF := Lib.hid (show fF p q r s = (1000 * s / tenF p q r, 0) by simp only [fF, h, if_true, if_neg ht])
      have ht' : (tenF p q r == 0) = false := by simpa using ht
      have ht1 : 0 < tenF p q r := by omega
      have q1 := Int.ediv_le_self (a := 1000 * s) (tenF p q r) (by omega)
      have q2 := Int.ediv_nonneg (show 0 ≤ 1000 * s by omega) (show 0 ≤ tenF p q r by omega)
      clear ht
      go_enter Try.func25, Try.ntmps25
      go_wp2_with fail
      refine call_same (l09One_c _ _ p q r s _ ?_ ?_ ?_ ?_) ?_
      iterate 4 (· go_cell)
      go_wp2_with fail
      refine call_below (l09Tension_c _ _ p q r _ ?_ ?_ ?_ (CordIn.of h)) ?_
      iterate 3 (· go_cell)
      intro w1 hb1
      have c1 := box_cell hb1
      go_wp2
      go_ret2
      exact ⟨by rw [HF.out]; rfl, below_from hb1⟩

theorem walk (p q r s : Int) (w : World) (_ : (Lit.int .i64 p).wf = true) (_ : (Lit.int .i64 q).wf = true) (_ : (Lit.int .i64 r).wf = true) (_ : (Lit.int .i64 s).wf = true) :
    Calls Try.prog 7 #[.agg #[.int .i64 p, .int .i64 q, .int .i64 r, .int .i64 s]] w fun e w' => e = .returned (.bool true) ∧ Below w.heap.size w w' := by
  go_enter Try.func7, Try.ntmps7
  go_wp2_with fail
  refine call_below (toCord_c _ _ _ _ _) ?_
  intro w1 hb1
  have c1 := box_cell hb1
  go_wp2_with fail
  refine call_below (s_c p q r s _) ?_
  intro w2 hb2
  have H2 := below_next hb1 hb2
  clear c1 hb1 hb2
  have c2 := box_cell H2
  go_wp2_with fail
  refine call_below (toCord_c _ _ _ _ _) ?_
  intro w3 hb3
  have H3 := below_next H2 hb3
  clear c2 H2 hb3
  go_wp2_with fail
  refine call_below (i_c p q r s _) ?_
  intro w4 hb4
  have H4 := below_next H3 hb4
  clear H3 hb4
  go_wp2
  go_ret
  exact ⟨rfl, below_from H4⟩

theorem own : ownKnob Try.prog.godebug = none := by kernel_rfl
theorem laidOut : laidOutB Try.prog = true := by kernel_rfl
theorem cells30 : Try.prog.cellsOf 30 = 4 := by kernel_rfl
set_option maxRecDepth 100000 in
theorem lifted (os : Os) (started : os.Started) (H : Type) (enc : TypeId × Value → H) :
    ReturnsInHanded {} Try.checked os 7 .any (Rows.fnExactSafetyOfSpec.pre6 enc Try.prog Try.f7 Rows.fnExactSafetyOfRow.domain false) (Rows.fnExactSafetyOfSpec.post enc Try.prog Try.f7 false true false false) := by
  refine returnsInHanded_of_change (C := Try.checked) own started (by kernel_rfl) Try.func7
    (ChangeSpec.witness6 (enc := enc) (C := Try.checked) false ⟨#[], #[.agg #[.int .i64 0, .int .i64 0, .int .i64 0, .int .i64 0]], []⟩ 8 (by kernel_rfl) (by kernel_rfl) (by kernel_rfl) (by kernel_rfl)) ?_
  intro W base args ds gs before hval0 hW hcnd _
  have hval : ∀ (j : Nat) t v, Try.f7.params[j]? = some t → args[j]? = some v → Value.okWide Try.prog W .any base t v := hval0
  have hW' := hW
  obtain ⟨p, q, hA0, hV, rfl, hfz, hnd⟩ := hW
  have hA : DataW.TrodAll enc Try.prog W 0 (fun _ => true) true Try.f7.params.toList args.toList ds p := hA0
  rw [Try.params7] at hA hval
  obtain ⟨v0, vs0, d0, ds0, p0, q0, hargs, rfl, rfl, h0, r0⟩ := trodAll_cons hA
  obtain ⟨rfl, rfl, rfl⟩ := trodAll_nil r0
  obtain rfl : args = #[v0] := by cases args; simp_all
  obtain ⟨rfl, rfl⟩ := trodVars_none hV
  have k0 := h0
  have lt0 : ∀ x ∈ p0, x.block < W.heap.size := by obtain ⟨m, hm⟩ := k0; exact DataW.trod_lt m _ _ _ hm
  obtain ⟨c00, c01, c02, c03, y00, y01, y02, y03, n0, rfl, hd0, hp0, t00, t01, t02, t03⟩ := Go.Joins.open_agg4 Try.underlying30 (by kernel_rfl) cells30 (hval 0 30 v0 rfl rfl) h0
  obtain ⟨a00, e00, z00, w00⟩ := DataW.trod_int Try.underlying2 t00
  simp only [List.cons.injEq, and_true] at e00
  subst e00
  obtain ⟨a01, e01, z01, w01⟩ := DataW.trod_int Try.underlying2 t01
  simp only [List.cons.injEq, and_true] at e01
  subst e01
  obtain ⟨a02, e02, z02, w02⟩ := DataW.trod_int Try.underlying2 t02
  simp only [List.cons.injEq, and_true] at e02
  subst e02
  obtain ⟨a03, e03, z03, w03⟩ := DataW.trod_int Try.underlying2 t03
  simp only [List.cons.injEq, and_true] at e03
  subst e03
  clear hA0 hval0
  refine (walk a00 a01 a02 a03 W w00 w01 w02 w03).mono fun e W' ⟨he, bel⟩ => ?_
  subst he
  exact ⟨_, rfl, _, _, _, [], _, [], hW', trodAll_mk1 (shut_bool Try.underlying4 _), (trodAll_cons_mk (Below.trod laidOut (by kernel_rfl) (of_decide_eq_true (by kernel_rfl)) k0 bel lt0) trodAll_mk0), rfl, bel.frame _, fun h => by cases h⟩

theorem over : Rows.fnExactSafetyOfRow.holds Try.pinned (OpenSpec.ofChange Rows.fnExactSafetyOfSpec) :=
  OpenClaim.holds_of_wide 7 Try.f7 rfl rfl rfl rfl rfl rfl rfl ⟨rfl, rfl, rfl, rfl, rfl⟩ rfl rfl rfl rfl rfl (by kernel_rfl) Try.func7 (by kernel_rfl)
    (of_decide_eq_true (by kernel_rfl)) (by unfold Func.isWrapper; first | (rw [if_pos (by decide +kernel)]; kernel_rfl) | (rw [if_neg (by decide +kernel)]; exact ⟨rfl, rfl⟩))
    (fun os started H enc _ => lifted os started H enc)

/-- THE STATEMENT. -/
theorem proved : Rows.FnExactSafetyOfSaid := over
#print axioms proved
end Go.Proofs.Ytdbgcchnaielmaa.lawSafetyOf
