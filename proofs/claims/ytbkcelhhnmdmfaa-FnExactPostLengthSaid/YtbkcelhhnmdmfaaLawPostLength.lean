/- The program's PostLength returns what the reference's returns, for all arguments. No condition. -/
import Derived.Test.YtbkcelhhnmdmfaaRows
import Derived.Test.YtbkcelhhnmdmfaaDiv
import Derived.OpenShut
import Derived.ChangeOld
import Derived.Lib.SmallJoins
namespace Go.Proofs.Ytbkcelhhnmdmfaa.lawPostLength
open Go.ChangeShapes Go.WideShapes Go.ChangeAt Go.RowKit
set_option linter.unusedVariables false

def fF (m0 m1 m2 m3 : Int) : Int × Int :=
  if inB m0 100 1000 && inB m1 0 500 && inB m2 0 500 && inB m3 0 100 then (if m0 - m3 + rdiv (m1 * m2) 1000 < 1 then (0, 6) else (m0 - m3 + rdiv (m1 * m2) 1000, 0)) else (0, 2)

theorem i_c (m0 m1 m2 m3 : Int) (w : World) : Calls Try.prog 53 #[.int .i64 m0, .int .i64 m1, .int .i64 m2, .int .i64 m3] w fun e w' => e = .returned (.tuple #[.int .i64 (fF m0 m1 m2 m3).1, .int .i64 (fF m0 m1 m2 m3).2]) ∧ w = w' := by
  rcases and4 (inB m0 100 1000) (inB m1 0 500) (inB m2 0 500) (inB m3 0 100) with h1 | ⟨h1, h2⟩ | ⟨h1, h2, h3⟩ | ⟨h1, h2, h3, h4⟩ | ⟨h1, h2, h3, h4⟩
  iterate 4
    · go_enter Try.func53, Try.ntmps53
      go_wp2_with (go_at_call 57; refine call_same (within_c _ _ _ _) ?_)
      go_ret2
      exact ⟨by simp [fF, *], rfl⟩
  · have b1 := inB_true h1
    have b2 := inB_true h2
    have b3 := inB_true h3
    have b4 := inB_true h4
    have b5 := mul_bd (a := m1) (b := m2) b2.1 b2.2 b3.1 b3.2
    have b6 := rdiv_nonneg (a := m1 * m2) (b := 1000) b5.1 (by omega)
    have b7 := rdiv_le (a := m1 * m2) (b := 1000) (c := 250) (by omega) (by omega) (by omega)
    by_cases hl : m0 - m3 + rdiv (m1 * m2) 1000 < 1
    · have hF : fF m0 m1 m2 m3 = (0, 6) := by simp only [fF, h1, h2, h3, h4, Bool.and_self, if_true, if_pos hl]
      go_enter Try.func53, Try.ntmps53
      go_wp2_with (first | (go_at_call 57; refine call_same (within_c _ _ _ _) ?_) | (go_at_call 63; refine call_same (divRound_c _ _ _ (by omega) (by omega) (by omega) (by omega)) ?_))
      go_ret2
      exact ⟨by rw [hF]; rfl, rfl⟩
    · have hF : fF m0 m1 m2 m3 = (m0 - m3 + rdiv (m1 * m2) 1000, 0) := by simp only [fF, h1, h2, h3, h4, Bool.and_self, if_true, if_neg hl]
      go_enter Try.func53, Try.ntmps53
      go_wp2_with (first | (go_at_call 57; refine call_same (within_c _ _ _ _) ?_) | (go_at_call 63; refine call_same (divRound_c _ _ _ (by omega) (by omega) (by omega) (by omega)) ?_))
      go_ret2
      exact ⟨by rw [hF]; rfl, rfl⟩

theorem s_c (m0 m1 m2 m3 : Int) (w : World) : Calls Try.prog 52 #[.int .i64 m0, .int .i64 m1, .int .i64 m2, .int .i64 m3] w fun e w' => e = .returned (.tuple #[.int .i64 (fF m0 m1 m2 m3).1, .int .i64 (fF m0 m1 m2 m3).2]) ∧ w = w' := by
  rcases and4 (inB m0 100 1000) (inB m1 0 500) (inB m2 0 500) (inB m3 0 100) with h1 | ⟨h1, h2⟩ | ⟨h1, h2, h3⟩ | ⟨h1, h2, h3, h4⟩ | ⟨h1, h2, h3, h4⟩
  iterate 4
    · go_enter Try.func52, Try.ntmps52
      go_wp2_with (go_at_call 58; refine call_same (l00In_c _ _ _ _) ?_)
      go_ret2
      exact ⟨by simp [fF, *], rfl⟩
  · have b1 := inB_true h1
    have b2 := inB_true h2
    have b3 := inB_true h3
    have b4 := inB_true h4
    have b5 := mul_bd (a := m1) (b := m2) b2.1 b2.2 b3.1 b3.2
    have b6 := rdiv_nonneg (a := m1 * m2) (b := 1000) b5.1 (by omega)
    have b7 := rdiv_le (a := m1 * m2) (b := 1000) (c := 250) (by omega) (by omega) (by omega)
    have hc : m0 - m3 + rdiv (m1 * m2) 1000 = m0 + rdiv (m1 * m2) 1000 - m3 := by omega
    by_cases hl : m0 + rdiv (m1 * m2) 1000 - m3 < 1
    · have hF : fF m0 m1 m2 m3 = (0, 6) := by simp only [fF, h1, h2, h3, h4, hc, Bool.and_self, if_true, if_pos hl]
      clear hc
      go_enter Try.func52, Try.ntmps52
      go_wp2_with (first | (go_at_call 58; refine call_same (l00In_c _ _ _ _) ?_) | (go_at_call 62; refine call_same (l01Div_c _ _ _ (by omega) (by omega) (by omega) (by omega)) ?_))
      go_ret2
      exact ⟨by rw [hF]; rfl, rfl⟩
    · have hF : fF m0 m1 m2 m3 = (m0 + rdiv (m1 * m2) 1000 - m3, 0) := by simp only [fF, h1, h2, h3, h4, hc, Bool.and_self, if_true, if_neg hl]
      clear hc
      go_enter Try.func52, Try.ntmps52
      go_wp2_with (first | (go_at_call 58; refine call_same (l00In_c _ _ _ _) ?_) | (go_at_call 62; refine call_same (l01Div_c _ _ _ (by omega) (by omega) (by omega) (by omega)) ?_))
      go_ret2
      exact ⟨by rw [hF]; rfl, rfl⟩

theorem walk (m0 m1 m2 m3 : Int) (w : World) (_ : (Lit.int .i64 m0).wf = true) (_ : (Lit.int .i64 m1).wf = true) (_ : (Lit.int .i64 m2).wf = true) (_ : (Lit.int .i64 m3).wf = true) :
    Calls Try.prog 13 #[.int .i64 m0, .int .i64 m1, .int .i64 m2, .int .i64 m3] w fun e w' => e = .returned (.bool true) ∧ Below w.heap.size w w' := by
  go_enter Try.func13, Try.ntmps13
  go_wp2_with fail
  refine call_same (s_c m0 m1 m2 m3 _) ?_
  go_wp2_with fail
  refine call_same (i_c m0 m1 m2 m3 _) ?_
  go_wp2
  go_ret
  exact ⟨rfl, Below.refl _ _⟩

theorem own : ownKnob Try.prog.godebug = none := by kernel_rfl
theorem laidOut : laidOutB Try.prog = true := by kernel_rfl
set_option maxRecDepth 100000 in
theorem lifted (os : Os) (started : os.Started) (H : Type) (enc : TypeId × Value → H) :
    ReturnsInHanded {} Try.checked os 13 .any (Rows.fnExactPostLengthSpec.pre6 enc Try.prog Try.f13 Rows.fnExactPostLengthRow.domain false) (Rows.fnExactPostLengthSpec.post enc Try.prog Try.f13 false true false false) := by
  refine returnsInHanded_of_change (C := Try.checked) own started (by kernel_rfl) Try.func13
    (ChangeSpec.witness6 (enc := enc) (C := Try.checked) false ⟨#[], #[.int .i64 0, .int .i64 0, .int .i64 0, .int .i64 0], []⟩ 8 (by kernel_rfl) (by kernel_rfl) (by kernel_rfl) (by kernel_rfl)) ?_
  intro W base args ds gs before hval0 hW hcnd _
  have hval : ∀ (j : Nat) t v, Try.f13.params[j]? = some t → args[j]? = some v → Value.okWide Try.prog W .any base t v := hval0
  have hW' := hW
  obtain ⟨p, q, hA0, hV, rfl, hfz, hnd⟩ := hW
  have hA : DataW.TrodAll enc Try.prog W 0 (fun _ => true) true Try.f13.params.toList args.toList ds p := hA0
  rw [Try.params13] at hA hval
  obtain ⟨v0, vs0, d0, ds0, p0, q0, hargs, rfl, rfl, h0, r0⟩ := trodAll_cons hA
  obtain ⟨v1, vs1, d1, ds1, p1, q1, rfl, rfl, rfl, h1, r1⟩ := trodAll_cons r0
  obtain ⟨v2, vs2, d2, ds2, p2, q2, rfl, rfl, rfl, h2, r2⟩ := trodAll_cons r1
  obtain ⟨v3, vs3, d3, ds3, p3, q3, rfl, rfl, rfl, h3, r3⟩ := trodAll_cons r2
  obtain ⟨rfl, rfl, rfl⟩ := trodAll_nil r3
  obtain rfl : args = #[v0, v1, v2, v3] := by cases args; simp_all
  obtain ⟨rfl, rfl⟩ := trodVars_none hV
  have k0 := h0
  have lt0 : ∀ x ∈ p0, x.block < W.heap.size := by obtain ⟨m, hm⟩ := k0; exact DataW.trod_lt m _ _ _ hm
  obtain ⟨a0, rfl, rfl, rfl, w0⟩ := open_int Try.underlying2 (hval 0 2 v0 rfl rfl) h0
  have k1 := h1
  have lt1 : ∀ x ∈ p1, x.block < W.heap.size := by obtain ⟨m, hm⟩ := k1; exact DataW.trod_lt m _ _ _ hm
  obtain ⟨a1, rfl, rfl, rfl, w1⟩ := open_int Try.underlying2 (hval 1 2 v1 rfl rfl) h1
  have k2 := h2
  have lt2 : ∀ x ∈ p2, x.block < W.heap.size := by obtain ⟨m, hm⟩ := k2; exact DataW.trod_lt m _ _ _ hm
  obtain ⟨a2, rfl, rfl, rfl, w2⟩ := open_int Try.underlying2 (hval 2 2 v2 rfl rfl) h2
  have k3 := h3
  have lt3 : ∀ x ∈ p3, x.block < W.heap.size := by obtain ⟨m, hm⟩ := k3; exact DataW.trod_lt m _ _ _ hm
  obtain ⟨a3, rfl, rfl, rfl, w3⟩ := open_int Try.underlying2 (hval 3 2 v3 rfl rfl) h3
  clear hA0 hval0
  refine (walk a0 a1 a2 a3 W w0 w1 w2 w3).mono fun e W' ⟨he, bel⟩ => ?_
  subst he
  exact ⟨_, rfl, _, _, _, [], _, [], hW', trodAll_mk1 (shut_bool Try.underlying4 _), (trodAll_cons_mk (Below.trod laidOut (by kernel_rfl) (of_decide_eq_true (by kernel_rfl)) k0 bel lt0) (trodAll_cons_mk (Below.trod laidOut (by kernel_rfl) (of_decide_eq_true (by kernel_rfl)) k1 bel lt1) (trodAll_cons_mk (Below.trod laidOut (by kernel_rfl) (of_decide_eq_true (by kernel_rfl)) k2 bel lt2) (trodAll_cons_mk (Below.trod laidOut (by kernel_rfl) (of_decide_eq_true (by kernel_rfl)) k3 bel lt3) trodAll_mk0)))), rfl, bel.frame _, fun h => by cases h⟩

theorem over : Rows.fnExactPostLengthRow.holds Try.pinned (OpenSpec.ofChange Rows.fnExactPostLengthSpec) :=
  OpenClaim.holds_of_wide 13 Try.f13 rfl rfl rfl rfl rfl rfl rfl ⟨rfl, rfl, rfl, rfl, rfl⟩ rfl rfl rfl rfl rfl (by kernel_rfl) Try.func13 (by kernel_rfl)
    (of_decide_eq_true (by kernel_rfl)) (by unfold Func.isWrapper; first | (rw [if_pos (by decide +kernel)]; kernel_rfl) | (rw [if_neg (by decide +kernel)]; exact ⟨rfl, rfl⟩))
    (fun os started H enc _ => lifted os started H enc)

/-- THE STATEMENT. -/
theorem proved : Rows.FnExactPostLengthSaid := over
#print axioms proved
end Go.Proofs.Ytbkcelhhnmdmfaa.lawPostLength
