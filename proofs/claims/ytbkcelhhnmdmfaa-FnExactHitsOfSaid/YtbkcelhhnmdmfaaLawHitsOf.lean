/- The program's HitsOf returns what the reference's returns, for all arguments. No condition. -/
import Derived.Test.YtbkcelhhnmdmfaaRows
import Derived.Test.YtbkcelhhnmdmfaaDiv
import Derived.OpenShut
import Derived.ChangeOld
import Derived.Lib.SmallJoins
namespace Go.Proofs.Ytbkcelhhnmdmfaa.lawHitsOf
open Go.ChangeShapes Go.WideShapes Go.ChangeAt Go.RowKit
set_option linter.unusedVariables false

def fF (m0 m1 : Int) : Int × Int := if inB m1 0 1000000 && inB m0 0 m1 then (rdiv (1000 * (m0 + 1)) (m1 + 2), 0) else (0, 2)
theorem i_c (m0 m1 : Int) (w : World) : Calls Try.prog 45 #[.int .i64 m0, .int .i64 m1] w fun e w' => e = .returned (.tuple #[.int .i64 (fF m0 m1).1, .int .i64 (fF m0 m1).2]) ∧ w = w' := by
  rcases and2 (inB m1 0 1000000) (inB m0 0 m1) with h1 | ⟨h1, h2⟩ | ⟨h1, h2⟩
  · go_enter Try.func45, Try.ntmps45
    go_wp2_with (go_at_call 57; refine call_same (within_c _ _ _ _) ?_)
    go_ret2
    exact ⟨by simp [fF, h1], rfl⟩
  · go_enter Try.func45, Try.ntmps45
    go_wp2_with (go_at_call 57; refine call_same (within_c _ _ _ _) ?_)
    go_ret2
    exact ⟨by simp [fF, h1, h2], rfl⟩
  · have b1 := inB_true h1
    have b2 := inB_true h2
    go_enter Try.func45, Try.ntmps45
    go_wp2_with (first | (go_at_call 57; refine call_same (within_c _ _ _ _) ?_) | (go_at_call 63; refine call_same (divRound_c _ _ _ (by omega) (by omega) (by omega) (by omega)) ?_))
    go_ret2
    exact ⟨by simp [fF, h1, h2], rfl⟩
theorem s_c (m0 m1 : Int) (w : World) : Calls Try.prog 44 #[.int .i64 m0, .int .i64 m1] w fun e w' => e = .returned (.tuple #[.int .i64 (fF m0 m1).1, .int .i64 (fF m0 m1).2]) ∧ w = w' := by
  rcases and2 (inB m1 0 1000000) (inB m0 0 m1) with h1 | ⟨h1, h2⟩ | ⟨h1, h2⟩
  · go_enter Try.func44, Try.ntmps44
    go_wp2_with (first | (go_at_call 58; refine call_same (l00In_c _ _ _ _) ?_))
    go_ret2
    exact ⟨by simp [fF, h1], rfl⟩
  · go_enter Try.func44, Try.ntmps44
    go_wp2_with (first | (go_at_call 58; refine call_same (l00In_c _ _ _ _) ?_))
    go_ret2
    exact ⟨by simp [fF, h1, h2], rfl⟩
  · have b1 := inB_true h1
    have b2 := inB_true h2
    go_enter Try.func44, Try.ntmps44
    go_wp2_with (first | (go_at_call 58; refine call_same (l00In_c _ _ _ _) ?_) | (go_at_call 62; refine call_same (l01Div_c _ _ _ (by omega) (by omega) (by omega) (by omega)) ?_))
    go_ret2
    exact ⟨by simp [fF, h1, h2], rfl⟩
theorem walk (m0 m1 : Int) (w : World) (_ : (Lit.int .i64 m0).wf = true) (_ : (Lit.int .i64 m1).wf = true) :
    Calls Try.prog 10 #[.int .i64 m0, .int .i64 m1] w fun e w' => e = .returned (.bool true) ∧ Below w.heap.size w w' := by
  go_enter Try.func10, Try.ntmps10
  go_wp2_with fail
  refine call_same (s_c m0 m1 _) ?_
  go_wp2_with fail
  refine call_same (i_c m0 m1 _) ?_
  go_wp2
  go_ret
  exact ⟨rfl, Below.refl _ _⟩
theorem own : ownKnob Try.prog.godebug = none := by kernel_rfl
theorem laidOut : laidOutB Try.prog = true := by kernel_rfl
set_option maxRecDepth 100000 in
theorem lifted (os : Os) (started : os.Started) (H : Type) (enc : TypeId × Value → H) :
    ReturnsInHanded {} Try.checked os 10 .any (Rows.fnExactHitsOfSpec.pre6 enc Try.prog Try.f10 Rows.fnExactHitsOfRow.domain false) (Rows.fnExactHitsOfSpec.post enc Try.prog Try.f10 false true false false) := by
  refine returnsInHanded_of_change (C := Try.checked) own started (by kernel_rfl) Try.func10
    (ChangeSpec.witness6 (enc := enc) (C := Try.checked) false ⟨#[], #[.int .i64 0, .int .i64 0], []⟩ 8 (by kernel_rfl) (by kernel_rfl) (by kernel_rfl) (by kernel_rfl)) ?_
  intro W base args ds gs before hval0 hW hcnd _
  have hval : ∀ (j : Nat) t v, Try.f10.params[j]? = some t → args[j]? = some v → Value.okWide Try.prog W .any base t v := hval0
  have hW' := hW
  obtain ⟨p, q, hA0, hV, rfl, hfz, hnd⟩ := hW
  have hA : DataW.TrodAll enc Try.prog W 0 (fun _ => true) true Try.f10.params.toList args.toList ds p := hA0
  rw [Try.params10] at hA hval
  obtain ⟨v0, vs0, d0, ds0, p0, q0, hargs, rfl, rfl, h0, r0⟩ := trodAll_cons hA
  obtain ⟨v1, vs1, d1, ds1, p1, q1, rfl, rfl, rfl, h1, r1⟩ := trodAll_cons r0
  obtain ⟨rfl, rfl, rfl⟩ := trodAll_nil r1
  obtain rfl : args = #[v0, v1] := by cases args; simp_all
  obtain ⟨rfl, rfl⟩ := trodVars_none hV
  have k0 := h0
  have lt0 : ∀ x ∈ p0, x.block < W.heap.size := by obtain ⟨m, hm⟩ := k0; exact DataW.trod_lt m _ _ _ hm
  obtain ⟨a0, rfl, rfl, rfl, w0⟩ := open_int Try.underlying2 (hval 0 2 v0 rfl rfl) h0
  have k1 := h1
  have lt1 : ∀ x ∈ p1, x.block < W.heap.size := by obtain ⟨m, hm⟩ := k1; exact DataW.trod_lt m _ _ _ hm
  obtain ⟨a1, rfl, rfl, rfl, w1⟩ := open_int Try.underlying2 (hval 1 2 v1 rfl rfl) h1
  clear hA0 hval0
  refine (walk a0 a1 W w0 w1).mono fun e W' ⟨he, bel⟩ => ?_
  subst he
  exact ⟨_, rfl, _, _, _, [], _, [], hW', trodAll_mk1 (shut_bool Try.underlying4 _), (trodAll_cons_mk (Below.trod laidOut (by kernel_rfl) (of_decide_eq_true (by kernel_rfl)) k0 bel lt0) (trodAll_cons_mk (Below.trod laidOut (by kernel_rfl) (of_decide_eq_true (by kernel_rfl)) k1 bel lt1) trodAll_mk0)), rfl, bel.frame _, fun h => by cases h⟩

theorem over : Rows.fnExactHitsOfRow.holds Try.pinned (OpenSpec.ofChange Rows.fnExactHitsOfSpec) :=
  OpenClaim.holds_of_wide 10 Try.f10 rfl rfl rfl rfl rfl rfl rfl ⟨rfl, rfl, rfl, rfl, rfl⟩ rfl rfl rfl rfl rfl (by kernel_rfl) Try.func10 (by kernel_rfl)
    (of_decide_eq_true (by kernel_rfl)) (by unfold Func.isWrapper; first | (rw [if_pos (by decide +kernel)]; kernel_rfl) | (rw [if_neg (by decide +kernel)]; exact ⟨rfl, rfl⟩))
    (fun os started H enc _ => lifted os started H enc)

/-- THE STATEMENT. -/
theorem proved : Rows.FnExactHitsOfSaid := over
#print axioms proved
end Go.Proofs.Ytbkcelhhnmdmfaa.lawHitsOf
