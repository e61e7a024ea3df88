/- The program's ShimFor returns what the reference's returns, for all arguments. No condition. -/
import Derived.Test.YtdbgcchnaielmaaRows
import Derived.Test.YtdbgcchnaielmaaNeck2
import Derived.OpenShut
import Derived.ChangeOld
import Derived.Lib.SmallJoins
namespace Go.Proofs.Ytdbgcchnaielmaa.lawShimFor
open Go.ChangeShapes Go.WideShapes Go.ChangeAt Go.RowKit
set_option linter.unusedVariables false

/-- Whether the shim k suffices. -/
def shimP (q r s m0 m1 : Int) (k : Nat) : Bool := decide (m0 ≤ projF q r (s + rdiv (1000 * k) m1))
def fF (p q r s m0 m1 : Int) : Int × Int := if neckB p q r s then (if inB m0 0 2000 && inB m1 1 1000 then (match firstUpTo (shimP q r s m0 m1) 201 with | some k => ((k : Int), 0) | none => (0, 3)) else (0, 2)) else (0, 1)
theorem fF_some {p q r s m0 m1 : Int} {k : Nat} (h : neckB p q r s = true) (hm : inB m0 0 2000 = true) (hm' : inB m1 1 1000 = true) (hk : k < 201) (hp : shimP q r s m0 m1 k = true) (hn : NoneTo (shimP q r s m0 m1) k) : fF p q r s m0 m1 = ((k : Int), 0) := by
  simp only [fF, h, hm, hm', Bool.and_self, if_true, first_some hk hp hn]
theorem fF_none {p q r s m0 m1 : Int} (h : neckB p q r s = true) (hm : inB m0 0 2000 = true) (hm' : inB m1 1 1000 = true) (hn : NoneTo (shimP q r s m0 m1) 201) : fF p q r s m0 m1 = (0, 3) := by
  simp only [fF, h, hm, hm', Bool.and_self, if_true, first_none hn]
theorem turn_bd {s m1 : Int} {k : Nat} (hs : 0 ≤ s ∧ s ≤ 300) (h1 : 1 ≤ m1) (hk : k ≤ 200) : 0 ≤ rdiv (1000 * k) m1 ∧ rdiv (1000 * k) m1 ≤ 200000 ∧ 0 ≤ s + rdiv (1000 * k) m1 ∧ s + rdiv (1000 * k) m1 ≤ 1000000 := by
  have h2 := rdiv_nonneg (a := 1000 * (k : Int)) (b := m1) (by omega) (by omega)
  have h4 : (1 : Int) * 200000 ≤ m1 * 200000 := Int.mul_le_mul_of_nonneg_right h1 (by omega)
  have h3 := rdiv_le (a := 1000 * (k : Int)) (b := m1) (c := 200000) (by omega) (by omega) (by omega)
  omega

theorem i_c (p q r s m0 m1 : Int) (w : World) : Calls Try.prog 40 #[.agg #[.int .i64 p, .int .i64 q, .int .i64 r, .int .i64 s], .int .i64 m0, .int .i64 m1] w fun e w' => e = .returned (.tuple #[.int .i64 (fF p q r s m0 m1).1, .int .i64 (fF p q r s m0 m1).2]) ∧ Below w.heap.size w w' := by
  cases h : neckB p q r s
  · go_enter Try.func40, Try.ntmps40
    go_wp2_with fail
    refine call_below (validNeck_c _ _ _ _ _) ?_
    intro w1 hb1
    go_wp2
    go_ret2
    exact ⟨by simp [fF, h], below_from hb1⟩
  · rcases and2 (inB m0 0 2000) (inB m1 1 1000) with hm | ⟨hm, hm'⟩ | ⟨hm, hm'⟩
    iterate 2
      · go_enter Try.func40, Try.ntmps40
        go_wp2_with fail
        refine call_below (validNeck_c _ _ _ _ _) ?_
        intro w1 hb1
        go_wp2_with (first | (go_at_call 56; refine call_same (isHeight_c _ _) ?_) | (go_at_call 51; refine call_same (within_c _ _ _ _) ?_))
        go_ret2
        exact ⟨by simp [fF, *], below_from hb1⟩
    · have hn := neckB_true h
      have hm1 := inB_true hm
      have hm2 := inB_true hm'
      go_enter Try.func40, Try.ntmps40
      go_wp2_with fail
      refine call_below (validNeck_c _ _ _ _ _) ?_
      intro w1 hb1
      have D := box_four hb1
      obtain ⟨d0, d1, d2, d3⟩ := D
      have hf3 : w1.frozen? ⟨w.heap.size, 3, none⟩ = false := by rw [hb1.frozen (p := ⟨w.heap.size, 3, none⟩) (by simp)]; go_cell
      have HB := Lib.hid hb1
      have HD := Lib.hid (show Four w.heap.size _ _ _ _ w1 from ⟨d0, d1, d2, d3⟩)
      clear hb1
      go_wp2_with (first | (go_at_call 56; refine call_same (isHeight_c _ _) ?_) | (go_at_call 51; refine call_same (within_c _ _ _ _) ?_))
      go_loopg [9] 201 (fun g i wr => ∃ k : Nat, ∃ y : Int, k ≤ 201 ∧ g = 201 - k ∧ i = .int .i64 k ∧ Four w.heap.size (.int .i64 p) (.int .i64 q) (.int .i64 r) (.int .i64 y) wr ∧ wr.frozen? ⟨w.heap.size, 3, none⟩ = false ∧ Below w.heap.size w wr ∧ NoneTo (shimP q r s m0 m1) k)
      case atStart => exact ⟨0, s, by omega, by omega, rfl, HD.out, hf3, below_from HB.out, NoneTo.zero _⟩
      case round =>
        obtain ⟨k, y, hk, rfl, rfl, hD, hf, hbl, hno⟩ := hrel
        clear d0 d1 d2 d3 hf3 HB HD
        have HD := Lib.hid hD
        have HN := Lib.hid hno
        obtain ⟨d0, d1, d2, d3⟩ := hD
        clear hno
        by_cases hlt : k ≤ 200
        · obtain ⟨t1, t2, t3, t4⟩ := turn_bd (s := s) (m1 := m1) (k := k) (by omega) (by omega) hlt
          have HD2 := Lib.hid (HD.out.set3 (.int .i64 (s + rdiv (1000 * k) m1)))
          cases hv : shimP q r s m0 m1 k
          · have ht : ¬ m0 ≤ projF q r (s + rdiv (1000 * k) m1) := of_decide_eq_false hv
            go_wp2_with (go_at_call 52; refine call_same (divRound_c _ _ _ (by omega) (by omega) (by omega) (by omega)) ?_)
            refine call_below (projection_c p q r _ _ (by omega) (by omega) ⟨t3, t4⟩) ?_
            intro w2 hb2
            have f3 : w2.frozen? ⟨w.heap.size, 3, none⟩ = false := (hb2.frozen (p := ⟨w.heap.size, 3, none⟩) HD2.out.lt).trans (by simpa using hf)
            go_wp2
            go_roundg (201 - (k + 1))
            case measure => omega
            case rel => exact ⟨k + 1, _, by omega, rfl, by go_num, HD2.out.keep hb2, f3, below_next (hbl.setCell (Nat.le_refl _) _) hb2, HN.out.step hv⟩
          · have ht : m0 ≤ projF q r (s + rdiv (1000 * k) m1) := of_decide_eq_true hv
            have HF := Lib.hid (fF_some h hm hm' (by omega) hv HN.out)
            go_wp2_with (go_at_call 52; refine call_same (divRound_c _ _ _ (by omega) (by omega) (by omega) (by omega)) ?_)
            refine call_below (projection_c p q r _ _ (by omega) (by omega) ⟨t3, t4⟩) ?_
            intro w2 hb2
            go_wp2
            go_ret2
            exact ⟨by rw [HF.out]; rfl, below_next (hbl.setCell (Nat.le_refl _) _) hb2⟩
        · obtain rfl : k = 201 := by omega
          have HF := Lib.hid (fF_none h hm hm' HN.out)
          go_wp2
          go_ret2
          exact ⟨by rw [HF.out]; rfl, hbl⟩

theorem s_c (p q r s m0 m1 : Int) (w : World) : Calls Try.prog 39 #[.agg #[.int .i64 p, .int .i64 q, .int .i64 r, .int .i64 s], .int .i64 m0, .int .i64 m1] w fun e w' => e = .returned (.tuple #[.int .i64 (fF p q r s m0 m1).1, .int .i64 (fF p q r s m0 m1).2]) ∧ Below w.heap.size w w' := by
  cases h : neckB p q r s
  · go_enter Try.func39, Try.ntmps39
    go_wp2_with fail
    refine call_same (l10Ok_c _ _ p q r s _ ?_ ?_ ?_ ?_) ?_
    iterate 4 (· go_cell)
    go_wp2
    go_ret2
    exact ⟨by simp [fF, h], by go_grown⟩
  · rcases and2 (inB m0 0 2000) (inB m1 1 1000) with hm | ⟨hm, hm'⟩ | ⟨hm, hm'⟩
    iterate 2
      · go_enter Try.func39, Try.ntmps39
        go_wp2_with fail
        refine call_same (l10Ok_c _ _ p q r s _ ?_ ?_ ?_ ?_) ?_
        iterate 4 (· go_cell)
        go_wp2_with (first | (go_at_call 55; refine call_same (l10Height_c _ _) ?_) | (go_at_call 48; refine call_same (l00In_c _ _ _ _) ?_))
        go_ret2
        exact ⟨by simp [fF, *], by go_grown⟩
    · have hn := neckB_true h
      have hm1 := inB_true hm
      have hm2 := inB_true hm'
      go_enter Try.func39, Try.ntmps39
      go_wp2_with fail
      refine call_same (l10Ok_c _ _ p q r s _ ?_ ?_ ?_ ?_) ?_
      iterate 4 (· go_cell)
      go_wp2_with (first | (go_at_call 55; refine call_same (l10Height_c _ _) ?_) | (go_at_call 48; refine call_same (l00In_c _ _ _ _) ?_))
      have HD := Lib.hid (box_four (w := w) (t := 26) (v0 := .int .i64 p) (v1 := .int .i64 q) (v2 := .int .i64 r) (v3 := .int .i64 s) (Below.refl _ _))
      go_loopg [8] 201 (fun g i wr => ∃ k : Nat, k ≤ 201 ∧ g = 201 - k ∧ i = .int .i64 k ∧ Four w.heap.size (.int .i64 p) (.int .i64 q) (.int .i64 r) (.int .i64 s) wr ∧ Below w.heap.size w wr ∧ NoneTo (shimP q r s m0 m1) k)
      case atStart => exact ⟨0, by omega, by omega, rfl, HD.out, by go_grown, NoneTo.zero _⟩
      case round =>
        obtain ⟨k, hk, rfl, rfl, hD, hbl, hno⟩ := hrel
        clear HD
        have HD := Lib.hid hD
        have HN := Lib.hid hno
        obtain ⟨d0, d1, d2, d3⟩ := hD
        clear hno
        by_cases hlt : k ≤ 200
        · obtain ⟨t1, t2, t3, t4⟩ := turn_bd (s := s) (m1 := m1) (k := k) (by omega) (by omega) hlt
          have i1 := IntWalk.i64_in (1000 * (k : Int)) (by omega)
          have i2 := IntWalk.i64_in (s + rdiv (1000 * k) m1) (by omega)
          cases hv : shimP q r s m0 m1 k
          · have ht : ¬ m0 ≤ projF q r (s + rdiv (1000 * k) m1) := of_decide_eq_false hv
            have ht' : decide (m0 ≤ projF q r (s + rdiv (1000 * k) m1)) = false := hv
            go_wp2_with fail
            go_region_held3 (fun w' => w'.cell? ⟨w.heap.size, 0, none⟩ = some (.int .i64 p) ∧ w'.cell? ⟨w.heap.size, 1, none⟩ = some (.int .i64 q) ∧ w'.cell? ⟨w.heap.size, 2, none⟩ = some (.int .i64 r) ∧ w'.cell? ⟨w.heap.size, 3, none⟩ = some (.int .i64 s) ∧ Below wr.heap.size wr w') (first | exact keep4 HD.out (Below.refl _ _).drew | exact keep4 HD.out (below_next (Below.refl _ _).drew hb2) | go_keep)
              (first | (go_at_call 44; refine call_below (l10High_c _ _ q r _ _ ?_ ?_ (by omega) (by omega) ⟨t3, t4⟩) ?_; (simp [*]); (simp [*]); intro w2 hb2) | (go_at_call 49; refine call_same (l01Div_c _ _ _ (by omega) (by omega) (by omega) (by omega)) ?_))
            go_wp2
            go_roundg (201 - (k + 1))
            case measure => omega
            case rel => exact ⟨k + 1, by omega, rfl, by go_num, HD.out.keep (below_next (Below.refl _ _).drew hb2), below_next hbl (below_next (Below.refl _ _).drew hb2), HN.out.step hv⟩
          · have ht : m0 ≤ projF q r (s + rdiv (1000 * k) m1) := of_decide_eq_true hv
            have HF := Lib.hid (fF_some h hm hm' (by omega) hv HN.out)
            go_wp2_with fail
            go_region_held3 (fun w' => w'.cell? ⟨w.heap.size, 0, none⟩ = some (.int .i64 p) ∧ w'.cell? ⟨w.heap.size, 1, none⟩ = some (.int .i64 q) ∧ w'.cell? ⟨w.heap.size, 2, none⟩ = some (.int .i64 r) ∧ w'.cell? ⟨w.heap.size, 3, none⟩ = some (.int .i64 s) ∧ Below wr.heap.size wr w') (first | exact keep4 HD.out (Below.refl _ _).drew | exact keep4 HD.out (below_next (Below.refl _ _).drew hb2) | go_keep)
              (first | (go_at_call 44; refine call_below (l10High_c _ _ q r _ _ ?_ ?_ (by omega) (by omega) ⟨t3, t4⟩) ?_; (simp [*]); (simp [*]); intro w2 hb2) | (go_at_call 49; refine call_same (l01Div_c _ _ _ (by omega) (by omega) (by omega) (by omega)) ?_))
            go_wp2
            go_ret2
            exact ⟨by rw [HF.out]; rfl, below_next hbl (below_next (Below.refl _ _).drew hb2)⟩
        · obtain rfl : k = 201 := by omega
          have HF := Lib.hid (fF_none h hm hm' HN.out)
          go_wp2
          go_ret2
          exact ⟨by rw [HF.out]; rfl, hbl⟩

theorem walk (p q r s m0 m1 : Int) (w : World) (_ : (Lit.int .i64 p).wf = true) (_ : (Lit.int .i64 q).wf = true) (_ : (Lit.int .i64 r).wf = true) (_ : (Lit.int .i64 s).wf = true) (_ : (Lit.int .i64 m0).wf = true) (_ : (Lit.int .i64 m1).wf = true) :
    Calls Try.prog 13 #[.agg #[.int .i64 p, .int .i64 q, .int .i64 r, .int .i64 s], .int .i64 m0, .int .i64 m1] w fun e w' => e = .returned (.bool true) ∧ Below w.heap.size w w' := by
  go_enter Try.func13, Try.ntmps13
  go_wp2_with fail
  refine call_below (toNeck_c _ _ _ _ _) ?_
  intro w1 hb1
  have c1 := box_cell hb1
  go_wp2_with fail
  refine call_below (s_c p q r s m0 m1 _) ?_
  intro w2 hb2
  have H2 := below_next hb1 hb2
  clear c1 hb1 hb2
  have c2 := box_cell H2
  go_wp2_with fail
  refine call_below (toNeck_c _ _ _ _ _) ?_
  intro w3 hb3
  have H3 := below_next H2 hb3
  clear c2 H2 hb3
  go_wp2_with fail
  refine call_below (i_c p q r s m0 m1 _) ?_
  intro w4 hb4
  have H4 := below_next H3 hb4
  clear H3 hb4
  go_wp2
  go_ret
  exact ⟨rfl, below_from H4⟩

theorem own : ownKnob Try.prog.godebug = none := by kernel_rfl
theorem laidOut : laidOutB Try.prog = true := by kernel_rfl
theorem cells23 : Try.prog.cellsOf 23 = 4 := by kernel_rfl
set_option maxRecDepth 100000 in
theorem lifted (os : Os) (started : os.Started) (H : Type) (enc : TypeId × Value → H) :
    ReturnsInHanded {} Try.checked os 13 .any (Rows.fnExactShimForSpec.pre6 enc Try.prog Try.f13 Rows.fnExactShimForRow.domain false) (Rows.fnExactShimForSpec.post enc Try.prog Try.f13 false true false false) := by
  refine returnsInHanded_of_change (C := Try.checked) own started (by kernel_rfl) Try.func13
    (ChangeSpec.witness6 (enc := enc) (C := Try.checked) false ⟨#[], #[.agg #[.int .i64 0, .int .i64 0, .int .i64 0, .int .i64 0], .int .i64 0, .int .i64 0], []⟩ 8 (by kernel_rfl) (by kernel_rfl) (by kernel_rfl) (by kernel_rfl)) ?_
  intro W base args ds gs before hval0 hW hcnd _
  have hval : ∀ (j : Nat) t v, Try.f13.params[j]? = some t → args[j]? = some v → Value.okWide Try.prog W .any base t v := hval0
  have hW' := hW
  obtain ⟨p, q, hA0, hV, rfl, hfz, hnd⟩ := hW
  have hA : DataW.TrodAll enc Try.prog W 0 (fun _ => true) true Try.f13.params.toList args.toList ds p := hA0
  rw [Try.params13] at hA hval
  obtain ⟨v0, vs0, d0, ds0, p0, q0, hargs, rfl, rfl, h0, r0⟩ := trodAll_cons hA
  obtain ⟨v1, vs1, d1, ds1, p1, q1, rfl, rfl, rfl, h1, r1⟩ := trodAll_cons r0
  obtain ⟨v2, vs2, d2, ds2, p2, q2, rfl, rfl, rfl, h2, r2⟩ := trodAll_cons r1
  obtain ⟨rfl, rfl, rfl⟩ := trodAll_nil r2
  obtain rfl : args = #[v0, v1, v2] := by cases args; simp_all
  obtain ⟨rfl, rfl⟩ := trodVars_none hV
  have k0 := h0
  have lt0 : ∀ x ∈ p0, x.block < W.heap.size := by obtain ⟨m, hm⟩ := k0; exact DataW.trod_lt m _ _ _ hm
  obtain ⟨c00, c01, c02, c03, y00, y01, y02, y03, n0, rfl, hd0, hp0, t00, t01, t02, t03⟩ := Go.Joins.open_agg4 Try.underlying23 (by kernel_rfl) cells23 (hval 0 23 v0 rfl rfl) h0
  obtain ⟨a00, e00, z00, w00⟩ := DataW.trod_int Try.underlying2 t00
  simp only [List.cons.injEq, and_true] at e00
  subst e00
  obtain ⟨a01, e01, z01, w01⟩ := DataW.trod_int Try.underlying2 t01
  simp only [List.cons.injEq, and_true] at e01
  subst e01
  obtain ⟨a02, e02, z02, w02⟩ := DataW.trod_int Try.underlying2 t02
  simp only [List.cons.injEq, and_true] at e02
  subst e02
  obtain ⟨a03, e03, z03, w03⟩ := DataW.trod_int Try.underlying2 t03
  simp only [List.cons.injEq, and_true] at e03
  subst e03
  have k1 := h1
  have lt1 : ∀ x ∈ p1, x.block < W.heap.size := by obtain ⟨m, hm⟩ := k1; exact DataW.trod_lt m _ _ _ hm
  obtain ⟨a1, rfl, rfl, rfl, w1⟩ := open_int Try.underlying2 (hval 1 2 v1 rfl rfl) h1
  have k2 := h2
  have lt2 : ∀ x ∈ p2, x.block < W.heap.size := by obtain ⟨m, hm⟩ := k2; exact DataW.trod_lt m _ _ _ hm
  obtain ⟨a2, rfl, rfl, rfl, w2⟩ := open_int Try.underlying2 (hval 2 2 v2 rfl rfl) h2
  clear hA0 hval0
  refine (walk a00 a01 a02 a03 a1 a2 W w00 w01 w02 w03 w1 w2).mono fun e W' ⟨he, bel⟩ => ?_
  subst he
  exact ⟨_, rfl, _, _, _, [], _, [], hW', trodAll_mk1 (shut_bool Try.underlying4 _), (trodAll_cons_mk (Below.trod laidOut (by kernel_rfl) (of_decide_eq_true (by kernel_rfl)) k0 bel lt0) (trodAll_cons_mk (Below.trod laidOut (by kernel_rfl) (of_decide_eq_true (by kernel_rfl)) k1 bel lt1) (trodAll_cons_mk (Below.trod laidOut (by kernel_rfl) (of_decide_eq_true (by kernel_rfl)) k2 bel lt2) trodAll_mk0))), rfl, bel.frame _, fun h => by cases h⟩

theorem over : Rows.fnExactShimForRow.holds Try.pinned (OpenSpec.ofChange Rows.fnExactShimForSpec) :=
  OpenClaim.holds_of_wide 13 Try.f13 rfl rfl rfl rfl rfl rfl rfl ⟨rfl, rfl, rfl, rfl, rfl⟩ rfl rfl rfl rfl rfl (by kernel_rfl) Try.func13 (by kernel_rfl)
    (of_decide_eq_true (by kernel_rfl)) (by unfold Func.isWrapper; first | (rw [if_pos (by decide +kernel)]; kernel_rfl) | (rw [if_neg (by decide +kernel)]; exact ⟨rfl, rfl⟩))
    (fun os started H enc _ => lifted os started H enc)

/-- THE STATEMENT. -/
theorem proved : Rows.FnExactShimForSaid := over
#print axioms proved
end Go.Proofs.Ytdbgcchnaielmaa.lawShimFor
