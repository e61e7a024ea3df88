/- The program's HighestPitch returns what the reference's returns, for all arguments. No condition. -/
import Derived.Test.YthkjnemlklndfaaRows
import Derived.Test.YthkjnemlklndfaaHolds
import Derived.OpenShut
import Derived.ChangeOld
import Derived.Lib.SmallJoins
namespace Go.Proofs.Ythkjnemlklndfaa.lawHighestPitch
open Go.ChangeShapes Go.WideShapes Go.ChangeAt Go.RowKit
set_option linter.unusedVariables false

/-- Whether the pitch 10000 - k holds. -/
def hiP (q r s m0 : Int) (k : Nat) : Bool := holdB (10000 - k) q r s m0
def fF (p q r s m0 : Int) : Int × Int := if cordB p q r s then (if inB m0 0 1000 then (match firstUpTo (hiP q r s m0) 10000 with | some k => (10000 - (k : Int), 0) | none => (0, 3)) else (0, 2)) else (0, 1)
theorem fF_some {p q r s m0 : Int} {k : Nat} (h : cordB p q r s = true) (hm : inB m0 0 1000 = true) (hk : k < 10000) (hp : hiP q r s m0 k = true) (hn : NoneTo (hiP q r s m0) k) : fF p q r s m0 = (10000 - (k : Int), 0) := by
  simp only [fF, h, hm, if_true, first_some hk hp hn]
theorem fF_none {p q r s m0 : Int} (h : cordB p q r s = true) (hm : inB m0 0 1000 = true) (hn : NoneTo (hiP q r s m0) 10000) : fF p q r s m0 = (0, 3) := by
  simp only [fF, h, hm, if_true, first_none hn]
theorem pitch_in {p q r s : Int} (h : cordB p q r s = true) {y : Int} (h0 : 0 ≤ y) (h1 : y ≤ 10000) : CordIn y q r := by
  have := cordB_true h
  exact ⟨⟨by omega, by omega⟩, ⟨by omega, by omega⟩, ⟨by omega, by omega⟩⟩
theorem share_in {p q r s m0 : Int} (h : cordB p q r s = true) (hm : inB m0 0 1000 = true) : ShareIn s m0 := by
  have := cordB_true h
  have := inB_true hm
  exact ⟨⟨by omega, by omega⟩, ⟨by omega, by omega⟩⟩
theorem tenF_mono {a b q r : Int} (h0 : 0 ≤ a) (h : a ≤ b) (hq : 0 ≤ q) (hr : 0 ≤ r) : tenF a q r ≤ tenF b q r := by
  refine rdiv_mono (by omega) ?_
  have k1 : 4 * a * a ≤ 4 * b * b := Int.mul_le_mul (by omega) h h0 (by omega)
  exact Int.mul_le_mul_of_nonneg_right (Int.mul_le_mul_of_nonneg_right (Int.mul_le_mul_of_nonneg_right k1 hq) hq) hr
theorem hold_mono {p q r s m0 a b : Int} (hc : cordB p q r s = true) (h0 : 0 ≤ a) (h : a ≤ b) (hb : holdB a q r s m0 = false) : holdB b q r s m0 = false := by
  have hx := cordB_true hc
  have := tenF_mono (q := q) (r := r) h0 h (by omega) (by omega)
  have h2 := of_decide_eq_false hb
  exact decide_eq_false (by omega)
/-- No pitch above y holds. -/
def Above (q r s m0 y : Int) : Prop := ∀ z, y < z → z ≤ 10000 → holdB z q r s m0 = false
theorem Above.none {q r s m0 y : Int} (h : Above q r s m0 y) {k : Nat} (hk : y = 10000 - k) : NoneTo (hiP q r s m0) k := fun j hj => h _ (by omega) (by omega)

set_option maxRecDepth 100000 in
theorem i_c (p q r s m0 : Int) (w : World) : Calls Try.prog 17 #[.agg #[.int .i64 p, .int .i64 q, .int .i64 r, .int .i64 s], .int .i64 m0] w fun e w' => e = .returned (.tuple #[.int .i64 (fF p q r s m0).1, .int .i64 (fF p q r s m0).2]) ∧ Below w.heap.size w w' := by
  cases h : cordB p q r s
  · go_enter Try.func17, Try.ntmps17
    go_wp2_with fail
    refine call_below (validString_c _ _ _ _ _) ?_
    intro w1 hb1
    go_wp2
    go_ret2
    exact ⟨by simp [fF, h], below_from hb1⟩
  · cases hm : inB m0 0 1000
    · go_enter Try.func17, Try.ntmps17
      go_wp2_with fail
      refine call_below (validString_c _ _ _ _ _) ?_
      intro w1 hb1
      go_wp2_with (go_at_call 60; refine call_same (isShare_c _ _) ?_)
      go_ret2
      exact ⟨by simp [fF, h, hm], below_from hb1⟩
    · have hsh := Lib.hid (share_in h hm)
      go_enter Try.func17, Try.ntmps17
      go_wp2_with fail
      refine call_below (validString_c _ _ _ _ _) ?_
      intro w1 hb1
      have D := box_four hb1
      obtain ⟨d0, d1, d2, d3⟩ := D
      have hf3 : w1.frozen? ⟨w.heap.size, 0, none⟩ = false := by rw [hb1.frozen (p := ⟨w.heap.size, 0, none⟩) (by simp)]; go_cell
      have HB := Lib.hid hb1
      have HD := Lib.hid (show Four w.heap.size _ _ _ _ w1 from ⟨d0, d1, d2, d3⟩)
      clear hb1
      go_wp2_with (go_at_call 60; refine call_same (isShare_c _ _) ?_)
      go_loopg [] 10000 (fun g wr => ∃ (k : Nat) (y : Int), (g : Int) = y ∧ 0 ≤ y ∧ y = 10000 - k ∧ Four w.heap.size (.int .i64 y) (.int .i64 q) (.int .i64 r) (.int .i64 s) wr ∧ wr.frozen? ⟨w.heap.size, 0, none⟩ = false ∧ Below w.heap.size w wr ∧ NoneTo (hiP q r s m0) k)
      case atStart => exact ⟨0, 10000, by omega, by omega, by omega, HD.out.set0 _, by simpa using hf3, (below_from HB.out).setCell (Nat.le_refl _) _, NoneTo.zero _⟩
      case round =>
        obtain ⟨k, y, hg, hy0, hyk, hD, hf, hbl, hno⟩ := hrel
        clear d0 d1 d2 d3 hf3 HB HD
        have HG := Lib.hid hg
        have HY := Lib.hid hyk
        have hy1 : y ≤ 10000 := by omega
        have HD := Lib.hid hD
        have HN := Lib.hid hno
        obtain ⟨d0, d1, d2, d3⟩ := hD
        clear hno hg hyk
        by_cases hlt : 0 < y
        · have hin := Lib.hid (pitch_in h hy0 hy1)
          have hP : hiP q r s m0 k = holdB y q r s m0 := by unfold hiP; rw [HY.out]
          have HP := Lib.hid hP
          clear hP
          cases hv : holdB y q r s m0
          · go_wp2_with fail
            refine call_below (holds_c y q r s m0 _ hin.out hsh.out) ?_
            intro w2 hb2
            have e3 := (HD.out.keep hb2).1
            have f3 : w2.frozen? ⟨w.heap.size, 0, none⟩ = false := (hb2.frozen (p := ⟨w.heap.size, 0, none⟩) HD.out.lt).trans hf
            go_wp2
            go_roundg (gk - 1)
            case measure => have := HG.out; omega
            case rel => exact ⟨k + 1, y - 1, by have := HG.out; omega, by omega, by have := HY.out; omega, (HD.out.keep hb2).set0 _, by simpa using f3, (below_next hbl hb2).setCell (Nat.le_refl _) _, HN.out.step (HP.out.trans hv)⟩
          · have HF := Lib.hid (fF_some h hm (by have := HY.out; omega) (HP.out.trans hv) HN.out)
            go_wp2_with fail
            refine call_below (holds_c y q r s m0 _ hin.out hsh.out) ?_
            intro w2 hb2
            have e3 := (HD.out.keep hb2).1
            go_wp2
            go_ret2
            exact ⟨by rw [HF.out, ← HY.out]; rfl, below_next hbl hb2⟩
        · obtain rfl : y = 0 := by omega
          have hk : k = 10000 := by have := HY.out; omega
          have HF := Lib.hid (fF_none h hm (hk ▸ HN.out))
          clear hk
          go_wp2
          go_ret2
          exact ⟨by rw [HF.out]; rfl, hbl⟩

set_option maxRecDepth 100000 in
theorem s_c (p q r s m0 : Int) (w : World) : Calls Try.prog 15 #[.agg #[.int .i64 p, .int .i64 q, .int .i64 r, .int .i64 s], .int .i64 m0] w fun e w' => e = .returned (.tuple #[.int .i64 (fF p q r s m0).1, .int .i64 (fF p q r s m0).2]) ∧ Below w.heap.size w w' := by
  cases h : cordB p q r s
  · go_enter Try.func15, Try.ntmps15
    go_wp2_with fail
    refine call_same (l09One_c _ _ p q r s _ ?_ ?_ ?_ ?_) ?_
    iterate 4 (· go_cell)
    go_wp2
    go_ret2
    exact ⟨by simp [fF, h], by go_grown⟩
  · cases hm : inB m0 0 1000
    · go_enter Try.func15, Try.ntmps15
      go_wp2_with fail
      refine call_same (l09One_c _ _ p q r s _ ?_ ?_ ?_ ?_) ?_
      iterate 4 (· go_cell)
      go_wp2_with (go_at_call 57; refine call_same (l09Share_c _ _) ?_)
      go_ret2
      exact ⟨by simp [fF, h, hm], by go_grown⟩
    · have hsh := Lib.hid (share_in h hm)
      cases h1 : holdB 1 q r s m0
      · have hA : NoneTo (hiP q r s m0) 10000 := fun j hj => hold_mono h (by omega) (by omega) h1
        have HF := Lib.hid (fF_none h hm hA)
        clear hA
        go_enter Try.func15, Try.ntmps15
        go_wp2_with fail
        refine call_same (l09One_c _ _ p q r s _ ?_ ?_ ?_ ?_) ?_
        iterate 4 (· go_cell)
        go_wp2_with (go_at_call 57; refine call_same (l09Share_c _ _) ?_)
        refine call_below (l09Holds_c _ 1 q r s m0 _ ⟨?_, ?_, ?_, ?_⟩ (pitch_in h (by omega) (by omega)) hsh.out) ?_
        iterate 4 (· go_cell)
        intro w2 hb2
        go_wp2
        go_ret2
        exact ⟨by rw [HF.out]; rfl, below_next (by go_grown) hb2⟩
      · go_enter Try.func15, Try.ntmps15
        go_wp2_with fail
        refine call_same (l09One_c _ _ p q r s _ ?_ ?_ ?_ ?_) ?_
        iterate 4 (· go_cell)
        go_wp2_with (go_at_call 57; refine call_same (l09Share_c _ _) ?_)
        have HD := Lib.hid (show Four (w.heap.size + 1) (.int .i64 1) (.int .i64 q) (.int .i64 r) (.int .i64 s) ((w.alloc (.cells #[.int .i64 p, .int .i64 q, .int .i64 r, .int .i64 s] 26)).alloc (.cells #[.int .i64 1, .int .i64 q, .int .i64 r, .int .i64 s] 26)) from ⟨by go_cell, by go_cell, by go_cell, by go_cell⟩)
        refine call_below (l09Holds_c _ 1 q r s m0 _ HD.out (pitch_in h (by omega) (by omega)) hsh.out) ?_
        intro w2 hb2
        have hf2 : w2.frozen? ⟨w.heap.size + 1, 0, none⟩ = false := (hb2.frozen (p := ⟨w.heap.size + 1, 0, none⟩) HD.out.lt).trans (by go_cell)
        have HE := Lib.hid (HD.out.keep hb2)
        have HB := Lib.hid (show Below w.heap.size w w2 from below_next (by go_grown) hb2)
        clear hb2 HD
        go_wp2
        go_loopg [7, 8] 9999 (fun g lo hi wr => ∃ (a b y : Int), (g : Int) = b - a ∧ 1 ≤ a ∧ a ≤ b ∧ b ≤ 10000 ∧ lo = .int .i64 a ∧ hi = .int .i64 b ∧ Four (w.heap.size + 1) (.int .i64 y) (.int .i64 q) (.int .i64 r) (.int .i64 s) wr ∧ wr.frozen? ⟨w.heap.size + 1, 0, none⟩ = false ∧ Below w.heap.size w wr ∧ holdB a q r s m0 = true ∧ Above q r s m0 b)
        case atStart => exact ⟨1, 10000, 1, by omega, by omega, by omega, by omega, rfl, rfl, HE.out, hf2, HB.out, h1, fun z h2 h3 => absurd h2 (by omega)⟩
        case round =>
          obtain ⟨a, b, y, hg, ha1, hab, hb1, rfl, rfl, hD, hf, hbl, hla, hno⟩ := hrel
          clear hf2 HE HB h1
          have HG := Lib.hid hg
          have HL := Lib.hid hla
          have HN := Lib.hid hno
          have HD := Lib.hid hD
          obtain ⟨d0, d1, d2, d3⟩ := hD
          clear hno hg hla
          by_cases hlt : a < b
          · have m1 : a < (a + b + 1) / 2 := by omega
            have m2 : (a + b + 1) / 2 ≤ b := by omega
            have HE := Lib.hid (HD.out.set0 (.int .i64 ((a + b + 1) / 2)))
            have hin := Lib.hid (pitch_in h (y := (a + b + 1) / 2) (by omega) (by omega))
            cases hv : holdB ((a + b + 1) / 2) q r s m0
            · go_wp2_with fail
              refine call_below (l09Holds_c _ _ q r s m0 _ HE.out hin.out hsh.out) ?_
              intro w2 hb2
              have f3 : w2.frozen? ⟨w.heap.size + 1, 0, none⟩ = false := (hb2.frozen (p := ⟨w.heap.size + 1, 0, none⟩) HE.out.lt).trans (by simpa using hf)
              have e3 := (HE.out.keep hb2).1
              go_wp2
              go_roundg (((a + b + 1) / 2 - 1 - a).toNat)
              case measure => have := HG.out; omega
              case rel => exact ⟨a, (a + b + 1) / 2 - 1, (a + b + 1) / 2, by omega, ha1, by omega, by omega, rfl, rfl, HE.out.keep hb2, f3, below_next (hbl.setCell (Nat.le_succ _) _) hb2, HL.out, fun z h2 h3 => hold_mono h (a := (a + b + 1) / 2) (by omega) (by omega) hv⟩
            · go_wp2_with fail
              refine call_below (l09Holds_c _ _ q r s m0 _ HE.out hin.out hsh.out) ?_
              intro w2 hb2
              have f3 : w2.frozen? ⟨w.heap.size + 1, 0, none⟩ = false := (hb2.frozen (p := ⟨w.heap.size + 1, 0, none⟩) HE.out.lt).trans (by simpa using hf)
              have e3 := (HE.out.keep hb2).1
              go_wp2
              go_roundg ((b - (a + b + 1) / 2).toNat)
              case measure => have := HG.out; omega
              case rel => exact ⟨(a + b + 1) / 2, b, (a + b + 1) / 2, by omega, by omega, by omega, hb1, rfl, rfl, HE.out.keep hb2, f3, below_next (hbl.setCell (Nat.le_succ _) _) hb2, hv, HN.out⟩
          · obtain rfl : a = b := by omega
            have hk : a = 10000 - ((10000 - a).toNat : Int) := by omega
            have HF := Lib.hid (fF_some (k := (10000 - a).toNat) h hm (by omega) (by unfold hiP; rw [← hk]; exact HL.out) (HN.out.none hk))
            have HK := Lib.hid hk
            clear hk
            go_wp2
            go_ret2
            exact ⟨by rw [HF.out, ← HK.out]; rfl, hbl⟩

theorem walk (p q r s m0 : Int) (w : World) (_ : (Lit.int .i64 p).wf = true) (_ : (Lit.int .i64 q).wf = true) (_ : (Lit.int .i64 r).wf = true) (_ : (Lit.int .i64 s).wf = true) (_ : (Lit.int .i64 m0).wf = true) :
    Calls Try.prog 3 #[.agg #[.int .i64 p, .int .i64 q, .int .i64 r, .int .i64 s], .int .i64 m0] w fun e w' => e = .returned (.bool true) ∧ Below w.heap.size w w' := by
  go_enter Try.func3, Try.ntmps3
  go_wp2_with fail
  refine call_below (toCord_c _ _ _ _ _) ?_
  intro w1 hb1
  have c1 := box_cell hb1
  go_wp2_with fail
  refine call_below (s_c p q r s m0 _) ?_
  intro w2 hb2
  have H2 := below_next hb1 hb2
  clear c1 hb1 hb2
  have c2 := box_cell H2
  go_wp2_with fail
  refine call_below (toCord_c _ _ _ _ _) ?_
  intro w3 hb3
  have H3 := below_next H2 hb3
  clear c2 H2 hb3
  go_wp2_with fail
  refine call_below (i_c p q r s m0 _) ?_
  intro w4 hb4
  have H4 := below_next H3 hb4
  clear H3 hb4
  go_wp2
  go_ret
  exact ⟨rfl, below_from H4⟩

theorem own : ownKnob Try.prog.godebug = none := by kernel_rfl
theorem laidOut : laidOutB Try.prog = true := by kernel_rfl
theorem cells23 : Try.prog.cellsOf 23 = 4 := by kernel_rfl
set_option maxRecDepth 100000 in
theorem lifted (os : Os) (started : os.Started) (H : Type) (enc : TypeId × Value → H) :
    ReturnsInHanded {} Try.checked os 3 .any (Rows.fnExactHighestPitchSpec.pre6 enc Try.prog Try.f3 Rows.fnExactHighestPitchRow.domain false) (Rows.fnExactHighestPitchSpec.post enc Try.prog Try.f3 false true false false) := by
  refine returnsInHanded_of_change (C := Try.checked) own started (by kernel_rfl) Try.func3
    (ChangeSpec.witness6 (enc := enc) (C := Try.checked) false ⟨#[], #[.agg #[.int .i64 0, .int .i64 0, .int .i64 0, .int .i64 0], .int .i64 0], []⟩ 8 (by kernel_rfl) (by kernel_rfl) (by kernel_rfl) (by kernel_rfl)) ?_
  intro W base args ds gs before hval0 hW hcnd _
  have hval : ∀ (j : Nat) t v, Try.f3.params[j]? = some t → args[j]? = some v → Value.okWide Try.prog W .any base t v := hval0
  have hW' := hW
  obtain ⟨p, q, hA0, hV, rfl, hfz, hnd⟩ := hW
  have hA : DataW.TrodAll enc Try.prog W 0 (fun _ => true) true Try.f3.params.toList args.toList ds p := hA0
  rw [Try.params3] at hA hval
  obtain ⟨v0, vs0, d0, ds0, p0, q0, hargs, rfl, rfl, h0, r0⟩ := trodAll_cons hA
  obtain ⟨v1, vs1, d1, ds1, p1, q1, rfl, rfl, rfl, h1, r1⟩ := trodAll_cons r0
  obtain ⟨rfl, rfl, rfl⟩ := trodAll_nil r1
  obtain rfl : args = #[v0, v1] := by cases args; simp_all
  obtain ⟨rfl, rfl⟩ := trodVars_none hV
  have k0 := h0
  have lt0 : ∀ x ∈ p0, x.block < W.heap.size := by obtain ⟨m, hm⟩ := k0; exact DataW.trod_lt m _ _ _ hm
  obtain ⟨c00, c01, c02, c03, y00, y01, y02, y03, n0, rfl, hd0, hp0, t00, t01, t02, t03⟩ := Go.Joins.open_agg4 Try.underlying23 (by kernel_rfl) cells23 (hval 0 23 v0 rfl rfl) h0
  obtain ⟨a00, e00, z00, w00⟩ := DataW.trod_int Try.underlying2 t00
  simp only [List.cons.injEq, and_true] at e00
  subst e00
  obtain ⟨a01, e01, z01, w01⟩ := DataW.trod_int Try.underlying2 t01
  simp only [List.cons.injEq, and_true] at e01
  subst e01
  obtain ⟨a02, e02, z02, w02⟩ := DataW.trod_int Try.underlying2 t02
  simp only [List.cons.injEq, and_true] at e02
  subst e02
  obtain ⟨a03, e03, z03, w03⟩ := DataW.trod_int Try.underlying2 t03
  simp only [List.cons.injEq, and_true] at e03
  subst e03
  have k1 := h1
  have lt1 : ∀ x ∈ p1, x.block < W.heap.size := by obtain ⟨m, hm⟩ := k1; exact DataW.trod_lt m _ _ _ hm
  obtain ⟨a1, rfl, rfl, rfl, w1⟩ := open_int Try.underlying2 (hval 1 2 v1 rfl rfl) h1
  clear hA0 hval0
  refine (walk a00 a01 a02 a03 a1 W w00 w01 w02 w03 w1).mono fun e W' ⟨he, bel⟩ => ?_
  subst he
  exact ⟨_, rfl, _, _, _, [], _, [], hW', trodAll_mk1 (shut_bool Try.underlying4 _), (trodAll_cons_mk (Below.trod laidOut (by kernel_rfl) (of_decide_eq_true (by kernel_rfl)) k0 bel lt0) (trodAll_cons_mk (Below.trod laidOut (by kernel_rfl) (of_decide_eq_true (by kernel_rfl)) k1 bel lt1) trodAll_mk0)), rfl, bel.frame _, fun h => by cases h⟩

theorem over : Rows.fnExactHighestPitchRow.holds Try.pinned (OpenSpec.ofChange Rows.fnExactHighestPitchSpec) :=
  OpenClaim.holds_of_wide 3 Try.f3 rfl rfl rfl rfl rfl rfl rfl ⟨rfl, rfl, rfl, rfl, rfl⟩ rfl rfl rfl rfl rfl (by kernel_rfl) Try.func3 (by kernel_rfl)
    (of_decide_eq_true (by kernel_rfl)) (by unfold Func.isWrapper; first | (rw [if_pos (by decide +kernel)]; kernel_rfl) | (rw [if_neg (by decide +kernel)]; exact ⟨rfl, rfl⟩))
    (fun os started H enc _ => lifted os started H enc)

/-- THE STATEMENT. -/
theorem proved : Rows.FnExactHighestPitchSaid := over
#print axioms proved
end Go.Proofs.Ythkjnemlklndfaa.lawHighestPitch
