/- The program's CamberGap returns what the reference's returns, for all arguments. No condition. -/
import Derived.Test.YtdbgcchnaielmaaRows
import Derived.Test.YtdbgcchnaielmaaStick
import Derived.OpenShut
import Derived.ChangeOld
import Derived.Lib.SmallJoins
namespace Go.Proofs.Ytdbgcchnaielmaa.lawCamberGap
open Go.ChangeShapes Go.WideShapes Go.ChangeAt Go.RowKit
set_option linter.unusedVariables false

/-- The bend at place m. -/
def bend (zs : List Int) (m : Nat) : Int := distF (nth zs (m - 1) + nth zs (m + 1)) (2 * nth zs m)
/-- The greatest bend before place m. -/
def camTo (zs : List Int) : Nat → Int
  | 0 => 0
  | m + 1 => if m = 0 then 0 else max (camTo zs m) (bend zs m)
theorem camTo_step {zs : List Int} {m : Nat} (h : 1 ≤ m) : camTo zs (m + 1) = max (camTo zs m) (bend zs m) := by simp only [camTo]; rw [if_neg (by omega)]
def fF (zs : List Int) : Int × Int := if heightsB zs then (camTo zs (zs.length - 1), 0) else (0, 1)

theorem i_c (a : Option Addr) (cap : Nat) (zs : List Int) (w : World) (h : Nums .i64 w a zs) (hn : zs.length ≤ 1048576) :
    Calls Try.prog 29 #[.slice a zs.length cap] w fun e w' => e = .returned (.tuple #[.int .i64 (fF zs).1, .int .i64 (fF zs).2]) ∧ Below w.heap.size w w' := by
  cases hv : heightsB zs
  · go_enter Try.func29, Try.ntmps29
    go_wp2_with fail
    refine call_same (areHeights_c _ _ zs _ h hn) ?_
    go_wp2
    go_ret2
    exact ⟨by simp [fF, hv], Below.refl _ _⟩
  · have HV := Lib.hid (heightsB_true hv)
    have hl := HV.out.2.1
    have HF := Lib.hid (show fF zs = (camTo zs (zs.length - 1), 0) by simp only [fF, hv, if_true])
    go_enter Try.func29, Try.ntmps29
    go_wp2_with fail
    refine call_same (areHeights_c _ _ zs _ h hn) ?_
    go_wp2
    go_loopw [4, 5] (fun s i wr => ∃ m : Nat, 1 ≤ m ∧ m + 1 ≤ zs.length ∧ i = .int .i64 m ∧ s = .int .i64 (camTo zs m) ∧ Below w.heap.size w wr) (fun _ i _ => zs.length - (intOf i).toNat)
    case atStart => exact ⟨1, Nat.le_refl _, by omega, rfl, rfl, Below.refl _ _⟩
    case round =>
      obtain ⟨m, hm1, hm2, rfl, rfl, hbl⟩ := hrel
      by_cases hlt : m + 1 < zs.length
      · obtain ⟨b, o, rfl, hb, hc1⟩ := (h.below hbl).pos (j := m - 1) (by omega)
        obtain ⟨b', o', he, _, hc2⟩ := (h.below hbl).pos (j := m) (by omega)
        obtain ⟨rfl, rfl⟩ : b = b' ∧ o = o' := by simpa using he
        obtain ⟨b', o', he, _, hc3⟩ := (h.below hbl).pos (j := m + 1) (by omega)
        obtain ⟨rfl, rfl⟩ : b = b' ∧ o = o' := by simpa using he
        clear he h
        have e1 := HV.out.1 (m - 1) (by omega)
        have e2 := HV.out.1 m (by omega)
        have e3 := HV.out.1 (m + 1) (by omega)
        have hi0 : (0 : Int) ≤ (m : Int) := by omega
        have hi1 : (1 : Int) ≤ (m : Int) := by omega
        have hi2 : (m : Int) < (zs.length : Int) := by omega
        have hi3 : (m : Int) + 1 < (zs.length : Int) := by omega
        have hi4 : (m : Int) - 1 < (zs.length : Int) := by omega
        have hi5 : (0 : Int) ≤ (m : Int) - 1 := by omega
        have hi6 : (0 : Int) ≤ (m : Int) + 1 := by omega
        have i1 : IntKind.i64.wrap ((m : Int) - 1) = (m : Int) - 1 := IntWalk.i64_in _ (by omega)
        have i2 : IntKind.i64.wrap ((m : Int) + 1) = (m : Int) + 1 := IntWalk.i64_in _ (by omega)
        have i3 : IntKind.i64.wrap (nth zs (m - 1) + nth zs (m + 1)) = nth zs (m - 1) + nth zs (m + 1) := IntWalk.i64_in _ (by omega)
        have i4 : IntKind.i64.wrap (2 * nth zs m) = 2 * nth zs m := IntWalk.i64_in _ (by omega)
        have n1 : ((m : Int) - 1).toNat = m - 1 := by omega
        have n2 : ((m : Int) + 1).toNat = m + 1 := by omega
        go_wp2_with fail
        go_quiet ((go_at_call 60; exact quiet_at (distance_c _ _ _ (by omega) (by omega))))
        clear i1 i2 i3 i4 n1 n2
        go_wp2
        go_roundw
        case rel => exact ⟨m + 1, by omega, by omega, by go_num, by rw [camTo_step hm1]; rfl, below_drewN hbl _⟩
        case measure => simp [intOf]; omega
      · obtain hm : m = zs.length - 1 := by omega
        have HM := Lib.hid hm
        clear hm
        go_wp2
        go_ret2
        exact ⟨by rw [HF.out, ← HM.out]; rfl, hbl⟩

theorem s_c (a : Option Addr) (cap : Nat) (zs : List Int) (w : World) (h : Nums .i64 w a zs) (hn : zs.length ≤ 1048576) :
    Calls Try.prog 27 #[.slice a zs.length cap] w fun e w' => e = .returned (.tuple #[.int .i64 (fF zs).1, .int .i64 (fF zs).2]) ∧ Below w.heap.size w w' := by
  cases hv : heightsB zs
  · go_enter Try.func27, Try.ntmps27
    go_wp2_with fail
    refine call_same (l11Heights_c _ _ zs _ h hn) ?_
    go_wp2
    go_ret2
    exact ⟨by simp [fF, hv], Below.refl _ _⟩
  · have HV := Lib.hid (heightsB_true hv)
    have hl := HV.out.2.1
    have HF := Lib.hid (show fF zs = (camTo zs (zs.length - 1), 0) by simp only [fF, hv, if_true])
    go_enter Try.func27, Try.ntmps27
    go_wp2_with fail
    refine call_same (l11Heights_c _ _ zs _ h hn) ?_
    go_wp2
    go_loopw [4, 5] (fun s i wr => ∃ m : Nat, 1 ≤ m ∧ m + 1 ≤ zs.length ∧ i = .int .i64 m ∧ s = .int .i64 (camTo zs m) ∧ Below w.heap.size w wr) (fun _ i _ => zs.length - (intOf i).toNat)
    case atStart => exact ⟨1, Nat.le_refl _, by omega, rfl, rfl, Below.refl _ _⟩
    case round =>
      obtain ⟨m, hm1, hm2, rfl, rfl, hbl⟩ := hrel
      by_cases hlt : m + 1 < zs.length
      · obtain ⟨b, o, rfl, hb, hc1⟩ := (h.below hbl).pos (j := m - 1) (by omega)
        obtain ⟨b', o', he, _, hc2⟩ := (h.below hbl).pos (j := m) (by omega)
        obtain ⟨rfl, rfl⟩ : b = b' ∧ o = o' := by simpa using he
        obtain ⟨b', o', he, _, hc3⟩ := (h.below hbl).pos (j := m + 1) (by omega)
        obtain ⟨rfl, rfl⟩ : b = b' ∧ o = o' := by simpa using he
        clear he h
        have e1 := HV.out.1 (m - 1) (by omega)
        have e2 := HV.out.1 m (by omega)
        have e3 := HV.out.1 (m + 1) (by omega)
        have hi0 : (0 : Int) ≤ (m : Int) := by omega
        have hi1 : (1 : Int) ≤ (m : Int) := by omega
        have hi2 : (m : Int) < (zs.length : Int) := by omega
        have hi3 : (m : Int) + 1 < (zs.length : Int) := by omega
        have hi4 : (m : Int) - 1 < (zs.length : Int) := by omega
        have hi5 : (0 : Int) ≤ (m : Int) - 1 := by omega
        have hi6 : (0 : Int) ≤ (m : Int) + 1 := by omega
        have i1 : IntKind.i64.wrap ((m : Int) - 1) = (m : Int) - 1 := IntWalk.i64_in _ (by omega)
        have i2 : IntKind.i64.wrap ((m : Int) + 1) = (m : Int) + 1 := IntWalk.i64_in _ (by omega)
        have i3 : IntKind.i64.wrap (nth zs (m - 1) + nth zs (m + 1)) = nth zs (m - 1) + nth zs (m + 1) := IntWalk.i64_in _ (by omega)
        have i4 : IntKind.i64.wrap (2 * nth zs m) = 2 * nth zs m := IntWalk.i64_in _ (by omega)
        have i5 : IntKind.i64.wrap (nth zs (m - 1) + nth zs (m + 1) - 2 * nth zs m) = nth zs (m - 1) + nth zs (m + 1) - 2 * nth zs m := IntWalk.i64_in _ (by omega)
        have n1 : ((m : Int) - 1).toNat = m - 1 := by omega
        have n2 : ((m : Int) + 1).toNat = m + 1 := by omega
        go_wp2_with fail
        go_quiet (fail)
        clear i1 i2 i3 i4 i5 n1 n2
        go_wp2_with (go_at_call 58; refine call_same (l00Max_c _ _ _) ?_)
        go_roundw
        case rel => exact ⟨m + 1, by omega, by omega, by go_num, by rw [camTo_step hm1]; unfold bend distF; congr 2; omega, below_drewN hbl _⟩
        case measure => simp [intOf]; omega
      · obtain hm : m = zs.length - 1 := by omega
        have HM := Lib.hid hm
        clear hm
        go_wp2
        go_ret2
        exact ⟨by rw [HF.out, ← HM.out]; rfl, hbl⟩

theorem walk (a0 : Option Addr) (cap0 : Nat) (z0 : List Int) (w : World) (h0 : Nums .i64 w a0 z0) (hm0 : z0.length ≤ maxLen) (_ : ∀ n ∈ z0, (Lit.int .i64 n).wf = true) :
    Calls Try.prog 8 #[.slice a0 z0.length cap0] w fun e w' => e = .returned (.bool true) ∧ Below w.heap.size w w' := by
  unfold maxLen at hm0
  by_cases hn0 : z0.length ≤ 1048576
  rotate_left
  · go_enter Try.func8, Try.ntmps8
    go_wp2
    go_ret
    exact ⟨rfl, Below.refl _ _⟩
  go_enter Try.func8, Try.ntmps8
  go_wp2_with fail
  refine call_pred (toInt64S_c a0 cap0 z0 _ h0 hn0) ?_
  rintro w1 ⟨r1, b1⟩
  have H1 := below_next (Below.refl _ _) b1
  have S0_1 := Nums.row r1
  clear r1
  go_wp2_with fail
  refine call_below (s_c _ _ z0 _ S0_1 hn0) ?_
  intro w2 b2
  have H2 := below_next H1 b2
  have S0_2 := S0_1.below b2
  clear S0_1
  clear S0_2
  go_wp2_with fail
  refine call_pred (toInt64S_c a0 cap0 z0 _ (h0.below H2) hn0) ?_
  rintro w3 ⟨r3, b3⟩
  have H3 := below_next H2 b3
  have X0_3 := Nums.row r3
  clear r3
  go_wp2_with fail
  refine call_below (i_c _ _ z0 _ X0_3 hn0) ?_
  intro w4 b4
  have H4 := below_next H3 b4
  have X0_4 := X0_3.below b4
  clear X0_3
  go_wp2_with fail
  refine call_pred (toInt64S_c a0 cap0 z0 _ (h0.below H4) hn0) ?_
  rintro w5 ⟨r5, b5⟩
  have H5 := below_next H4 b5
  have X0_5 := X0_4.below b5
  clear X0_4
  have Y0_5 := Nums.row r5
  clear r5
  go_wp2_with fail
  refine call_below (eqInt64S_c _ _ _ _ z0 _ X0_5 Y0_5 hn0) ?_
  intro w6 b6
  have H6 := below_next H5 b6
  have X0_6 := X0_5.below b6
  clear X0_5
  have Y0_6 := Y0_5.below b6
  clear Y0_5
  clear X0_6 Y0_6
  go_wp2
  go_ret
  exact ⟨rfl, H6⟩

theorem own : ownKnob Try.prog.godebug = none := by kernel_rfl
theorem laidOut : laidOutB Try.prog = true := by kernel_rfl
set_option maxRecDepth 100000 in
theorem lifted (os : Os) (started : os.Started) (H : Type) (enc : TypeId × Value → H) :
    ReturnsInHanded {} Try.checked os 8 .any (Rows.fnExactCamberGapSpec.pre6 enc Try.prog Try.f8 Rows.fnExactCamberGapRow.domain false) (Rows.fnExactCamberGapSpec.post enc Try.prog Try.f8 false true false false) := by
  refine returnsInHanded_of_change (C := Try.checked) own started (by kernel_rfl) Try.func8
    (ChangeSpec.witness6 (enc := enc) (C := Try.checked) false ⟨#[], #[.slice none 0 0], []⟩ 8 (by kernel_rfl) (by kernel_rfl) (by kernel_rfl) (by kernel_rfl)) ?_
  intro W base args ds gs before hval0 hW hcnd _
  have hval : ∀ (j : Nat) t v, Try.f8.params[j]? = some t → args[j]? = some v → Value.okWide Try.prog W .any base t v := hval0
  have hW' := hW
  obtain ⟨p, q, hA0, hV, rfl, hfz, hnd⟩ := hW
  have hA : DataW.TrodAll enc Try.prog W 0 (fun _ => true) true Try.f8.params.toList args.toList ds p := hA0
  rw [Try.params8] at hA hval
  obtain ⟨v0, vs0, d0, ds0, p0, q0, hargs, rfl, rfl, h0, r0⟩ := trodAll_cons hA
  obtain ⟨rfl, rfl, rfl⟩ := trodAll_nil r0
  obtain rfl : args = #[v0] := by cases args; simp_all
  obtain ⟨rfl, rfl⟩ := trodVars_none hV
  have k0 := h0
  have lt0 : ∀ x ∈ p0, x.block < W.heap.size := by obtain ⟨m, hm⟩ := k0; exact DataW.trod_lt m _ _ _ hm
  obtain ⟨a0, len0, cap0, rfl⟩ := okWide_slice Try.underlying39 (hval 0 39 v0 rfl rfl)
  obtain ⟨z0, rfl, w0, m0, f0⟩ : ∃ zs : List Int, zs.length = len0 ∧ Nums .i64 W a0 zs ∧ zs.length ≤ maxLen ∧ ∀ n ∈ zs, (Lit.int .i64 n).wf = true := by
    obtain ⟨fuel, hf⟩ := h0
    exact nums_open Try.underlying39 Try.underlying2 (by kernel_rfl) hf
  clear hA0 hval0
  refine (walk a0 cap0 z0 W w0 m0 f0).mono fun e W' ⟨he, bel⟩ => ?_
  subst he
  exact ⟨_, rfl, _, _, _, [], _, [], hW', trodAll_mk1 (shut_bool Try.underlying4 _), (trodAll_cons_mk (Below.trod laidOut (by kernel_rfl) (of_decide_eq_true (by kernel_rfl)) k0 bel lt0) trodAll_mk0), rfl, bel.frame _, fun h => by cases h⟩

theorem over : Rows.fnExactCamberGapRow.holds Try.pinned (OpenSpec.ofChange Rows.fnExactCamberGapSpec) :=
  OpenClaim.holds_of_wide 8 Try.f8 rfl rfl rfl rfl rfl rfl rfl ⟨rfl, rfl, rfl, rfl, rfl⟩ rfl rfl rfl rfl rfl (by kernel_rfl) Try.func8 (by kernel_rfl)
    (of_decide_eq_true (by kernel_rfl)) (by unfold Func.isWrapper; first | (rw [if_pos (by decide +kernel)]; kernel_rfl) | (rw [if_neg (by decide +kernel)]; exact ⟨rfl, rfl⟩))
    (fun os started H enc _ => lifted os started H enc)

/-- THE STATEMENT. -/
theorem proved : Rows.FnExactCamberGapSaid := over
#print axioms proved
end Go.Proofs.Ytdbgcchnaielmaa.lawCamberGap
