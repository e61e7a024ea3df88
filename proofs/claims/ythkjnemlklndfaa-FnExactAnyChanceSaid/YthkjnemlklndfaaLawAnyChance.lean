/- The program's AnyChance returns what the reference's returns, for all arguments. No condition. -/
import Derived.Test.YthkjnemlklndfaaRows
import Derived.Test.YthkjnemlklndfaaWaysFrom
import Derived.OpenShut
import Derived.ChangeOld
import Derived.Lib.SmallJoins
namespace Go.Proofs.Ythkjnemlklndfaa.lawAnyChance
open Go.ChangeShapes Go.WideShapes Go.ChangeAt Go.RowKit
set_option linter.unusedVariables false

theorem sure_of {zs : List Int} (h : expertsB zs = true) : (1 ≤ zs.length ∧ zs.length ≤ 5) ∧ Sure zs := by
  unfold expertsB at h
  rw [Bool.and_eq_true] at h
  have h2 := inB_true h.2
  exact ⟨by omega, fun j hj => inB_true (all_nth h.1 hj)⟩
def fF (zs : List Int) : Int × Int := if expertsB zs then (partF (fromF zs 1) zs.length, 0) else (0, 1)
theorem i_c (a : Option Addr) (cap : Nat) (zs : List Int) (w : World) (h : Nums .i64 w a zs) (hn : zs.length ≤ 1048576) :
    Calls Try.prog 34 #[.slice a zs.length cap] w fun e w' => e = .returned (.tuple #[.int .i64 (fF zs).1, .int .i64 (fF zs).2]) ∧ Below w.heap.size w w' := by
  cases hv : expertsB zs
  · go_enter Try.func34, Try.ntmps34
    go_wp2_with fail
    refine call_same (validExperts_c _ _ zs _ h hn) ?_
    rw [hv]
    go_wp2
    go_ret2
    exact ⟨by simp [fF, hv], Below.refl _ _⟩
  · have hs := sure_of hv
    have HF := Lib.hid (show fF zs = (partF (fromF zs 1) zs.length, 0) by simp [fF, hv])
    have hb := fromF_bd hs.2 (l := 1) (by omega)
    have hal := allF_le zs.length hs.1.2
    go_enter Try.func34, Try.ntmps34
    go_wp2_with fail
    refine call_same (validExperts_c _ _ zs _ h hn) ?_
    rw [hv]
    go_wp2_with fail
    refine call_below (waysFrom_c _ _ zs 1 _ h hs.1.2 hs.2 hs.1.1) ?_
    intro w1 hb1
    go_wp2_with fail
    refine call_same (chance_c _ _ _ hb.1 (by omega) hs.1) ?_
    go_wp2
    go_ret2
    exact ⟨by rw [HF.out]; rfl, hb1⟩
theorem s_c (a : Option Addr) (cap : Nat) (zs : List Int) (w : World) (h : Nums .i64 w a zs) (hn : zs.length ≤ 1048576) :
    Calls Try.prog 33 #[.slice a zs.length cap] w fun e w' => e = .returned (.tuple #[.int .i64 (fF zs).1, .int .i64 (fF zs).2]) ∧ Below w.heap.size w w' := by
  cases hv : expertsB zs
  · go_enter Try.func33, Try.ntmps33
    go_wp2_with fail
    refine call_same (l15Ok_c _ _ zs _ h hn) ?_
    rw [hv]
    go_wp2
    go_ret2
    exact ⟨by simp [fF, hv], Below.refl _ _⟩
  · have hs := sure_of hv
    have HF := Lib.hid (show fF zs = (partF (fromF zs 1) zs.length, 0) by simp [fF, hv])
    have hb := fromF_bd hs.2 (l := 1) (by omega)
    have hal := allF_le zs.length hs.1.2
    have hE : allF zs.length - wayF zs zs.length 0 = fromF zs 1 := by unfold fromF; rw [waySum_all]; simp [waySum]
    have hp := allF_pos zs.length
    have HLN := Lib.hid (waysL_len zs zs.length)
    have HN := Lib.hid (waysL_nth (zs := zs) (Nat.zero_le zs.length))
    go_enter Try.func33, Try.ntmps33
    go_wp2_with fail
    refine call_same (l15Ok_c _ _ zs _ h hn) ?_
    rw [hv]
    go_wp2_with fail
    refine call_same (l15All_c _ _ hs.1.2) ?_
    go_wp2_with fail
    refine (l15Ways_c _ _ zs _ h hs.1.2 hs.2).mono ?_
    rintro e w2 ⟨b, rfl, hnu, hb2⟩
    obtain ⟨_, _, e2, _, hc2⟩ := hnu.pos (j := 0) (by rw [HLN.out]; omega)
    obtain ⟨rfl, rfl⟩ : b = _ ∧ 0 = _ := by simpa using e2
    rw [Nat.zero_add, HN.out] at hc2
    clear hnu e2
    go_wp2_with fail
    refine call_same (l15Part_c _ _ _ hb.1 (by omega) hs.1) ?_
    go_wp2
    go_ret2
    exact ⟨by rw [HF.out]; rfl, hb2⟩

theorem walk (a0 : Option Addr) (cap0 : Nat) (z0 : List Int) (w : World) (h0 : Nums .i64 w a0 z0) (hm0 : z0.length ≤ maxLen) (_ : ∀ n ∈ z0, (Lit.int .i64 n).wf = true) :
    Calls Try.prog 8 #[.slice a0 z0.length cap0] w fun e w' => e = .returned (.bool true) ∧ Below w.heap.size w w' := by
  unfold maxLen at hm0
  by_cases hn0 : z0.length ≤ 1048576
  rotate_left
  · go_enter Try.func8, Try.ntmps8
    go_wp2
    go_ret
    exact ⟨rfl, Below.refl _ _⟩
  go_enter Try.func8, Try.ntmps8
  go_wp2_with fail
  refine call_pred (toInt64S_c a0 cap0 z0 _ h0 hn0) ?_
  rintro w1 ⟨r1, b1, zz1⟩
  clear zz1
  have H1 := below_next (Below.refl _ _) b1
  have S0_1 := Nums.row r1
  clear r1
  go_wp2_with fail
  refine call_below (s_c _ _ z0 _ S0_1 hn0) ?_
  intro w2 b2
  have H2 := below_next H1 b2
  have S0_2 := S0_1.below b2
  clear S0_1
  clear S0_2
  go_wp2_with fail
  refine call_pred (toInt64S_c a0 cap0 z0 _ (h0.below H2) hn0) ?_
  rintro w3 ⟨r3, b3, zz3⟩
  clear zz3
  have H3 := below_next H2 b3
  have X0_3 := Nums.row r3
  clear r3
  go_wp2_with fail
  refine call_below (i_c _ _ z0 _ X0_3 hn0) ?_
  intro w4 b4
  have H4 := below_next H3 b4
  have X0_4 := X0_3.below b4
  clear X0_3
  go_wp2_with fail
  refine call_pred (toInt64S_c a0 cap0 z0 _ (h0.below H4) hn0) ?_
  rintro w5 ⟨r5, b5, zz5⟩
  clear zz5
  have H5 := below_next H4 b5
  have X0_5 := X0_4.below b5
  clear X0_4
  have Y0_5 := Nums.row r5
  clear r5
  go_wp2_with fail
  refine call_below (eqInt64S_c _ _ _ _ z0 _ X0_5 Y0_5 hn0) ?_
  intro w6 b6
  have H6 := below_next H5 b6
  have X0_6 := X0_5.below b6
  clear X0_5
  have Y0_6 := Y0_5.below b6
  clear Y0_5
  clear X0_6 Y0_6
  go_wp2
  go_ret
  exact ⟨rfl, H6⟩

theorem own : ownKnob Try.prog.godebug = none := by kernel_rfl
theorem laidOut : laidOutB Try.prog = true := by kernel_rfl
set_option maxRecDepth 100000 in
theorem lifted (os : Os) (started : os.Started) (H : Type) (enc : TypeId × Value → H) :
    ReturnsInHanded {} Try.checked os 8 .any (Rows.fnExactAnyChanceSpec.pre6 enc Try.prog Try.f8 Rows.fnExactAnyChanceRow.domain false) (Rows.fnExactAnyChanceSpec.post enc Try.prog Try.f8 false true false false) := by
  refine returnsInHanded_of_change (C := Try.checked) own started (by kernel_rfl) Try.func8
    (ChangeSpec.witness6 (enc := enc) (C := Try.checked) false ⟨#[], #[.slice none 0 0], []⟩ 8 (by kernel_rfl) (by kernel_rfl) (by kernel_rfl) (by kernel_rfl)) ?_
  intro W base args ds gs before hval0 hW hcnd _
  have hval : ∀ (j : Nat) t v, Try.f8.params[j]? = some t → args[j]? = some v → Value.okWide Try.prog W .any base t v := hval0
  have hW' := hW
  obtain ⟨p, q, hA0, hV, rfl, hfz, hnd⟩ := hW
  have hA : DataW.TrodAll enc Try.prog W 0 (fun _ => true) true Try.f8.params.toList args.toList ds p := hA0
  rw [Try.params8] at hA hval
  obtain ⟨v0, vs0, d0, ds0, p0, q0, hargs, rfl, rfl, h0, r0⟩ := trodAll_cons hA
  obtain ⟨rfl, rfl, rfl⟩ := trodAll_nil r0
  obtain rfl : args = #[v0] := by cases args; simp_all
  obtain ⟨rfl, rfl⟩ := trodVars_none hV
  have k0 := h0
  have lt0 : ∀ x ∈ p0, x.block < W.heap.size := by obtain ⟨m, hm⟩ := k0; exact DataW.trod_lt m _ _ _ hm
  obtain ⟨a0, len0, cap0, rfl⟩ := okWide_slice Try.underlying34 (hval 0 34 v0 rfl rfl)
  obtain ⟨z0, rfl, w0, m0, f0⟩ : ∃ zs : List Int, zs.length = len0 ∧ Nums .i64 W a0 zs ∧ zs.length ≤ maxLen ∧ ∀ n ∈ zs, (Lit.int .i64 n).wf = true := by
    obtain ⟨fuel, hf⟩ := h0
    exact nums_open Try.underlying34 Try.underlying2 (by kernel_rfl) hf
  clear hA0 hval0
  refine (walk a0 cap0 z0 W w0 m0 f0).mono fun e W' ⟨he, bel⟩ => ?_
  subst he
  exact ⟨_, rfl, _, _, _, [], _, [], hW', trodAll_mk1 (shut_bool Try.underlying4 _), (trodAll_cons_mk (Below.trod laidOut (by kernel_rfl) (of_decide_eq_true (by kernel_rfl)) k0 bel lt0) trodAll_mk0), rfl, bel.frame _, fun h => by cases h⟩

theorem over : Rows.fnExactAnyChanceRow.holds Try.pinned (OpenSpec.ofChange Rows.fnExactAnyChanceSpec) :=
  OpenClaim.holds_of_wide 8 Try.f8 rfl rfl rfl rfl rfl rfl rfl ⟨rfl, rfl, rfl, rfl, rfl⟩ rfl rfl rfl rfl rfl (by kernel_rfl) Try.func8 (by kernel_rfl)
    (of_decide_eq_true (by kernel_rfl)) (by unfold Func.isWrapper; first | (rw [if_pos (by decide +kernel)]; kernel_rfl) | (rw [if_neg (by decide +kernel)]; exact ⟨rfl, rfl⟩))
    (fun os started H enc _ => lifted os started H enc)

/-- THE STATEMENT. -/
theorem proved : Rows.FnExactAnyChanceSaid := over
#print axioms proved
end Go.Proofs.Ythkjnemlklndfaa.lawAnyChance
