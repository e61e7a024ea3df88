/- The program's MajorityWays returns what the reference's returns, for all arguments. No condition. -/
import Derived.Test.YthkjnemlklndfaaRows
import Derived.Test.YthkjnemlklndfaaWaysFrom
import Derived.OpenShut
import Derived.ChangeOld
import Derived.Lib.SmallJoins
namespace Go.Proofs.Ythkjnemlklndfaa.lawMajorityWays
open Go.ChangeShapes Go.WideShapes Go.ChangeAt Go.RowKit
set_option linter.unusedVariables false

theorem sure_of {zs : List Int} (h : expertsB zs = true) : (1 ≤ zs.length ∧ zs.length ≤ 5) ∧ Sure zs := by
  unfold expertsB at h
  rw [Bool.and_eq_true] at h
  have h2 := inB_true h.2
  exact ⟨by omega, fun j hj => inB_true (all_nth h.1 hj)⟩
def lF (zs : List Int) : Nat := zs.length / 2 + 1
def fF (zs : List Int) : Int × Int × Int := if expertsB zs then (fromF zs (lF zs), allF zs.length, 0) else (0, 0, 1)
theorem majority_c (a : Option Addr) (cap : Nat) (zs : List Int) (w : World) (h : Nums .i64 w a zs) (hn : 1 ≤ zs.length ∧ zs.length ≤ 5) (hs : Sure zs) :
    Calls Try.prog 79 #[.slice a zs.length cap] w fun e w' => e = .returned (.int .i64 (fromF zs (lF zs))) ∧ Below w.heap.size w w' := by
  have hl : ((zs.length : Int).tdiv 2) + 1 = (lF zs : Nat) := by unfold lF; rw [Int.tdiv_eq_ediv_of_nonneg (by omega)]; omega
  have hw := IntWalk.wrap64_in ((zs.length : Int).tdiv 2) (by rw [Int.tdiv_eq_ediv_of_nonneg (by omega)]; omega)
  have hl2 : (zs.length : Int) / 2 + 1 = (lF zs : Nat) := by unfold lF; omega
  have hle : lF zs ≤ zs.length := by unfold lF; omega
  go_enter Try.func79, Try.ntmps79
  go_wp2_with (go_at_call 81; refine call_below (waysFrom_c _ _ zs (lF zs) _ h hn.2 hs hle) ?_; intro w1 hb1)
  go_ret
  exact ⟨rfl, hb1⟩
theorem i_c (a : Option Addr) (cap : Nat) (zs : List Int) (w : World) (h : Nums .i64 w a zs) (hn : zs.length ≤ 1048576) :
    Calls Try.prog 32 #[.slice a zs.length cap] w fun e w' => e = .returned (.tuple #[.int .i64 (fF zs).1, .int .i64 (fF zs).2.1, .int .i64 (fF zs).2.2]) ∧ Below w.heap.size w w' := by
  cases hv : expertsB zs
  · go_enter Try.func32, Try.ntmps32
    go_wp2_with fail
    refine call_same (validExperts_c _ _ zs _ h hn) ?_
    rw [hv]
    go_wp2
    go_ret3
    exact ⟨by simp [fF, hv], Below.refl _ _⟩
  · have hs := sure_of hv
    have HF := Lib.hid (show fF zs = (fromF zs (lF zs), allF zs.length, 0) by simp [fF, hv])
    go_enter Try.func32, Try.ntmps32
    go_wp2_with fail
    refine call_same (validExperts_c _ _ zs _ h hn) ?_
    rw [hv]
    go_wp2_with fail
    refine call_below (majority_c _ _ zs _ h hs.1 hs.2) ?_
    intro w1 hb1
    go_wp2_with fail
    refine call_same (allWays_c _ _ hs.1.2) ?_
    go_wp2
    go_ret3
    exact ⟨by rw [HF.out]; rfl, hb1⟩
theorem l15Most_c (a : Option Addr) (cap : Nat) (zs : List Int) (w : World) (h : Nums .i64 w a zs) (hn : 1 ≤ zs.length ∧ zs.length ≤ 5) (hs : Sure zs) :
    Calls Try.prog 77 #[.slice a zs.length cap] w fun e w' => e = .returned (.int .i64 (fromF zs (lF zs))) ∧ Below w.heap.size w w' := by
  have HS := Lib.hid (fun m (hm : m ≤ zs.length + 1) => waySum_bd hs (Nat.le_refl zs.length) hm)
  have HM := Lib.hid (fun m n (hm : m ≤ n) => waySum_mono hs (Nat.le_refl zs.length) (m := m) (n := n) hm)
  have hal := allF_le zs.length hn.2
  have HN := Lib.hid (fun k (hk : k ≤ zs.length) => waysL_nth (zs := zs) hk)
  have HLN := Lib.hid (waysL_len zs zs.length)
  have hl : 2 * lF zs > zs.length ∧ 2 * (lF zs - 1) ≤ zs.length ∧ 1 ≤ lF zs ∧ lF zs ≤ zs.length := by unfold lF; omega
  have HF := Lib.hid (show fromF zs (lF zs) = waySum zs zs.length (zs.length + 1) - waySum zs zs.length (lF zs) from rfl)
  generalize lF zs = l at hl HF ⊢
  go_enter Try.func77, Try.ntmps77
  go_wp2_with fail
  refine (l15Ways_c _ _ zs _ h hn.2 hs).mono ?_
  rintro e w2 ⟨b, rfl, hnu, hb2⟩
  have HNU := Lib.hid hnu
  clear hnu h
  go_wp2
  go_loop [4, 5] (fun s i => ∃ k : Nat, k ≤ zs.length + 1 ∧ i = .int .i64 k ∧ s = .int .i64 (if l ≤ k then waySum zs zs.length k - waySum zs zs.length l else 0)) (fun _ i => zs.length + 1 - (intOf i).toNat)
  case atStart => exact ⟨0, Nat.zero_le _, rfl, by rw [if_neg (by omega)]⟩
  case round =>
    obtain ⟨k, hk, rfl, rfl⟩ := hrel
    by_cases hct : k < zs.length + 1
    · by_cases hlk : l ≤ k
      · have h1 := HS.out k hk
        have h2 := HS.out l (by omega)
        have h3 := HM.out l k hlk
        have h4 := HS.out (k + 1) (by omega)
        have h5 : waySum zs zs.length (k + 1) = waySum zs zs.length k + wayF zs zs.length k := rfl
        have HE := Lib.hid h5
        have h6 := HM.out l (k + 1) (by omega)
        obtain ⟨_, _, e2, _, hc2⟩ := HNU.out.pos (j := k) (by rw [HLN.out]; omega)
        obtain ⟨rfl, rfl⟩ : b = _ ∧ 0 = _ := by simpa using e2
        rw [Nat.zero_add, HN.out k (by omega)] at hc2
        rw [h5] at h4 h6
        rw [if_pos hlk]
        have hlk1 : l ≤ k + 1 := by omega
        clear h5 e2
        go_wp2
        go_round
        case rel => exact ⟨k + 1, by omega, by go_num, by rw [if_pos hlk1, HE.out]; congr 1; omega⟩
        case measure => simp [intOf]; omega
      · rw [if_neg hlk]
        have HZ := Lib.hid (show (if l ≤ k + 1 then waySum zs zs.length (k + 1) - waySum zs zs.length l else 0) = 0 by
          split
          · rw [show k + 1 = l by omega, Int.sub_self]
          · rfl)
        go_wp2
        go_round
        case rel => exact ⟨k + 1, by omega, by go_num, by rw [HZ.out]⟩
        case measure => simp [intOf]; omega
    · obtain rfl : k = zs.length + 1 := by omega
      rw [if_pos (by omega)]
      go_wp2
      go_ret
      exact ⟨by rw [HF.out]; rfl, hb2⟩
theorem s_c (a : Option Addr) (cap : Nat) (zs : List Int) (w : World) (h : Nums .i64 w a zs) (hn : zs.length ≤ 1048576) :
    Calls Try.prog 31 #[.slice a zs.length cap] w fun e w' => e = .returned (.tuple #[.int .i64 (fF zs).1, .int .i64 (fF zs).2.1, .int .i64 (fF zs).2.2]) ∧ Below w.heap.size w w' := by
  cases hv : expertsB zs
  · go_enter Try.func31, Try.ntmps31
    go_wp2_with fail
    refine call_same (l15Ok_c _ _ zs _ h hn) ?_
    rw [hv]
    go_wp2
    go_ret3
    exact ⟨by simp [fF, hv], Below.refl _ _⟩
  · have hs := sure_of hv
    have HF := Lib.hid (show fF zs = (fromF zs (lF zs), allF zs.length, 0) by simp [fF, hv])
    go_enter Try.func31, Try.ntmps31
    go_wp2_with fail
    refine call_same (l15Ok_c _ _ zs _ h hn) ?_
    rw [hv]
    go_wp2_with fail
    refine call_below (l15Most_c _ _ zs _ h hs.1 hs.2) ?_
    intro w1 hb1
    go_wp2_with fail
    refine call_same (l15All_c _ _ hs.1.2) ?_
    go_wp2
    go_ret3
    exact ⟨by rw [HF.out]; rfl, hb1⟩

theorem walk (a0 : Option Addr) (cap0 : Nat) (z0 : List Int) (w : World) (h0 : Nums .i64 w a0 z0) (hm0 : z0.length ≤ maxLen) (_ : ∀ n ∈ z0, (Lit.int .i64 n).wf = true) :
    Calls Try.prog 7 #[.slice a0 z0.length cap0] w fun e w' => e = .returned (.bool true) ∧ Below w.heap.size w w' := by
  unfold maxLen at hm0
  by_cases hn0 : z0.length ≤ 1048576
  rotate_left
  · go_enter Try.func7, Try.ntmps7
    go_wp2
    go_ret
    exact ⟨rfl, Below.refl _ _⟩
  go_enter Try.func7, Try.ntmps7
  go_wp2_with fail
  refine call_pred (toInt64S_c a0 cap0 z0 _ h0 hn0) ?_
  rintro w1 ⟨r1, b1, zz1⟩
  clear zz1
  have H1 := below_next (Below.refl _ _) b1
  have S0_1 := Nums.row r1
  clear r1
  go_wp2_with fail
  refine call_below (s_c _ _ z0 _ S0_1 hn0) ?_
  intro w2 b2
  have H2 := below_next H1 b2
  have S0_2 := S0_1.below b2
  clear S0_1
  clear S0_2
  go_wp2_with fail
  refine call_pred (toInt64S_c a0 cap0 z0 _ (h0.below H2) hn0) ?_
  rintro w3 ⟨r3, b3, zz3⟩
  clear zz3
  have H3 := below_next H2 b3
  have X0_3 := Nums.row r3
  clear r3
  go_wp2_with fail
  refine call_below (i_c _ _ z0 _ X0_3 hn0) ?_
  intro w4 b4
  have H4 := below_next H3 b4
  have X0_4 := X0_3.below b4
  clear X0_3
  go_wp2_with fail
  refine call_pred (toInt64S_c a0 cap0 z0 _ (h0.below H4) hn0) ?_
  rintro w5 ⟨r5, b5, zz5⟩
  clear zz5
  have H5 := below_next H4 b5
  have X0_5 := X0_4.below b5
  clear X0_4
  have Y0_5 := Nums.row r5
  clear r5
  go_wp2_with fail
  refine call_below (eqInt64S_c _ _ _ _ z0 _ X0_5 Y0_5 hn0) ?_
  intro w6 b6
  have H6 := below_next H5 b6
  have X0_6 := X0_5.below b6
  clear X0_5
  have Y0_6 := Y0_5.below b6
  clear Y0_5
  clear X0_6 Y0_6
  go_wp2
  go_ret
  exact ⟨rfl, H6⟩

theorem own : ownKnob Try.prog.godebug = none := by kernel_rfl
theorem laidOut : laidOutB Try.prog = true := by kernel_rfl
set_option maxRecDepth 100000 in
theorem lifted (os : Os) (started : os.Started) (H : Type) (enc : TypeId × Value → H) :
    ReturnsInHanded {} Try.checked os 7 .any (Rows.fnExactMajorityWaysSpec.pre6 enc Try.prog Try.f7 Rows.fnExactMajorityWaysRow.domain false) (Rows.fnExactMajorityWaysSpec.post enc Try.prog Try.f7 false true false false) := by
  refine returnsInHanded_of_change (C := Try.checked) own started (by kernel_rfl) Try.func7
    (ChangeSpec.witness6 (enc := enc) (C := Try.checked) false ⟨#[], #[.slice none 0 0], []⟩ 8 (by kernel_rfl) (by kernel_rfl) (by kernel_rfl) (by kernel_rfl)) ?_
  intro W base args ds gs before hval0 hW hcnd _
  have hval : ∀ (j : Nat) t v, Try.f7.params[j]? = some t → args[j]? = some v → Value.okWide Try.prog W .any base t v := hval0
  have hW' := hW
  obtain ⟨p, q, hA0, hV, rfl, hfz, hnd⟩ := hW
  have hA : DataW.TrodAll enc Try.prog W 0 (fun _ => true) true Try.f7.params.toList args.toList ds p := hA0
  rw [Try.params7] at hA hval
  obtain ⟨v0, vs0, d0, ds0, p0, q0, hargs, rfl, rfl, h0, r0⟩ := trodAll_cons hA
  obtain ⟨rfl, rfl, rfl⟩ := trodAll_nil r0
  obtain rfl : args = #[v0] := by cases args; simp_all
  obtain ⟨rfl, rfl⟩ := trodVars_none hV
  have k0 := h0
  have lt0 : ∀ x ∈ p0, x.block < W.heap.size := by obtain ⟨m, hm⟩ := k0; exact DataW.trod_lt m _ _ _ hm
  obtain ⟨a0, len0, cap0, rfl⟩ := okWide_slice Try.underlying34 (hval 0 34 v0 rfl rfl)
  obtain ⟨z0, rfl, w0, m0, f0⟩ : ∃ zs : List Int, zs.length = len0 ∧ Nums .i64 W a0 zs ∧ zs.length ≤ maxLen ∧ ∀ n ∈ zs, (Lit.int .i64 n).wf = true := by
    obtain ⟨fuel, hf⟩ := h0
    exact nums_open Try.underlying34 Try.underlying2 (by kernel_rfl) hf
  clear hA0 hval0
  refine (walk a0 cap0 z0 W w0 m0 f0).mono fun e W' ⟨he, bel⟩ => ?_
  subst he
  exact ⟨_, rfl, _, _, _, [], _, [], hW', trodAll_mk1 (shut_bool Try.underlying4 _), (trodAll_cons_mk (Below.trod laidOut (by kernel_rfl) (of_decide_eq_true (by kernel_rfl)) k0 bel lt0) trodAll_mk0), rfl, bel.frame _, fun h => by cases h⟩

theorem over : Rows.fnExactMajorityWaysRow.holds Try.pinned (OpenSpec.ofChange Rows.fnExactMajorityWaysSpec) :=
  OpenClaim.holds_of_wide 7 Try.f7 rfl rfl rfl rfl rfl rfl rfl ⟨rfl, rfl, rfl, rfl, rfl⟩ rfl rfl rfl rfl rfl (by kernel_rfl) Try.func7 (by kernel_rfl)
    (of_decide_eq_true (by kernel_rfl)) (by unfold Func.isWrapper; first | (rw [if_pos (by decide +kernel)]; kernel_rfl) | (rw [if_neg (by decide +kernel)]; exact ⟨rfl, rfl⟩))
    (fun os started H enc _ => lifted os started H enc)

/-- THE STATEMENT. -/
theorem proved : Rows.FnExactMajorityWaysSaid := over
#print axioms proved
end Go.Proofs.Ythkjnemlklndfaa.lawMajorityWays
