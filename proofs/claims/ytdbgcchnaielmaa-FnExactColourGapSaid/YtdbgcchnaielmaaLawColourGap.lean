/- The program's ColourGap returns what the reference's returns, for all arguments. No condition. -/
import Derived.Test.YtdbgcchnaielmaaRows
import Derived.Test.YtdbgcchnaielmaaColour
import Derived.OpenShut
import Derived.ChangeOld
import Derived.Lib.SmallJoins
namespace Go.Proofs.Ytdbgcchnaielmaa.lawColourGap
open Go.ChangeShapes Go.WideShapes Go.ChangeAt Go.RowKit
set_option linter.unusedVariables false

def fF (xs ys : List Int) : Int × Int := if colourB xs && colourB ys then (gapTo xs ys xs.length, 0) else (0, 1)

theorem i_c (a : Option Addr) (ca : Nat) (xs : List Int) (b : Option Addr) (cb : Nat) (ys : List Int) (w : World) (h1 : Nums .i64 w a xs) (hn1 : xs.length ≤ 1048576) (h2 : Nums .i64 w b ys) (hn2 : ys.length ≤ 1048576) :
    Calls Try.prog 34 #[.slice a xs.length ca, .slice b ys.length cb] w fun e w' => e = .returned (.tuple #[.int .i64 (fF xs ys).1, .int .i64 (fF xs ys).2]) ∧ Below w.heap.size w w' := by
  rcases and2 (colourB xs) (colourB ys) with hx | ⟨hx, hy⟩ | ⟨hx, hy⟩
  · go_enter Try.func34, Try.ntmps34
    go_wp2_with fail
    refine call_same (isColour_c _ _ xs _ h1 hn1) ?_
    go_wp2
    go_ret2
    exact ⟨by simp [fF, hx], Below.refl _ _⟩
  · go_enter Try.func34, Try.ntmps34
    go_wp2_with fail
    refine call_same (isColour_c _ _ xs _ h1 hn1) ?_
    go_wp2_with fail
    refine call_same (isColour_c _ _ ys _ h2 hn2) ?_
    go_wp2
    go_ret2
    exact ⟨by simp [fF, hx, hy], Below.refl _ _⟩
  · go_enter Try.func34, Try.ntmps34
    go_wp2_with fail
    refine call_same (isColour_c _ _ xs _ h1 hn1) ?_
    go_wp2_with fail
    refine call_same (isColour_c _ _ ys _ h2 hn2) ?_
    go_wp2_with fail
    refine call_below (colourGap_c _ _ _ _ xs ys _ h1 h2 hx hy) ?_
    intro w1 hb1
    go_wp2
    go_ret2
    exact ⟨by simp [fF, hx, hy], hb1⟩

theorem s_c (a : Option Addr) (ca : Nat) (xs : List Int) (b : Option Addr) (cb : Nat) (ys : List Int) (w : World) (h1 : Nums .i64 w a xs) (hn1 : xs.length ≤ 1048576) (h2 : Nums .i64 w b ys) (hn2 : ys.length ≤ 1048576) :
    Calls Try.prog 33 #[.slice a xs.length ca, .slice b ys.length cb] w fun e w' => e = .returned (.tuple #[.int .i64 (fF xs ys).1, .int .i64 (fF xs ys).2]) ∧ Below w.heap.size w w' := by
  rcases and2 (colourB xs) (colourB ys) with hx | ⟨hx, hy⟩ | ⟨hx, hy⟩
  · go_enter Try.func33, Try.ntmps33
    go_wp2_with fail
    refine call_same (l13Colour_c _ _ xs _ h1 hn1) ?_
    go_wp2
    go_ret2
    exact ⟨by simp [fF, hx], Below.refl _ _⟩
  · go_enter Try.func33, Try.ntmps33
    go_wp2_with fail
    refine call_same (l13Colour_c _ _ xs _ h1 hn1) ?_
    go_wp2_with fail
    refine call_same (l13Colour_c _ _ ys _ h2 hn2) ?_
    go_wp2
    go_ret2
    exact ⟨by simp [fF, hx, hy], Below.refl _ _⟩
  · go_enter Try.func33, Try.ntmps33
    go_wp2_with fail
    refine call_same (l13Colour_c _ _ xs _ h1 hn1) ?_
    go_wp2_with fail
    refine call_same (l13Colour_c _ _ ys _ h2 hn2) ?_
    go_wp2_with fail
    refine call_below (l13Gap_c _ _ _ _ xs ys _ h1 h2 hx hy) ?_
    intro w1 hb1
    go_wp2
    go_ret2
    exact ⟨by simp [fF, hx, hy], hb1⟩

theorem walk (a0 : Option Addr) (cap0 : Nat) (z0 : List Int) (a1 : Option Addr) (cap1 : Nat) (z1 : List Int) (w : World) (h0 : Nums .i64 w a0 z0) (hm0 : z0.length ≤ maxLen) (_ : ∀ n ∈ z0, (Lit.int .i64 n).wf = true) (h1 : Nums .i64 w a1 z1) (hm1 : z1.length ≤ maxLen) (_ : ∀ n ∈ z1, (Lit.int .i64 n).wf = true) :
    Calls Try.prog 10 #[.slice a0 z0.length cap0, .slice a1 z1.length cap1] w fun e w' => e = .returned (.bool true) ∧ Below w.heap.size w w' := by
  unfold maxLen at hm0
  unfold maxLen at hm1
  by_cases hn0 : z0.length ≤ 1048576
  rotate_left
  · go_enter Try.func10, Try.ntmps10
    go_wp2
    go_ret
    exact ⟨rfl, Below.refl _ _⟩
  by_cases hn1 : z1.length ≤ 1048576
  rotate_left
  · go_enter Try.func10, Try.ntmps10
    go_wp2
    go_ret
    exact ⟨rfl, Below.refl _ _⟩
  go_enter Try.func10, Try.ntmps10
  go_wp2_with fail
  refine call_pred (toInt64S_c a0 cap0 z0 _ h0 hn0) ?_
  rintro w1 ⟨r1, b1⟩
  have H1 := below_next (Below.refl _ _) b1
  have S0_1 := Nums.row r1
  clear r1
  go_wp2_with fail
  refine call_pred (toInt64S_c a1 cap1 z1 _ (h1.below H1) hn1) ?_
  rintro w2 ⟨r2, b2⟩
  have H2 := below_next H1 b2
  have S0_2 := S0_1.below b2
  clear S0_1
  have S1_2 := Nums.row r2
  clear r2
  go_wp2_with fail
  refine call_below (s_c _ _ z0 _ _ z1 _ S0_2 hn0 S1_2 hn1) ?_
  intro w3 b3
  have H3 := below_next H2 b3
  have S0_3 := S0_2.below b3
  clear S0_2
  have S1_3 := S1_2.below b3
  clear S1_2
  clear S0_3 S1_3
  go_wp2_with fail
  refine call_pred (toInt64S_c a0 cap0 z0 _ (h0.below H3) hn0) ?_
  rintro w4 ⟨r4, b4⟩
  have H4 := below_next H3 b4
  have X0_4 := Nums.row r4
  clear r4
  go_wp2_with fail
  refine call_pred (toInt64S_c a1 cap1 z1 _ (h1.below H4) hn1) ?_
  rintro w5 ⟨r5, b5⟩
  have H5 := below_next H4 b5
  have X0_5 := X0_4.below b5
  clear X0_4
  have X1_5 := Nums.row r5
  clear r5
  go_wp2_with fail
  refine call_below (i_c _ _ z0 _ _ z1 _ X0_5 hn0 X1_5 hn1) ?_
  intro w6 b6
  have H6 := below_next H5 b6
  have X0_6 := X0_5.below b6
  clear X0_5
  have X1_6 := X1_5.below b6
  clear X1_5
  go_wp2_with fail
  refine call_pred (toInt64S_c a0 cap0 z0 _ (h0.below H6) hn0) ?_
  rintro w7 ⟨r7, b7⟩
  have H7 := below_next H6 b7
  have X0_7 := X0_6.below b7
  clear X0_6
  have X1_7 := X1_6.below b7
  clear X1_6
  have Y0_7 := Nums.row r7
  clear r7
  go_wp2_with fail
  refine call_below (eqInt64S_c _ _ _ _ z0 _ X0_7 Y0_7 hn0) ?_
  intro w8 b8
  have H8 := below_next H7 b8
  have X0_8 := X0_7.below b8
  clear X0_7
  have X1_8 := X1_7.below b8
  clear X1_7
  have Y0_8 := Y0_7.below b8
  clear Y0_7
  clear X0_8 Y0_8
  go_wp2_with fail
  refine call_pred (toInt64S_c a1 cap1 z1 _ (h1.below H8) hn1) ?_
  rintro w9 ⟨r9, b9⟩
  have H9 := below_next H8 b9
  have X1_9 := X1_8.below b9
  clear X1_8
  have Y1_9 := Nums.row r9
  clear r9
  go_wp2_with fail
  refine call_below (eqInt64S_c _ _ _ _ z1 _ X1_9 Y1_9 hn1) ?_
  intro w10 b10
  have H10 := below_next H9 b10
  have X1_10 := X1_9.below b10
  clear X1_9
  have Y1_10 := Y1_9.below b10
  clear Y1_9
  clear X1_10 Y1_10
  go_wp2
  go_ret
  exact ⟨rfl, H10⟩

theorem own : ownKnob Try.prog.godebug = none := by kernel_rfl
theorem laidOut : laidOutB Try.prog = true := by kernel_rfl
set_option maxRecDepth 100000 in
theorem lifted (os : Os) (started : os.Started) (H : Type) (enc : TypeId × Value → H) :
    ReturnsInHanded {} Try.checked os 10 .any (Rows.fnExactColourGapSpec.pre6 enc Try.prog Try.f10 Rows.fnExactColourGapRow.domain false) (Rows.fnExactColourGapSpec.post enc Try.prog Try.f10 false true false false) := by
  refine returnsInHanded_of_change (C := Try.checked) own started (by kernel_rfl) Try.func10
    (ChangeSpec.witness6 (enc := enc) (C := Try.checked) false ⟨#[], #[.slice none 0 0, .slice none 0 0], []⟩ 8 (by kernel_rfl) (by kernel_rfl) (by kernel_rfl) (by kernel_rfl)) ?_
  intro W base args ds gs before hval0 hW hcnd _
  have hval : ∀ (j : Nat) t v, Try.f10.params[j]? = some t → args[j]? = some v → Value.okWide Try.prog W .any base t v := hval0
  have hW' := hW
  obtain ⟨p, q, hA0, hV, rfl, hfz, hnd⟩ := hW
  have hA : DataW.TrodAll enc Try.prog W 0 (fun _ => true) true Try.f10.params.toList args.toList ds p := hA0
  rw [Try.params10] at hA hval
  obtain ⟨v0, vs0, d0, ds0, p0, q0, hargs, rfl, rfl, h0, r0⟩ := trodAll_cons hA
  obtain ⟨v1, vs1, d1, ds1, p1, q1, rfl, rfl, rfl, h1, r1⟩ := trodAll_cons r0
  obtain ⟨rfl, rfl, rfl⟩ := trodAll_nil r1
  obtain rfl : args = #[v0, v1] := by cases args; simp_all
  obtain ⟨rfl, rfl⟩ := trodVars_none hV
  have k0 := h0
  have lt0 : ∀ x ∈ p0, x.block < W.heap.size := by obtain ⟨m, hm⟩ := k0; exact DataW.trod_lt m _ _ _ hm
  obtain ⟨a0, len0, cap0, rfl⟩ := okWide_slice Try.underlying39 (hval 0 39 v0 rfl rfl)
  obtain ⟨z0, rfl, w0, m0, f0⟩ : ∃ zs : List Int, zs.length = len0 ∧ Nums .i64 W a0 zs ∧ zs.length ≤ maxLen ∧ ∀ n ∈ zs, (Lit.int .i64 n).wf = true := by
    obtain ⟨fuel, hf⟩ := h0
    exact nums_open Try.underlying39 Try.underlying2 (by kernel_rfl) hf
  have k1 := h1
  have lt1 : ∀ x ∈ p1, x.block < W.heap.size := by obtain ⟨m, hm⟩ := k1; exact DataW.trod_lt m _ _ _ hm
  obtain ⟨a1, len1, cap1, rfl⟩ := okWide_slice Try.underlying39 (hval 1 39 v1 rfl rfl)
  obtain ⟨z1, rfl, w1, m1, f1⟩ : ∃ zs : List Int, zs.length = len1 ∧ Nums .i64 W a1 zs ∧ zs.length ≤ maxLen ∧ ∀ n ∈ zs, (Lit.int .i64 n).wf = true := by
    obtain ⟨fuel, hf⟩ := h1
    exact nums_open Try.underlying39 Try.underlying2 (by kernel_rfl) hf
  clear hA0 hval0
  refine (walk a0 cap0 z0 a1 cap1 z1 W w0 m0 f0 w1 m1 f1).mono fun e W' ⟨he, bel⟩ => ?_
  subst he
  exact ⟨_, rfl, _, _, _, [], _, [], hW', trodAll_mk1 (shut_bool Try.underlying4 _), (trodAll_cons_mk (Below.trod laidOut (by kernel_rfl) (of_decide_eq_true (by kernel_rfl)) k0 bel lt0) (trodAll_cons_mk (Below.trod laidOut (by kernel_rfl) (of_decide_eq_true (by kernel_rfl)) k1 bel lt1) trodAll_mk0)), rfl, bel.frame _, fun h => by cases h⟩

theorem over : Rows.fnExactColourGapRow.holds Try.pinned (OpenSpec.ofChange Rows.fnExactColourGapSpec) :=
  OpenClaim.holds_of_wide 10 Try.f10 rfl rfl rfl rfl rfl rfl rfl ⟨rfl, rfl, rfl, rfl, rfl⟩ rfl rfl rfl rfl rfl (by kernel_rfl) Try.func10 (by kernel_rfl)
    (of_decide_eq_true (by kernel_rfl)) (by unfold Func.isWrapper; first | (rw [if_pos (by decide +kernel)]; kernel_rfl) | (rw [if_neg (by decide +kernel)]; exact ⟨rfl, rfl⟩))
    (fun os started H enc _ => lifted os started H enc)

/-- THE STATEMENT. -/
theorem proved : Rows.FnExactColourGapSaid := over
#print axioms proved
end Go.Proofs.Ytdbgcchnaielmaa.lawColourGap
