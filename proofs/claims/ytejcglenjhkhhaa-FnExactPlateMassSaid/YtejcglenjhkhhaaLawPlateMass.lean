/- The program's PlateMass returns what the reference's returns, for all arguments. No condition. -/
import Derived.Test.YtejcglenjhkhhaaRows
import Derived.Test.YtejcglenjhkhhaaMass
import Derived.OpenShut
import Derived.ChangeOld
import Derived.Lib.SmallJoins
namespace Go.Proofs.Ytejcglenjhkhhaa.lawPlateMass
open Go.ChangeShapes Go.WideShapes Go.ChangeAt Go.RowKit
set_option linter.unusedVariables false

def fF (g : List (List Int)) (c d : Int) : Int × Int := if gridB 1 200 g then (if cellB c d then (massF g c d, 0) else (0, 2)) else (0, 1)
theorem cell_in {c d : Int} (h : cellB c d = true) : (1 ≤ c ∧ c ≤ 10000) ∧ (1 ≤ d ∧ d ≤ 2000) := by
  simp only [cellB, Bool.and_eq_true] at h
  exact ⟨inB_true h.1, inB_true h.2⟩
theorem i_c (a : Option Addr) (cap : Nat) (g : List (List Int)) (c d : Int) (w : World) (h : Grid w a g) (hs : Small g) :
    Calls Try.prog 32 #[.slice a g.length cap, .int .i64 c, .int .i64 d] w fun e w' => e = .returned (.tuple #[.int .i64 (fF g c d).1, .int .i64 (fF g c d).2]) ∧ Below w.heap.size w w' := by
  cases hg : gridB 1 200 g
  · go_enter Try.func32, Try.ntmps32
    go_wp2_with fail
    refine call_same (validPlate_c _ _ g _ h hs) ?_
    rw [hg]
    go_wp2
    go_ret2
    exact ⟨by simp [fF, hg], Below.refl _ _⟩
  cases hc : cellB c d
  · go_enter Try.func32, Try.ntmps32
    go_wp2_with fail
    refine call_same (validPlate_c _ _ g _ h hs) ?_
    rw [hg]
    go_wp2_with fail
    refine call_same (isCell_c _ _ _) ?_
    rw [hc]
    go_wp2
    go_ret2
    exact ⟨by simp [fF, hg, hc], Below.refl _ _⟩
  · have hi := cell_in hc
    go_enter Try.func32, Try.ntmps32
    go_wp2_with fail
    refine call_same (validPlate_c _ _ g _ h hs) ?_
    rw [hg]
    go_wp2_with fail
    refine call_same (isCell_c _ _ _) ?_
    rw [hc]
    go_wp2_with fail
    refine call_below (plateMass_c _ _ g _ _ _ h hs (gridB_true hg) hi.1 hi.2) ?_
    intro w2 hb2
    go_wp2
    go_ret2
    exact ⟨by simp [fF, hg, hc], hb2⟩
theorem s_c (a : Option Addr) (cap : Nat) (g : List (List Int)) (c d : Int) (w : World) (h : Grid w a g) (hs : Small g) :
    Calls Try.prog 31 #[.slice a g.length cap, .int .i64 c, .int .i64 d] w fun e w' => e = .returned (.tuple #[.int .i64 (fF g c d).1, .int .i64 (fF g c d).2]) ∧ Below w.heap.size w w' := by
  cases hg : gridB 1 200 g
  · go_enter Try.func31, Try.ntmps31
    go_wp2_with fail
    refine call_below (l08Ok_c _ _ g _ h hs) ?_
    rw [hg]
    intro w1 hb1
    go_wp2
    go_ret2
    exact ⟨by simp [fF, hg], hb1⟩
  cases hc : cellB c d
  · go_enter Try.func31, Try.ntmps31
    go_wp2_with fail
    refine call_below (l08Ok_c _ _ g _ h hs) ?_
    rw [hg]
    intro w1 hb1
    go_wp2_with fail
    refine call_same (l08Density_c _ _ _) ?_
    rw [hc]
    go_wp2
    go_ret2
    exact ⟨by simp [fF, hg, hc], hb1⟩
  · have hi := cell_in hc
    go_enter Try.func31, Try.ntmps31
    go_wp2_with fail
    refine call_below (l08Ok_c _ _ g _ h hs) ?_
    rw [hg]
    intro w1 hb1
    go_wp2_with fail
    refine call_same (l08Density_c _ _ _) ?_
    rw [hc]
    go_wp2_with fail
    refine call_same (l08Mass_c _ _ g _ _ _ (h.below hb1) hs (gridB_true hg) hi.1 hi.2) ?_
    go_wp2
    go_ret2
    exact ⟨by simp [fF, hg, hc], hb1⟩
theorem walk (a0 : Option Addr) (cap0 : Nat) (z0 : List (List Int)) (m1 : Int) (m2 : Int) (w : World) (h0 : Grid w a0 z0) (hm0 : z0.length ≤ maxLen) (hr0 : ∀ j, j < z0.length → (nthL z0 j).length ≤ maxLen) (_ : (Lit.int .i64 m1).wf = true) (_ : (Lit.int .i64 m2).wf = true) :
    Calls Try.prog 7 #[.slice a0 z0.length cap0, .int .i64 m1, .int .i64 m2] w fun e w' => e = .returned (.bool true) ∧ Below w.heap.size w w' := by
  by_cases hn0 : ((z0.length + sumL z0 z0.length : Nat) : Int) ≤ 1048576
  rotate_left
  · have HN0 := Lib.hid hn0
    clear hn0
    go_enter Try.func7, Try.ntmps7
    go_wp2_with fail
    refine call_same (szInt64SS_c a0 cap0 z0 _ _ h0 hm0 hr0 ?_ ?_) ?_
    ·  omega
    ·  omega
    rw [szF_no]
    rotate_left
    · have := HN0.out; omega
    go_wp2
    go_ret
    exact ⟨rfl, Below.refl _ _⟩
  have hS0 : Small z0 := by unfold Small; omega
  have HN0 := Lib.hid hn0
  have hq0 : (z0.length : Int) + (sumL z0 z0.length : Int) ≤ 1048576 := by omega
  clear hn0
  go_enter Try.func7, Try.ntmps7
  go_wp2_with fail
  refine call_same (szInt64SS_c a0 cap0 z0 _ _ h0 hm0 hr0 ?_ ?_) ?_
  · have := HN0.out; omega
  · have := HN0.out; omega
  rw [szF_yes]
  rotate_left
  · have := HN0.out; omega
  go_wp2_with fail
  refine call_pred (toInt64SS_c a0 cap0 z0 _ h0 hS0) ?_
  rintro w1 ⟨r1, b1⟩
  have H1 := below_next (Below.refl _ _) b1
  have S0_1 := Laid.grid r1
  clear r1
  go_wp2_with fail
  refine call_below (s_c _ _ z0 m1 m2 _ S0_1 hS0) ?_
  intro w2 b2
  have H2 := below_next H1 b2
  have S0_2 := S0_1.below b2
  clear S0_1
  clear S0_2
  go_wp2_with fail
  refine call_pred (toInt64SS_c a0 cap0 z0 _ (h0.below H2) hS0) ?_
  rintro w3 ⟨r3, b3⟩
  have H3 := below_next H2 b3
  have X0_3 := Laid.grid r3
  clear r3
  go_wp2_with fail
  refine call_below (i_c _ _ z0 m1 m2 _ X0_3 hS0) ?_
  intro w4 b4
  have H4 := below_next H3 b4
  have X0_4 := X0_3.below b4
  clear X0_3
  go_wp2_with fail
  refine call_pred (toInt64SS_c a0 cap0 z0 _ (h0.below H4) hS0) ?_
  rintro w5 ⟨r5, b5⟩
  have H5 := below_next H4 b5
  have X0_5 := X0_4.below b5
  clear X0_4
  have Y0_5 := Laid.grid r5
  clear r5
  go_wp2_with fail
  refine call_below (eqInt64SS_c _ _ _ _ z0 _ X0_5 Y0_5 hS0) ?_
  intro w6 b6
  have H6 := below_next H5 b6
  have X0_6 := X0_5.below b6
  clear X0_5
  have Y0_6 := Y0_5.below b6
  clear Y0_5
  clear X0_6 Y0_6
  go_wp2
  go_ret
  exact ⟨rfl, H6⟩

theorem own : ownKnob Try.prog.godebug = none := by kernel_rfl
theorem laidOut : laidOutB Try.prog = true := by kernel_rfl
set_option maxRecDepth 100000 in
theorem lifted (os : Os) (started : os.Started) (H : Type) (enc : TypeId × Value → H) :
    ReturnsInHanded {} Try.checked os 7 .any (Rows.fnExactPlateMassSpec.pre6 enc Try.prog Try.f7 Rows.fnExactPlateMassRow.domain false) (Rows.fnExactPlateMassSpec.post enc Try.prog Try.f7 false true false false) := by
  refine returnsInHanded_of_change (C := Try.checked) own started (by kernel_rfl) Try.func7
    (ChangeSpec.witness6 (enc := enc) (C := Try.checked) false ⟨#[], #[.slice none 0 0, .int .i64 0, .int .i64 0], []⟩ 8 (by kernel_rfl) (by kernel_rfl) (by kernel_rfl) (by kernel_rfl)) ?_
  intro W base args ds gs before hval0 hW hcnd _
  have hval : ∀ (j : Nat) t v, Try.f7.params[j]? = some t → args[j]? = some v → Value.okWide Try.prog W .any base t v := hval0
  have hW' := hW
  obtain ⟨p, q, hA0, hV, rfl, hfz, hnd⟩ := hW
  have hA : DataW.TrodAll enc Try.prog W 0 (fun _ => true) true Try.f7.params.toList args.toList ds p := hA0
  rw [Try.params7] at hA hval
  obtain ⟨v0, vs0, d0, ds0, p0, q0, hargs, rfl, rfl, h0, r0⟩ := trodAll_cons hA
  obtain ⟨v1, vs1, d1, ds1, p1, q1, rfl, rfl, rfl, h1, r1⟩ := trodAll_cons r0
  obtain ⟨v2, vs2, d2, ds2, p2, q2, rfl, rfl, rfl, h2, r2⟩ := trodAll_cons r1
  obtain ⟨rfl, rfl, rfl⟩ := trodAll_nil r2
  obtain rfl : args = #[v0, v1, v2] := by cases args; simp_all
  obtain ⟨rfl, rfl⟩ := trodVars_none hV
  have k0 := h0
  have lt0 : ∀ x ∈ p0, x.block < W.heap.size := by obtain ⟨m, hm⟩ := k0; exact DataW.trod_lt m _ _ _ hm
  obtain ⟨a0, len0, cap0, rfl⟩ := okWide_slice Try.underlying22 (hval 0 22 v0 rfl rfl)
  obtain ⟨z0, rfl, w0, m0, f0⟩ : ∃ g : List (List Int), g.length = len0 ∧ Grid W a0 g ∧ g.length ≤ maxLen ∧ ∀ j, j < g.length → (nthL g j).length ≤ maxLen := by
    obtain ⟨fuel, hf⟩ := h0
    exact grid_open Try.underlying22 Try.underlying32 Try.underlying2 (by kernel_rfl) (by kernel_rfl) hf
  have k1 := h1
  have lt1 : ∀ x ∈ p1, x.block < W.heap.size := by obtain ⟨m, hm⟩ := k1; exact DataW.trod_lt m _ _ _ hm
  obtain ⟨a1, rfl, rfl, rfl, w1⟩ := open_int Try.underlying2 (hval 1 2 v1 rfl rfl) h1
  have k2 := h2
  have lt2 : ∀ x ∈ p2, x.block < W.heap.size := by obtain ⟨m, hm⟩ := k2; exact DataW.trod_lt m _ _ _ hm
  obtain ⟨a2, rfl, rfl, rfl, w2⟩ := open_int Try.underlying2 (hval 2 2 v2 rfl rfl) h2
  clear hA0 hval0
  refine (walk a0 cap0 z0 a1 a2 W w0 m0 f0 w1 w2).mono fun e W' ⟨he, bel⟩ => ?_
  subst he
  exact ⟨_, rfl, _, _, _, [], _, [], hW', trodAll_mk1 (shut_bool Try.underlying4 _), (trodAll_cons_mk (Below.trod laidOut (by kernel_rfl) (of_decide_eq_true (by kernel_rfl)) k0 bel lt0) (trodAll_cons_mk (Below.trod laidOut (by kernel_rfl) (of_decide_eq_true (by kernel_rfl)) k1 bel lt1) (trodAll_cons_mk (Below.trod laidOut (by kernel_rfl) (of_decide_eq_true (by kernel_rfl)) k2 bel lt2) trodAll_mk0))), rfl, bel.frame _, fun h => by cases h⟩

theorem over : Rows.fnExactPlateMassRow.holds Try.pinned (OpenSpec.ofChange Rows.fnExactPlateMassSpec) :=
  OpenClaim.holds_of_wide 7 Try.f7 rfl rfl rfl rfl rfl rfl rfl ⟨rfl, rfl, rfl, rfl, rfl⟩ rfl rfl rfl rfl rfl (by kernel_rfl) Try.func7 (by kernel_rfl)
    (of_decide_eq_true (by kernel_rfl)) (by unfold Func.isWrapper; first | (rw [if_pos (by decide +kernel)]; kernel_rfl) | (rw [if_neg (by decide +kernel)]; exact ⟨rfl, rfl⟩))
    (fun os started H enc _ => lifted os started H enc)

/-- THE STATEMENT. -/
theorem proved : Rows.FnExactPlateMassSaid := over
#print axioms proved
end Go.Proofs.Ytejcglenjhkhhaa.lawPlateMass
