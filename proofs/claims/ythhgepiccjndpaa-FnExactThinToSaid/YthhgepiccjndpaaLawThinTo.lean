/- The program's ThinTo returns what the reference's returns, for all arguments. No condition. -/
import Derived.Test.YthhgepiccjndpaaRows
import Derived.Test.YthhgepiccjndpaaThin
import Derived.OpenShut
import Derived.ChangeOld
import Derived.Lib.SmallJoins
namespace Go.Proofs.Ythhgepiccjndpaa.lawThinTo
open Go.ChangeShapes Go.WideShapes Go.ChangeAt Go.RowKit
set_option linter.unusedVariables false

def nearB (g : List (List Int)) (c d m l : Int) (b : Nat) : Bool := decide (massF (thinG g b l) c d ≤ m)
def okB (c d m l : Int) : Bool := cellB c d && (inB m 0 1000000000 && inB l 1 200)
def fF (g : List (List Int)) (c d m l : Int) : Int × Int := if gridB 1 200 g then (if okB c d m l then (match firstUpTo (nearB g c d m l) 201 with | some b => ((b : Int), 0) | none => (0, 3)) else (0, 2)) else (0, 1)
theorem fF_some {g : List (List Int)} {c d m l : Int} {b : Nat} (h1 : gridB 1 200 g = true) (h2 : okB c d m l = true) (h : firstUpTo (nearB g c d m l) 201 = some b) : fF g c d m l = ((b : Int), 0) := by unfold fF; rw [if_pos h1, if_pos h2, h]
theorem fF_none {g : List (List Int)} {c d m l : Int} (h1 : gridB 1 200 g = true) (h2 : okB c d m l = true) (h : firstUpTo (nearB g c d m l) 201 = none) : fF g c d m l = (0, 3) := by unfold fF; rw [if_pos h1, if_pos h2, h]
theorem cell_in {c d : Int} (h : cellB c d = true) : (1 ≤ c ∧ c ≤ 10000) ∧ (1 ≤ d ∧ d ≤ 2000) := by
  simp only [cellB, Bool.and_eq_true] at h
  exact ⟨inB_true h.1, inB_true h.2⟩
set_option maxRecDepth 100000 in
theorem i_c (a : Option Addr) (cap : Nat) (g : List (List Int)) (c d m l : Int) (w : World) (h : Grid w a g) (hs : Small g) :
    Calls Try.prog 10 #[.slice a g.length cap, .int .i64 c, .int .i64 d, .int .i64 m, .int .i64 l] w fun e w' => e = .returned (.tuple #[.int .i64 (fF g c d m l).1, .int .i64 (fF g c d m l).2]) ∧ Below w.heap.size w w' := by
  rcases and4 (gridB 1 200 g) (cellB c d) (inB m 0 1000000000) (inB l 1 200) with h1 | ⟨h1, h2⟩ | ⟨h1, h2, h3⟩ | ⟨h1, h2, h3, h4⟩ | ⟨h1, h2, h3, h4⟩
  · go_enter Try.func10, Try.ntmps10
    go_wp2_with fail
    refine call_same (validPlate_c _ _ g _ h hs) ?_
    rw [h1]
    go_wp2
    go_ret2
    exact ⟨by simp [fF, h1], Below.refl _ _⟩
  · go_enter Try.func10, Try.ntmps10
    go_wp2_with fail
    refine call_same (validPlate_c _ _ g _ h hs) ?_
    rw [h1]
    go_wp2_with (first | (go_at_call 49; refine call_same (isCell_c _ _ _) ?_) | (go_at_call 50; refine call_same (within_c _ _ _ _) ?_) | (go_at_call 51; refine call_same (isLeast_c _ _) ?_))
    go_ret2
    exact ⟨by simp [fF, okB, h1, h2], Below.refl _ _⟩
  · go_enter Try.func10, Try.ntmps10
    go_wp2_with fail
    refine call_same (validPlate_c _ _ g _ h hs) ?_
    rw [h1]
    go_wp2_with (first | (go_at_call 49; refine call_same (isCell_c _ _ _) ?_) | (go_at_call 50; refine call_same (within_c _ _ _ _) ?_) | (go_at_call 51; refine call_same (isLeast_c _ _) ?_))
    go_ret2
    exact ⟨by simp [fF, okB, h1, h2, h3], Below.refl _ _⟩
  · go_enter Try.func10, Try.ntmps10
    go_wp2_with fail
    refine call_same (validPlate_c _ _ g _ h hs) ?_
    rw [h1]
    go_wp2_with (first | (go_at_call 49; refine call_same (isCell_c _ _ _) ?_) | (go_at_call 50; refine call_same (within_c _ _ _ _) ?_) | (go_at_call 51; refine call_same (isLeast_c _ _) ?_))
    go_ret2
    exact ⟨by simp [fF, okB, h1, h2, h3, h4], Below.refl _ _⟩
  · have hok : okB c d m l = true := by simp [okB, h2, h3, h4]
    have ok := gridB_true h1
    have hcd := cell_in h2
    have hl := inB_true h4
    have HS := Lib.hid (fun b (hb : firstUpTo (nearB g c d m l) 201 = some b) => fF_some h1 hok hb)
    have HN := Lib.hid (fun (hb : firstUpTo (nearB g c d m l) 201 = none) => fF_none h1 hok hb)
    clear hok
    go_enter Try.func10, Try.ntmps10
    go_wp2_with fail
    refine call_same (validPlate_c _ _ g _ h hs) ?_
    rw [h1]
    have HG := Lib.hid (h)
    have HB := Lib.hid (Below.refl w.heap.size w)
    go_wp2_with (first | (go_at_call 49; refine call_same (isCell_c _ _ _) ?_) | (go_at_call 50; refine call_same (within_c _ _ _ _) ?_) | (go_at_call 51; refine call_same (isLeast_c _ _) ?_))
    clear h h1 h2 h3 h4
    go_loopw [12] (fun i wr => ∃ k : Nat, k ≤ 201 ∧ i = .int .i64 k ∧ NoneTo (nearB g c d m l) k ∧ Below w.heap.size w wr) (fun i _ => 201 - (intOf i).toNat)
    case atStart => exact ⟨0, Nat.zero_le _, rfl, NoneTo.zero _, HB.out⟩
    case round =>
      obtain ⟨k, hk, rfl, hnone, hbl⟩ := hrel
      have HNO := Lib.hid hnone
      have HL := Lib.hid hbl
      clear hnone
      by_cases hlt : k ≤ 200
      · clear hbl
        go_wp2_with fail
        refine (thinned_c _ _ g k l _ (HG.out.below HL.out) hs ok (by omega)).mono ?_
        rintro e w2 ⟨a2, c2, rfl, hr, hb2⟩
        have HR := Lib.hid hr.grid
        have HB2 := Lib.hid hb2
        clear hr hb2
        go_wp2_with fail
        refine call_below (plateMass_c _ _ (thinG g k l) _ _ _ HR.out (thinG_small ok _ _) (thinG_ok ok (by omega) hl) hcd.1 hcd.2) ?_
        intro w3 hb3
        have HB3 := Lib.hid hb3
        clear hb3
        by_cases hm : massF (thinG g k l) c d ≤ m
        · have HF := Lib.hid (HS.out k (first_some (by omega) (decide_eq_true hm) HNO.out))
          go_wp2
          go_ret2
          exact ⟨by rw [HF.out]; rfl, below_next HL.out (below_next HB2.out HB3.out)⟩
        · have HNN := Lib.hid (HNO.out.step (decide_eq_false hm))
          go_wp2
          go_roundw
          case rel => exact ⟨k + 1, by omega, by go_num, HNN.out, below_next HL.out (below_next HB2.out HB3.out)⟩
          case measure => simp [intOf]; omega
      · obtain rfl : k = 201 := by omega
        have HF := Lib.hid (HN.out (first_none HNO.out))
        clear hbl
        go_wp2
        go_ret2
        exact ⟨by rw [HF.out]; rfl, HL.out⟩
set_option maxRecDepth 100000 in
theorem s_c (a : Option Addr) (cap : Nat) (g : List (List Int)) (c d m l : Int) (w : World) (h : Grid w a g) (hs : Small g) :
    Calls Try.prog 8 #[.slice a g.length cap, .int .i64 c, .int .i64 d, .int .i64 m, .int .i64 l] w fun e w' => e = .returned (.tuple #[.int .i64 (fF g c d m l).1, .int .i64 (fF g c d m l).2]) ∧ Below w.heap.size w w' := by
  rcases and4 (gridB 1 200 g) (cellB c d) (inB m 0 1000000000) (inB l 1 200) with h1 | ⟨h1, h2⟩ | ⟨h1, h2, h3⟩ | ⟨h1, h2, h3, h4⟩ | ⟨h1, h2, h3, h4⟩
  · go_enter Try.func8, Try.ntmps8
    go_wp2_with fail
    refine call_below (l08Ok_c _ _ g _ h hs) ?_
    rw [h1]
    intro w1 hb1
    go_wp2
    go_ret2
    exact ⟨by simp [fF, h1], hb1⟩
  · go_enter Try.func8, Try.ntmps8
    go_wp2_with fail
    refine call_below (l08Ok_c _ _ g _ h hs) ?_
    rw [h1]
    intro w1 hb1
    go_wp2_with (first | (go_at_call 42; refine call_same (l08Density_c _ _ _) ?_) | (go_at_call 43; refine call_same (l00In_c _ _ _ _) ?_) | (go_at_call 44; refine call_same (l08Thick_c _ _) ?_))
    go_ret2
    exact ⟨by simp [fF, okB, h1, h2], hb1⟩
  · go_enter Try.func8, Try.ntmps8
    go_wp2_with fail
    refine call_below (l08Ok_c _ _ g _ h hs) ?_
    rw [h1]
    intro w1 hb1
    go_wp2_with (first | (go_at_call 42; refine call_same (l08Density_c _ _ _) ?_) | (go_at_call 43; refine call_same (l00In_c _ _ _ _) ?_) | (go_at_call 44; refine call_same (l08Thick_c _ _) ?_))
    go_ret2
    exact ⟨by simp [fF, okB, h1, h2, h3], hb1⟩
  · go_enter Try.func8, Try.ntmps8
    go_wp2_with fail
    refine call_below (l08Ok_c _ _ g _ h hs) ?_
    rw [h1]
    intro w1 hb1
    go_wp2_with (first | (go_at_call 42; refine call_same (l08Density_c _ _ _) ?_) | (go_at_call 43; refine call_same (l00In_c _ _ _ _) ?_) | (go_at_call 44; refine call_same (l08Thick_c _ _) ?_))
    go_ret2
    exact ⟨by simp [fF, okB, h1, h2, h3, h4], hb1⟩
  · have hok : okB c d m l = true := by simp [okB, h2, h3, h4]
    have ok := gridB_true h1
    have hcd := cell_in h2
    have hl := inB_true h4
    have HS := Lib.hid (fun b (hb : firstUpTo (nearB g c d m l) 201 = some b) => fF_some h1 hok hb)
    have HN := Lib.hid (fun (hb : firstUpTo (nearB g c d m l) 201 = none) => fF_none h1 hok hb)
    clear hok
    go_enter Try.func8, Try.ntmps8
    go_wp2_with fail
    refine call_below (l08Ok_c _ _ g _ h hs) ?_
    rw [h1]
    intro w1 hb1
    have HG := Lib.hid h
    have HB := Lib.hid (hb1)
    go_wp2_with (first | (go_at_call 42; refine call_same (l08Density_c _ _ _) ?_) | (go_at_call 43; refine call_same (l00In_c _ _ _ _) ?_) | (go_at_call 44; refine call_same (l08Thick_c _ _) ?_))
    clear h h1 h2 h3 h4
    go_loopw [12] (fun i wr => ∃ k : Nat, k ≤ 201 ∧ i = .int .i64 k ∧ NoneTo (nearB g c d m l) k ∧ Below w.heap.size w wr) (fun i _ => 201 - (intOf i).toNat)
    case atStart => exact ⟨0, Nat.zero_le _, rfl, NoneTo.zero _, HB.out⟩
    case round =>
      obtain ⟨k, hk, rfl, hnone, hbl⟩ := hrel
      have HNO := Lib.hid hnone
      have HL := Lib.hid hbl
      clear hnone
      by_cases hlt : k ≤ 200
      · clear hbl
        go_wp2_with fail
        refine (l08All_c _ _ g k l _ (HG.out.below HL.out) hs ok (by omega)).mono ?_
        rintro e w2 ⟨a2, c2, rfl, hr, hb2⟩
        have HR := Lib.hid hr.grid
        have HB2 := Lib.hid hb2
        clear hr hb2
        go_wp2_with fail
        refine call_same (l08Mass_c _ _ (thinG g k l) _ _ _ HR.out (thinG_small ok _ _) (thinG_ok ok (by omega) hl) hcd.1 hcd.2) ?_
        by_cases hm : massF (thinG g k l) c d ≤ m
        · have HF := Lib.hid (HS.out k (first_some (by omega) (decide_eq_true hm) HNO.out))
          go_wp2
          go_ret2
          exact ⟨by rw [HF.out]; rfl, below_next HL.out HB2.out⟩
        · have HNN := Lib.hid (HNO.out.step (decide_eq_false hm))
          go_wp2
          go_roundw
          case rel => exact ⟨k + 1, by omega, by go_num, HNN.out, below_next HL.out HB2.out⟩
          case measure => simp [intOf]; omega
      · obtain rfl : k = 201 := by omega
        have HF := Lib.hid (HN.out (first_none HNO.out))
        clear hbl
        go_wp2
        go_ret2
        exact ⟨by rw [HF.out]; rfl, HL.out⟩
theorem walk (a0 : Option Addr) (cap0 : Nat) (z0 : List (List Int)) (m1 : Int) (m2 : Int) (m3 : Int) (m4 : Int) (w : World) (h0 : Grid w a0 z0) (hm0 : z0.length ≤ maxLen) (hr0 : ∀ j, j < z0.length → (nthL z0 j).length ≤ maxLen) (_ : (Lit.int .i64 m1).wf = true) (_ : (Lit.int .i64 m2).wf = true) (_ : (Lit.int .i64 m3).wf = true) (_ : (Lit.int .i64 m4).wf = true) :
    Calls Try.prog 3 #[.slice a0 z0.length cap0, .int .i64 m1, .int .i64 m2, .int .i64 m3, .int .i64 m4] w fun e w' => e = .returned (.bool true) ∧ Below w.heap.size w w' := by
  by_cases hn0 : ((z0.length + sumL z0 z0.length : Nat) : Int) ≤ 1048576
  rotate_left
  · have HN0 := Lib.hid hn0
    clear hn0
    go_enter Try.func3, Try.ntmps3
    go_wp2_with fail
    refine call_same (szInt64SS_c a0 cap0 z0 _ _ h0 hm0 hr0 ?_ ?_) ?_
    ·  omega
    ·  omega
    rw [szF_no]
    rotate_left
    · have := HN0.out; omega
    go_wp2
    go_ret
    exact ⟨rfl, Below.refl _ _⟩
  have hS0 : Small z0 := by unfold Small; omega
  have HN0 := Lib.hid hn0
  have hq0 : (z0.length : Int) + (sumL z0 z0.length : Int) ≤ 1048576 := by omega
  clear hn0
  go_enter Try.func3, Try.ntmps3
  go_wp2_with fail
  refine call_same (szInt64SS_c a0 cap0 z0 _ _ h0 hm0 hr0 ?_ ?_) ?_
  · have := HN0.out; omega
  · have := HN0.out; omega
  rw [szF_yes]
  rotate_left
  · have := HN0.out; omega
  go_wp2_with fail
  refine call_pred (toInt64SS_c a0 cap0 z0 _ h0 hS0) ?_
  rintro w1 ⟨r1, b1⟩
  have H1 := below_next (Below.refl _ _) b1
  have S0_1 := Laid.grid r1
  clear r1
  go_wp2_with fail
  refine call_below (s_c _ _ z0 m1 m2 m3 m4 _ S0_1 hS0) ?_
  intro w2 b2
  have H2 := below_next H1 b2
  have S0_2 := S0_1.below b2
  clear S0_1
  clear S0_2
  go_wp2_with fail
  refine call_pred (toInt64SS_c a0 cap0 z0 _ (h0.below H2) hS0) ?_
  rintro w3 ⟨r3, b3⟩
  have H3 := below_next H2 b3
  have X0_3 := Laid.grid r3
  clear r3
  go_wp2_with fail
  refine call_below (i_c _ _ z0 m1 m2 m3 m4 _ X0_3 hS0) ?_
  intro w4 b4
  have H4 := below_next H3 b4
  have X0_4 := X0_3.below b4
  clear X0_3
  go_wp2_with fail
  refine call_pred (toInt64SS_c a0 cap0 z0 _ (h0.below H4) hS0) ?_
  rintro w5 ⟨r5, b5⟩
  have H5 := below_next H4 b5
  have X0_5 := X0_4.below b5
  clear X0_4
  have Y0_5 := Laid.grid r5
  clear r5
  go_wp2_with fail
  refine call_below (eqInt64SS_c _ _ _ _ z0 _ X0_5 Y0_5 hS0) ?_
  intro w6 b6
  have H6 := below_next H5 b6
  have X0_6 := X0_5.below b6
  clear X0_5
  have Y0_6 := Y0_5.below b6
  clear Y0_5
  clear X0_6 Y0_6
  go_wp2
  go_ret
  exact ⟨rfl, H6⟩

theorem own : ownKnob Try.prog.godebug = none := by kernel_rfl
theorem laidOut : laidOutB Try.prog = true := by kernel_rfl
set_option maxRecDepth 100000 in
theorem lifted (os : Os) (started : os.Started) (H : Type) (enc : TypeId × Value → H) :
    ReturnsInHanded {} Try.checked os 3 .any (Rows.fnExactThinToSpec.pre6 enc Try.prog Try.f3 Rows.fnExactThinToRow.domain false) (Rows.fnExactThinToSpec.post enc Try.prog Try.f3 false true false false) := by
  refine returnsInHanded_of_change (C := Try.checked) own started (by kernel_rfl) Try.func3
    (ChangeSpec.witness6 (enc := enc) (C := Try.checked) false ⟨#[], #[.slice none 0 0, .int .i64 0, .int .i64 0, .int .i64 0, .int .i64 0], []⟩ 8 (by kernel_rfl) (by kernel_rfl) (by kernel_rfl) (by kernel_rfl)) ?_
  intro W base args ds gs before hval0 hW hcnd _
  have hval : ∀ (j : Nat) t v, Try.f3.params[j]? = some t → args[j]? = some v → Value.okWide Try.prog W .any base t v := hval0
  have hW' := hW
  obtain ⟨p, q, hA0, hV, rfl, hfz, hnd⟩ := hW
  have hA : DataW.TrodAll enc Try.prog W 0 (fun _ => true) true Try.f3.params.toList args.toList ds p := hA0
  rw [Try.params3] at hA hval
  obtain ⟨v0, vs0, d0, ds0, p0, q0, hargs, rfl, rfl, h0, r0⟩ := trodAll_cons hA
  obtain ⟨v1, vs1, d1, ds1, p1, q1, rfl, rfl, rfl, h1, r1⟩ := trodAll_cons r0
  obtain ⟨v2, vs2, d2, ds2, p2, q2, rfl, rfl, rfl, h2, r2⟩ := trodAll_cons r1
  obtain ⟨v3, vs3, d3, ds3, p3, q3, rfl, rfl, rfl, h3, r3⟩ := trodAll_cons r2
  obtain ⟨v4, vs4, d4, ds4, p4, q4, rfl, rfl, rfl, h4, r4⟩ := trodAll_cons r3
  obtain ⟨rfl, rfl, rfl⟩ := trodAll_nil r4
  obtain rfl : args = #[v0, v1, v2, v3, v4] := by cases args; simp_all
  obtain ⟨rfl, rfl⟩ := trodVars_none hV
  have k0 := h0
  have lt0 : ∀ x ∈ p0, x.block < W.heap.size := by obtain ⟨m, hm⟩ := k0; exact DataW.trod_lt m _ _ _ hm
  obtain ⟨a0, len0, cap0, rfl⟩ := okWide_slice Try.underlying22 (hval 0 22 v0 rfl rfl)
  obtain ⟨z0, rfl, w0, m0, f0⟩ : ∃ g : List (List Int), g.length = len0 ∧ Grid W a0 g ∧ g.length ≤ maxLen ∧ ∀ j, j < g.length → (nthL g j).length ≤ maxLen := by
    obtain ⟨fuel, hf⟩ := h0
    exact grid_open Try.underlying22 Try.underlying35 Try.underlying2 (by kernel_rfl) (by kernel_rfl) hf
  have k1 := h1
  have lt1 : ∀ x ∈ p1, x.block < W.heap.size := by obtain ⟨m, hm⟩ := k1; exact DataW.trod_lt m _ _ _ hm
  obtain ⟨a1, rfl, rfl, rfl, w1⟩ := open_int Try.underlying2 (hval 1 2 v1 rfl rfl) h1
  have k2 := h2
  have lt2 : ∀ x ∈ p2, x.block < W.heap.size := by obtain ⟨m, hm⟩ := k2; exact DataW.trod_lt m _ _ _ hm
  obtain ⟨a2, rfl, rfl, rfl, w2⟩ := open_int Try.underlying2 (hval 2 2 v2 rfl rfl) h2
  have k3 := h3
  have lt3 : ∀ x ∈ p3, x.block < W.heap.size := by obtain ⟨m, hm⟩ := k3; exact DataW.trod_lt m _ _ _ hm
  obtain ⟨a3, rfl, rfl, rfl, w3⟩ := open_int Try.underlying2 (hval 3 2 v3 rfl rfl) h3
  have k4 := h4
  have lt4 : ∀ x ∈ p4, x.block < W.heap.size := by obtain ⟨m, hm⟩ := k4; exact DataW.trod_lt m _ _ _ hm
  obtain ⟨a4, rfl, rfl, rfl, w4⟩ := open_int Try.underlying2 (hval 4 2 v4 rfl rfl) h4
  clear hA0 hval0
  refine (walk a0 cap0 z0 a1 a2 a3 a4 W w0 m0 f0 w1 w2 w3 w4).mono fun e W' ⟨he, bel⟩ => ?_
  subst he
  exact ⟨_, rfl, _, _, _, [], _, [], hW', trodAll_mk1 (shut_bool Try.underlying4 _), (trodAll_cons_mk (Below.trod laidOut (by kernel_rfl) (of_decide_eq_true (by kernel_rfl)) k0 bel lt0) (trodAll_cons_mk (Below.trod laidOut (by kernel_rfl) (of_decide_eq_true (by kernel_rfl)) k1 bel lt1) (trodAll_cons_mk (Below.trod laidOut (by kernel_rfl) (of_decide_eq_true (by kernel_rfl)) k2 bel lt2) (trodAll_cons_mk (Below.trod laidOut (by kernel_rfl) (of_decide_eq_true (by kernel_rfl)) k3 bel lt3) (trodAll_cons_mk (Below.trod laidOut (by kernel_rfl) (of_decide_eq_true (by kernel_rfl)) k4 bel lt4) trodAll_mk0))))), rfl, bel.frame _, fun h => by cases h⟩

theorem over : Rows.fnExactThinToRow.holds Try.pinned (OpenSpec.ofChange Rows.fnExactThinToSpec) :=
  OpenClaim.holds_of_wide 3 Try.f3 rfl rfl rfl rfl rfl rfl rfl ⟨rfl, rfl, rfl, rfl, rfl⟩ rfl rfl rfl rfl rfl (by kernel_rfl) Try.func3 (by kernel_rfl)
    (of_decide_eq_true (by kernel_rfl)) (by unfold Func.isWrapper; first | (rw [if_pos (by decide +kernel)]; kernel_rfl) | (rw [if_neg (by decide +kernel)]; exact ⟨rfl, rfl⟩))
    (fun os started H enc _ => lifted os started H enc)

/-- THE STATEMENT. -/
theorem proved : Rows.FnExactThinToSaid := over
#print axioms proved
end Go.Proofs.Ythhgepiccjndpaa.lawThinTo
