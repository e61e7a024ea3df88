/- The program's WeakestRow returns what the reference's returns, for all arguments. No condition. -/
import Derived.Test.YthkjnemlklndfaaRows
import Derived.Test.YthkjnemlklndfaaStiff
import Derived.OpenShut
import Derived.ChangeOld
import Derived.Lib.SmallJoins
namespace Go.Proofs.Ythkjnemlklndfaa.lawWeakestRow
open Go.ChangeShapes Go.WideShapes Go.ChangeAt Go.RowKit
set_option linter.unusedVariables false

theorem l08Stiff_c (a : Option Addr) (cap : Nat) (r : List Int) (w : World) (h : Nums .i64 w a r) (hn : r.length ≤ 10) (hv : ∀ j, j < r.length → 1 ≤ nth r j ∧ nth r j ≤ 200) :
    Calls Try.prog 98 #[.slice a r.length cap] w fun e w' => e = .returned (.int .i64 (stiffF r)) ∧ Drawn w w' := by
  have HS := Lib.hid (cubeTo_bd hv)
  have HW := Lib.hid hv
  have HF := Lib.hid (show stiffF r = cubeTo r r.length from rfl)
  clear hv
  go_enter Try.func98, Try.ntmps98
  go_wp2
  go_loopw [3, 4] (fun s i wr => ∃ c : Nat, c ≤ r.length ∧ i = .int .i64 c ∧ s = .int .i64 (cubeTo r c) ∧ Drawn w wr) (fun _ i _ => r.length - (intOf i).toNat)
  case atStart => exact ⟨0, Nat.zero_le _, rfl, rfl, Drawn.refl _⟩
  case round =>
    obtain ⟨c, hcl, rfl, rfl, hdr⟩ := hrel
    have hsb := HS.out c hcl
    by_cases hct : c < r.length
    · obtain ⟨b2, o2, rfl, hb2, hc2⟩ := (h.below hdr.below).pos hct
      have hv := HW.out c hct
      have hcb := cube_bd hv
      have HC := Lib.hid (show cubeTo r (c + 1) = cubeTo r c + nth r c * nth r c * nth r c from rfl)
      have i0 : (0 : Int) ≤ (c : Int) := by omega
      have i1 : (c : Int) < r.length := by omega
      have q1 := IntWalk.i64_in (nth r c * nth r c) (by omega)
      have q2 := IntWalk.i64_in (nth r c * nth r c * nth r c) (by omega)
      have q3 := IntWalk.i64_in (cubeTo r c + nth r c * nth r c * nth r c) (by omega)
      clear h
      go_wp2_with fail
      go_quiet (fail)
      go_wp2
      go_roundw
      case rel => exact ⟨c + 1, by omega, by go_num, by rw [HC.out], hdr.step _⟩
      case measure => simp [intOf]; omega
    · obtain rfl : c = r.length := by omega
      go_wp2
      go_ret
      exact ⟨by rw [HF.out]; rfl, hdr⟩

/-- The place of the least of the first k numbers. -/
def lowTo (zs : List Int) : Nat → Nat
  | 0 => 0
  | k + 1 => if nth zs k < nth zs (lowTo zs k) then k else lowTo zs k
theorem lowTo_lt {zs : List Int} (h : 0 < zs.length) : ∀ k, k ≤ zs.length → lowTo zs k < zs.length
  | 0, _ => h
  | k + 1, hk => by
    unfold lowTo
    split
    · omega
    · exact lowTo_lt h k (by omega)
theorem lowTo_yes {zs : List Int} {k : Nat} (h : nth zs k < nth zs (lowTo zs k)) : lowTo zs (k + 1) = k := by rw [lowTo, if_pos h]
theorem lowTo_no {zs : List Int} {k : Nat} (h : nth zs (lowTo zs k) ≤ nth zs k) : lowTo zs (k + 1) = lowTo zs k := by rw [lowTo, if_neg (Int.not_lt.2 h)]
theorem lowTo_one (zs : List Int) : lowTo zs 1 = 0 := by simp [lowTo]
def lowF (zs : List Int) : Int × Int := (((lowTo zs zs.length : Nat) : Int), nth zs (lowTo zs zs.length))
def fF (g : List (List Int)) : Int × Int × Int := if gridB 1 200 g then ((lowF (stiffs g g.length)).1, (lowF (stiffs g g.length)).2, 0) else (0, 0, 1)

theorem i_c (a : Option Addr) (cap : Nat) (g : List (List Int)) (w : World) (h : Grid w a g) (hs : Small g) :
    Calls Try.prog 49 #[.slice a g.length cap] w fun e w' => e = .returned (.tuple #[.int .i64 (fF g).1, .int .i64 (fF g).2.1, .int .i64 (fF g).2.2]) ∧ Below w.heap.size w w' := by
  cases hg : gridB 1 200 g
  · go_enter Try.func49, Try.ntmps49
    go_wp2_with fail
    refine call_same (rowStiff_bad _ _ g _ h hs hg) ?_
    go_wp2
    go_ret3
    exact ⟨by simp [fF, hg], Below.refl _ _⟩
  · have HF := Lib.hid (show fF g = ((lowF (stiffs g g.length)).1, (lowF (stiffs g g.length)).2, 0) by simp [fF, hg])
    have ok := gridB_true hg
    have hz : 0 < (stiffs g g.length).length := by rw [stiffs_len]; exact ok.rows.1
    have hz2 : (stiffs g g.length).length ≤ 10 := by rw [stiffs_len]; exact ok.rows.2
    clear ok
    go_enter Try.func49, Try.ntmps49
    go_wp2_with fail
    refine (rowStiff_c _ _ g _ h hs hg).mono ?_
    rintro e w2 ⟨v, rfl, hown, hb2⟩
    obtain ⟨bp, cp, rfl, -, hbp, hnu⟩ := hown.form
    have HNU := Lib.hid hnu
    clear hown hnu h hs hg
    generalize stiffs g g.length = zs at HF hz hz2 HNU ⊢
    have HB := Lib.hid (fun k => lowTo_lt hz k)
    have HLF := Lib.hid (show lowF zs = (((lowTo zs zs.length : Nat) : Int), nth zs (lowTo zs zs.length)) from rfl)
    go_wp2
    go_loop [7, 20] (fun s i => ∃ k : Nat, k ≤ zs.length ∧ i = .int .i64 k ∧ s = .int .i64 (lowTo zs k : Nat)) (fun _ i => zs.length - (intOf i).toNat)
    case atStart => exact ⟨0, Nat.zero_le _, rfl, rfl⟩
    case round =>
      obtain ⟨k, hk, rfl, rfl⟩ := hrel
      have hbk := HB.out k hk
      by_cases hlt : k < zs.length
      · obtain ⟨_, _, e1, _, hc1⟩ := HNU.out.pos hlt
        obtain ⟨_, _, e2, _, hc2⟩ := HNU.out.pos hbk
        obtain ⟨rfl, rfl⟩ : bp = _ ∧ 0 = _ := by simpa using e1
        obtain ⟨rfl, rfl⟩ : bp = _ ∧ 0 = _ := by simpa using e2
        rw [Nat.zero_add] at hc1 hc2
        have HY := Lib.hid (fun h => lowTo_yes (zs := zs) (k := k) h)
        have HN := Lib.hid (fun h => lowTo_no (zs := zs) (k := k) h)
        generalize lowTo zs k = m at hbk hc2 HY HN ⊢
        by_cases hless : nth zs k < nth zs m
        · have HE := Lib.hid (HY.out hless)
          clear HY HN e1 e2
          go_wp2
          go_round
          case rel => exact ⟨k + 1, by omega, by go_num, by rw [HE.out]⟩
          case measure => simp [intOf]; omega
        · have HE := Lib.hid (HN.out (Int.not_lt.1 hless))
          clear HY HN e1 e2
          go_wp2
          go_round
          case rel => exact ⟨k + 1, by omega, by go_num, by rw [HE.out]⟩
          case measure => simp [intOf]; omega
      · obtain rfl : k = zs.length := by omega
        obtain ⟨_, _, e2, _, hc2⟩ := HNU.out.pos hbk
        obtain ⟨rfl, rfl⟩ : bp = _ ∧ 0 = _ := by simpa using e2
        rw [Nat.zero_add] at hc2
        have i0 : (0 : Int) ≤ (lowTo zs zs.length : Nat) := by omega
        have i1 : ((lowTo zs zs.length : Nat) : Int) < zs.length := by omega
        clear e2
        go_wp2_with fail
        go_quiet (fail)
        go_wp2
        go_ret3
        exact ⟨by rw [HF.out, HLF.out]; rfl, below_drewN hb2 _⟩

theorem s_c (a : Option Addr) (cap : Nat) (g : List (List Int)) (w : World) (h : Grid w a g) (hs : Small g) :
    Calls Try.prog 48 #[.slice a g.length cap] w fun e w' => e = .returned (.tuple #[.int .i64 (fF g).1, .int .i64 (fF g).2.1, .int .i64 (fF g).2.2]) ∧ Below w.heap.size w w' := by
  cases hg : gridB 1 200 g
  · go_enter Try.func48, Try.ntmps48
    go_wp2_with fail
    refine call_below (l08Ok_c _ _ g _ h hs) ?_
    rw [hg]
    intro w1 hb1
    go_wp2
    go_ret3
    exact ⟨by simp [fF, hg], hb1⟩
  · have HF := Lib.hid (show fF g = ((lowF (stiffs g g.length)).1, (lowF (stiffs g g.length)).2, 0) by simp [fF, hg])
    have ok := gridB_true hg
    have hz : 0 < (stiffs g g.length).length := by rw [stiffs_len]; exact ok.rows.1
    have HZ := Lib.hid (stiffs_len g g.length)
    have hg10 := ok.rows
    have HI := Lib.hid (show ∀ k, k < g.length → (nthL g k).length ≤ 10 ∧ nth (stiffs g g.length) k = stiffF (nthL g k) ∧ ∀ j, j < (nthL g k).length → 1 ≤ nth (nthL g k) j ∧ nth (nthL g k) j ≤ 200 from fun k hk => ⟨by have := ok.same k hk; have := ok.cols; omega, stiffs_nth hk, ok.range k hk⟩)
    clear ok
    go_enter Try.func48, Try.ntmps48
    go_wp2_with fail
    refine call_below (l08Ok_c _ _ g _ h hs) ?_
    rw [hg]
    intro w1 hb1
    have hG := h.below hb1
    have HG := Lib.hid hG
    clear h hG hs hg
    generalize stiffs g g.length = zs at HF hz HZ HI ⊢
    have HB := Lib.hid (fun k => lowTo_lt hz k)
    have HLF := Lib.hid (show lowF zs = (((lowTo zs zs.length : Nat) : Int), nth zs (lowTo zs zs.length)) from rfl)
    clear hz
    go_wp2
    go_loopw [5, 6] (fun s i wr => ∃ k : Nat, 0 < k ∧ k ≤ g.length ∧ i = .int .i64 k ∧ s = .int .i64 (lowTo zs k : Nat) ∧ Drawn w1 wr) (fun _ i _ => g.length - (intOf i).toNat)
    case atStart => exact ⟨1, Nat.one_pos, hg10.1, rfl, by rw [lowTo_one]; rfl, Drawn.refl _⟩
    case round =>
      obtain ⟨k, hk0, hk, rfl, rfl, hdr⟩ := hrel
      have hbk : lowTo zs k < g.length := by have := HB.out k (by have := HZ.out; omega); have := HZ.out; omega
      by_cases hlt : k < g.length
      · obtain ⟨b, o, rfl, hb, ak, ck, hck, hnk⟩ := (HG.out.below hdr.below).pos hlt
        obtain ⟨am, cm, hcm, hnm⟩ := (HG.out.below hdr.below).at_ hbk
        obtain ⟨lk, vk, rk⟩ := HI.out k hlt
        obtain ⟨lm, vm, rm⟩ := HI.out _ hbk
        have HY := Lib.hid (fun h => lowTo_yes (zs := zs) (k := k) h)
        have HN := Lib.hid (fun h => lowTo_no (zs := zs) (k := k) h)
        rw [vk, vm] at HY HN
        have HK := Lib.hid (And.intro hnk (And.intro lk rk))
        have HM := Lib.hid (And.intro hnm (And.intro lm rm))
        clear vk vm hnk hnm rk rm
        generalize lowTo zs k = m at hbk hcm HY HN HM lm ⊢
        have i0 : (0 : Int) ≤ (k : Int) := by omega
        have i1 : (k : Int) < g.length := by omega
        have i2 : (0 : Int) ≤ (m : Int) := by omega
        have i3 : (m : Int) < g.length := by omega
        by_cases hless : stiffF (nthL g k) < stiffF (nthL g m)
        · have hd : decide (stiffF (nthL g k) < stiffF (nthL g m)) = true := decide_eq_true hless
          have HE := Lib.hid (HY.out hless)
          clear HY HN
          go_wp2_with fail
          go_quiet ((go_at_call 98; refine Calls.quiet_of (l08Stiff_c _ _ _ _ ?_ ?_ ?_); (first | exact HK.out.1.below (below_drewN (Below.refl _ _) _) | exact HM.out.1.below (below_drewN (Below.refl _ _) _)); (first | exact HK.out.2.1 | exact HM.out.2.1); (first | exact HK.out.2.2 | exact HM.out.2.2)))
          go_wp2
          go_roundw
          case rel => exact ⟨k + 1, by omega, by omega, by go_num, by rw [HE.out], hdr.step _⟩
          case measure => simp [intOf]; omega
        · have hd : decide (stiffF (nthL g k) < stiffF (nthL g m)) = false := decide_eq_false hless
          have HE := Lib.hid (HN.out (Int.not_lt.1 hless))
          clear HY HN
          go_wp2_with fail
          go_quiet ((go_at_call 98; refine Calls.quiet_of (l08Stiff_c _ _ _ _ ?_ ?_ ?_); (first | exact HK.out.1.below (below_drewN (Below.refl _ _) _) | exact HM.out.1.below (below_drewN (Below.refl _ _) _)); (first | exact HK.out.2.1 | exact HM.out.2.1); (first | exact HK.out.2.2 | exact HM.out.2.2)))
          go_wp2
          go_roundw
          case rel => exact ⟨k + 1, by omega, by omega, by go_num, by rw [HE.out], hdr.step _⟩
          case measure => simp [intOf]; omega
      · obtain rfl : k = g.length := by omega
        obtain ⟨b, o, rfl, hb, am, cm, hcm, hnm⟩ := (HG.out.below hdr.below).pos hbk
        obtain ⟨lm, vm, rm⟩ := HI.out _ hbk
        have HLZ := Lib.hid (show lowF zs = (((lowTo zs g.length : Nat) : Int), stiffF (nthL g (lowTo zs g.length))) by rw [HLF.out, HZ.out, vm])
        clear vm
        have i2 : (0 : Int) ≤ (lowTo zs g.length : Nat) := by omega
        have i3 : ((lowTo zs g.length : Nat) : Int) < g.length := by omega
        go_wp2_with fail
        refine call_pred (l08Stiff_c am cm _ _ hnm lm rm) ?_
        intro w3 hd3
        go_wp2
        go_ret3
        exact ⟨by rw [HF.out, HLZ.out]; rfl, below_next hb1 (below_next hdr.below hd3.below)⟩
theorem walk (a0 : Option Addr) (cap0 : Nat) (z0 : List (List Int)) (w : World) (h0 : Grid w a0 z0) (hm0 : z0.length ≤ maxLen) (hr0 : ∀ j, j < z0.length → (nthL z0 j).length ≤ maxLen) :
    Calls Try.prog 12 #[.slice a0 z0.length cap0] w fun e w' => e = .returned (.bool true) ∧ Below w.heap.size w w' := by
  by_cases hn0 : ((z0.length + sumL z0 z0.length : Nat) : Int) ≤ 1048576
  rotate_left
  · have HN0 := Lib.hid hn0
    clear hn0
    go_enter Try.func12, Try.ntmps12
    go_wp2_with fail
    refine call_same (szInt64SS_c a0 cap0 z0 _ _ h0 hm0 hr0 ?_ ?_) ?_
    ·  omega
    ·  omega
    rw [szF_no]
    rotate_left
    · have := HN0.out; omega
    go_wp2
    go_ret
    exact ⟨rfl, Below.refl _ _⟩
  have hS0 : Small z0 := by unfold Small; omega
  have HN0 := Lib.hid hn0
  have hq0 : (z0.length : Int) + (sumL z0 z0.length : Int) ≤ 1048576 := by omega
  clear hn0
  go_enter Try.func12, Try.ntmps12
  go_wp2_with fail
  refine call_same (szInt64SS_c a0 cap0 z0 _ _ h0 hm0 hr0 ?_ ?_) ?_
  · have := HN0.out; omega
  · have := HN0.out; omega
  rw [szF_yes]
  rotate_left
  · have := HN0.out; omega
  go_wp2_with fail
  refine call_pred (toInt64SS_c a0 cap0 z0 _ h0 hS0) ?_
  rintro w1 ⟨r1, b1⟩
  have H1 := below_next (Below.refl _ _) b1
  have S0_1 := Laid.grid r1
  clear r1
  go_wp2_with fail
  refine call_below (s_c _ _ z0 _ S0_1 hS0) ?_
  intro w2 b2
  have H2 := below_next H1 b2
  have S0_2 := S0_1.below b2
  clear S0_1
  clear S0_2
  go_wp2_with fail
  refine call_pred (toInt64SS_c a0 cap0 z0 _ (h0.below H2) hS0) ?_
  rintro w3 ⟨r3, b3⟩
  have H3 := below_next H2 b3
  have X0_3 := Laid.grid r3
  clear r3
  go_wp2_with fail
  refine call_below (i_c _ _ z0 _ X0_3 hS0) ?_
  intro w4 b4
  have H4 := below_next H3 b4
  have X0_4 := X0_3.below b4
  clear X0_3
  go_wp2_with fail
  refine call_pred (toInt64SS_c a0 cap0 z0 _ (h0.below H4) hS0) ?_
  rintro w5 ⟨r5, b5⟩
  have H5 := below_next H4 b5
  have X0_5 := X0_4.below b5
  clear X0_4
  have Y0_5 := Laid.grid r5
  clear r5
  go_wp2_with fail
  refine call_below (eqInt64SS_c _ _ _ _ z0 _ X0_5 Y0_5 hS0) ?_
  intro w6 b6
  have H6 := below_next H5 b6
  have X0_6 := X0_5.below b6
  clear X0_5
  have Y0_6 := Y0_5.below b6
  clear Y0_5
  clear X0_6 Y0_6
  go_wp2
  go_ret
  exact ⟨rfl, H6⟩

theorem own : ownKnob Try.prog.godebug = none := by kernel_rfl
theorem laidOut : laidOutB Try.prog = true := by kernel_rfl
set_option maxRecDepth 100000 in
theorem lifted (os : Os) (started : os.Started) (H : Type) (enc : TypeId × Value → H) :
    ReturnsInHanded {} Try.checked os 12 .any (Rows.fnExactWeakestRowSpec.pre6 enc Try.prog Try.f12 Rows.fnExactWeakestRowRow.domain false) (Rows.fnExactWeakestRowSpec.post enc Try.prog Try.f12 false true false false) := by
  refine returnsInHanded_of_change (C := Try.checked) own started (by kernel_rfl) Try.func12
    (ChangeSpec.witness6 (enc := enc) (C := Try.checked) false ⟨#[], #[.slice none 0 0], []⟩ 8 (by kernel_rfl) (by kernel_rfl) (by kernel_rfl) (by kernel_rfl)) ?_
  intro W base args ds gs before hval0 hW hcnd _
  have hval : ∀ (j : Nat) t v, Try.f12.params[j]? = some t → args[j]? = some v → Value.okWide Try.prog W .any base t v := hval0
  have hW' := hW
  obtain ⟨p, q, hA0, hV, rfl, hfz, hnd⟩ := hW
  have hA : DataW.TrodAll enc Try.prog W 0 (fun _ => true) true Try.f12.params.toList args.toList ds p := hA0
  rw [Try.params12] at hA hval
  obtain ⟨v0, vs0, d0, ds0, p0, q0, hargs, rfl, rfl, h0, r0⟩ := trodAll_cons hA
  obtain ⟨rfl, rfl, rfl⟩ := trodAll_nil r0
  obtain rfl : args = #[v0] := by cases args; simp_all
  obtain ⟨rfl, rfl⟩ := trodVars_none hV
  have k0 := h0
  have lt0 : ∀ x ∈ p0, x.block < W.heap.size := by obtain ⟨m, hm⟩ := k0; exact DataW.trod_lt m _ _ _ hm
  obtain ⟨a0, len0, cap0, rfl⟩ := okWide_slice Try.underlying29 (hval 0 29 v0 rfl rfl)
  obtain ⟨z0, rfl, w0, m0, f0⟩ : ∃ g : List (List Int), g.length = len0 ∧ Grid W a0 g ∧ g.length ≤ maxLen ∧ ∀ j, j < g.length → (nthL g j).length ≤ maxLen := by
    obtain ⟨fuel, hf⟩ := h0
    exact grid_open Try.underlying29 Try.underlying34 Try.underlying2 (by kernel_rfl) (by kernel_rfl) hf
  clear hA0 hval0
  refine (walk a0 cap0 z0 W w0 m0 f0).mono fun e W' ⟨he, bel⟩ => ?_
  subst he
  exact ⟨_, rfl, _, _, _, [], _, [], hW', trodAll_mk1 (shut_bool Try.underlying4 _), (trodAll_cons_mk (Below.trod laidOut (by kernel_rfl) (of_decide_eq_true (by kernel_rfl)) k0 bel lt0) trodAll_mk0), rfl, bel.frame _, fun h => by cases h⟩

theorem over : Rows.fnExactWeakestRowRow.holds Try.pinned (OpenSpec.ofChange Rows.fnExactWeakestRowSpec) :=
  OpenClaim.holds_of_wide 12 Try.f12 rfl rfl rfl rfl rfl rfl rfl ⟨rfl, rfl, rfl, rfl, rfl⟩ rfl rfl rfl rfl rfl (by kernel_rfl) Try.func12 (by kernel_rfl)
    (of_decide_eq_true (by kernel_rfl)) (by unfold Func.isWrapper; first | (rw [if_pos (by decide +kernel)]; kernel_rfl) | (rw [if_neg (by decide +kernel)]; exact ⟨rfl, rfl⟩))
    (fun os started H enc _ => lifted os started H enc)

/-- THE STATEMENT. -/
theorem proved : Rows.FnExactWeakestRowSaid := over
#print axioms proved
end Go.Proofs.Ythkjnemlklndfaa.lawWeakestRow
