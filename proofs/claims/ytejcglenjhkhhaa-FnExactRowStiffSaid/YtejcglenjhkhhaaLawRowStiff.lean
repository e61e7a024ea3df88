/- The program's RowStiff returns what the reference's returns, for all arguments. No condition. -/
import Derived.Test.YtejcglenjhkhhaaRows
import Derived.Test.YtejcglenjhkhhaaStiff
import Derived.Test.YtejcglenjhkhhaaMark2
import Derived.OpenShut
import Derived.ChangeOld
import Derived.Lib.SmallJoins
namespace Go.Proofs.Ytejcglenjhkhhaa.lawRowStiff
open Go.ChangeShapes Go.WideShapes Go.ChangeAt Go.RowKit
set_option linter.unusedVariables false

theorem l08Stiff_c (a : Option Addr) (cap : Nat) (r : List Int) (w : World) (h : Nums .i64 w a r) (hn : r.length ≤ 10) (hv : ∀ j, j < r.length → 1 ≤ nth r j ∧ nth r j ≤ 200) :
    Calls Try.prog 70 #[.slice a r.length cap] w fun e w' => e = .returned (.int .i64 (stiffF r)) ∧ Drawn w w' := by
  have HS := Lib.hid (cubeTo_bd hv)
  have HW := Lib.hid hv
  have HF := Lib.hid (show stiffF r = cubeTo r r.length from rfl)
  clear hv
  go_enter Try.func70, Try.ntmps70
  go_wp2
  go_loopw [3, 4] (fun s i wr => ∃ c : Nat, c ≤ r.length ∧ i = .int .i64 c ∧ s = .int .i64 (cubeTo r c) ∧ Drawn w wr) (fun _ i _ => r.length - (intOf i).toNat)
  case atStart => exact ⟨0, Nat.zero_le _, rfl, rfl, Drawn.refl _⟩
  case round =>
    obtain ⟨c, hcl, rfl, rfl, hdr⟩ := hrel
    have hsb := HS.out c hcl
    by_cases hct : c < r.length
    · obtain ⟨b2, o2, rfl, hb2, hc2⟩ := (h.below hdr.below).pos hct
      have hv := HW.out c hct
      have hcb := cube_bd hv
      have HC := Lib.hid (show cubeTo r (c + 1) = cubeTo r c + nth r c * nth r c * nth r c from rfl)
      have i0 : (0 : Int) ≤ (c : Int) := by omega
      have i1 : (c : Int) < r.length := by omega
      have q1 := IntWalk.i64_in (nth r c * nth r c) (by omega)
      have q2 := IntWalk.i64_in (nth r c * nth r c * nth r c) (by omega)
      have q3 := IntWalk.i64_in (cubeTo r c + nth r c * nth r c * nth r c) (by omega)
      clear h
      go_wp2_with fail
      go_quiet (fail)
      go_wp2
      go_roundw
      case rel => exact ⟨c + 1, by omega, by go_num, by rw [HC.out], hdr.step _⟩
      case measure => simp [intOf]; omega
    · obtain rfl : c = r.length := by omega
      go_wp2
      go_ret
      exact ⟨by rw [HF.out]; rfl, hdr⟩

def fZ (g : List (List Int)) : List Int := if gridB 1 200 g then stiffs g g.length else []
def fC (g : List (List Int)) : Int := if gridB 1 200 g then 0 else 1
theorem f_len (g : List (List Int)) : (fZ g).length ≤ 1048576 := by
  unfold fZ
  cases h : gridB 1 200 g
  · simp
  · rw [if_pos rfl, stiffs_len]
    have := (gridB_true h).rows
    omega
theorem i_c (a : Option Addr) (cap : Nat) (g : List (List Int)) (w : World) (h : Grid w a g) (hs : Small g) :
    Calls Try.prog 25 #[.slice a g.length cap] w fun e w' => ∃ a' cap', e = .returned (.tuple #[.slice a' (fZ g).length cap', .int .i64 (fC g)]) ∧ (RowA w.heap.size w'.heap.size w' a' (fZ g) ∧ Below w.heap.size w w') := by
  cases hg : gridB 1 200 g
  · refine (rowStiff_bad a cap g w h hs hg).mono ?_
    rintro e w' ⟨rfl, rfl⟩
    exact ⟨none, 0, by simp [fZ, fC, hg], .inl (by simp [fZ, hg]), Below.refl _ _⟩
  · refine (rowStiff_c a cap g w h hs hg).mono ?_
    rintro e w' ⟨v, rfl, hown, hb⟩
    obtain ⟨a', cap', rfl, hr⟩ := hown.rowA
    exact ⟨a', cap', by simp [fZ, fC, hg], by simpa [fZ, hg] using hr, hb⟩
theorem s_c (a : Option Addr) (cap : Nat) (g : List (List Int)) (w : World) (h : Grid w a g) (hs : Small g) :
    Calls Try.prog 24 #[.slice a g.length cap] w fun e w' => ∃ a' cap', e = .returned (.tuple #[.slice a' (fZ g).length cap', .int .i64 (fC g)]) ∧ (RowA w.heap.size w'.heap.size w' a' (fZ g) ∧ Below w.heap.size w w') := by
  cases hg : gridB 1 200 g
  · go_enter Try.func24, Try.ntmps24
    go_wp2_with fail
    refine call_below (l08Ok_c _ _ g _ h hs) ?_
    rw [hg]
    intro w1 hb1
    go_wp2
    go_ret2
    exact ⟨none, 0, by simp [fZ, fC, hg], .inl (by simp [fZ, hg]), hb1⟩
  · obtain ⟨i0, hi, hz0, hz1, hz2⟩ := info_parts infoI'
    have HZ := Lib.hid (show fZ g = stiffs g g.length by simp [fZ, hg])
    have HC := Lib.hid (show fC g = 0 by simp [fC, hg])
    have ok := gridB_true hg
    have hr10 := ok.rows
    have HR := Lib.hid ok.range
    have HL10 := Lib.hid (fun j (hj : j < g.length) => show (nthL g j).length ≤ 10 by have := ok.same j hj; have := ok.cols; omega)
    clear ok
    go_enter Try.func24, Try.ntmps24
    go_wp2_with fail
    refine call_below (l08Ok_c _ _ g _ h hs) ?_
    rw [hg]
    intro w1 hb1
    have HG := Lib.hid (h.below hb1)
    have HB := Lib.hid hb1
    clear h hs hg hb1
    go_wp2
    go_loopw [4, 5] (fun v i wr => ∃ k : Nat, k ≤ g.length ∧ i = .int .i64 k ∧ OwnI w1.heap.size wr v (stiffs g k) ∧ Below w1.heap.size w1 wr) (fun _ i _ => g.length - (intOf i).toNat)
    case atStart => exact ⟨0, Nat.zero_le _, rfl, ⟨World.ownsRow_made w1 #[] 0 (Nat.le_refl _) (Nat.zero_le _) rfl, by simp⟩, (Below.refl _ _).alloc (Nat.le_refl _) _⟩
    case round =>
      obtain ⟨k, hk, rfl, hown, hbl⟩ := hrel
      have HO := Lib.hid hown
      have HL := Lib.hid hbl
      by_cases hlt : k < g.length
      · obtain ⟨b, o, rfl, hb, ar, cr, hc, hnu⟩ := (HG.out.below hbl).pos hlt
        have HE := Lib.hid (stiffs_succ g k)
        have HN := Lib.hid (stiffs_len g k)
        have hl10 := HL10.out k hlt
        have hrow := HR.out k hlt
        clear hown hbl
        go_wp2_with fail
        refine call_pred (l08Stiff_c ar cr _ _ hnu hl10 hrow) ?_
        intro w2 hd2
        have HO2 := Lib.hid (HO.out.below hd2.below)
        have HL2 := Lib.hid (below_next HL.out hd2.below)
        clear hd2 hrow hnu hc
        go_wp2_with (at_builtin; refine wpList_append_own _ rfl _ _ 32 rfl w1.heap.size 2 i0 (.int .i64 0) 1 8 Try.underlying32 hi hz0 hz1 hz2 rfl (by decide) _ _ _ rfl (HO2.out.1.alloc _) ⟨w2.heap.size, 0, none⟩ 1 1 [.int .i64 (stiffF (nthL g k))] rfl rfl (own_new1 _ _ _) ?c2 ?c3 ?c4 ?c5 ?_)
        case c2 => (first | rfl | (intro u hu; simp at hu; subst hu; rfl))
        case c3 => have := HN.out; unfold maxLen; omega
        case c4 => have := HN.out; omega
        case c5 => have := HL2.out.size; simp; omega
        · intro v' w3 hown' hgrow hnil
          have hb1 : Below w1.heap.size w1 w3 := below_grown (HL2.out.alloc HL2.out.size _) (by have := HL2.out.size; simp; omega) hgrow fun q hq => HO2.out.lt q hq
          have HX := Lib.hid (show OwnI w1.heap.size w3 v' (stiffs g (k + 1)) by rw [HE.out]; exact OwnI.snoc hown' hnil)
          have HY := Lib.hid hb1
          clear hown' hgrow hnil hb1
          go_wp2
          go_roundw
          case rel => exact ⟨k + 1, by omega, by go_num, HX.out, HY.out⟩
          case measure => simp [intOf]; omega
      · obtain rfl : k = g.length := by omega
        clear hown
        go_wp2
        go_ret2
        obtain ⟨a', cap', rfl, hr⟩ := HO.out.rowA
        refine ⟨a', cap', ?_, ?_, below_next HB.out HL.out⟩
        · rw [HZ.out, HC.out]; rfl
        · rw [HZ.out]; exact hr.wide HB.out.size (Nat.le_refl _)
set_option maxRecDepth 100000 in
set_option maxHeartbeats 1000000 in
theorem walk (a0 : Option Addr) (cap0 : Nat) (z0 : List (List Int)) (w : World) (h0 : Grid w a0 z0) (hm0 : z0.length ≤ maxLen) (hr0 : ∀ j, j < z0.length → (nthL z0 j).length ≤ maxLen) :
    Calls Try.prog 5 #[.slice a0 z0.length cap0] w fun e w' => e = .returned (.bool true) ∧ Below w.heap.size w w' := by
  have hZ := f_len z0 
  have HZ := Lib.hid hZ
  clear hZ
  by_cases hn0 : ((z0.length + sumL z0 z0.length : Nat) : Int) ≤ 1048576
  rotate_left
  · have HN0 := Lib.hid hn0
    clear hn0
    go_enter Try.func5, Try.ntmps5
    go_wp2_with fail
    refine call_same (szInt64SS_c a0 cap0 z0 _ _ h0 hm0 hr0 (by omega) (by omega)) ?_
    rw [szF_no]
    rotate_left
    · have := HN0.out; omega
    go_wp2
    go_ret
    exact ⟨rfl, Below.refl _ _⟩
  have hS0 : Small z0 := by unfold Small; omega
  have HN0 := Lib.hid hn0
  have HS0 := Lib.hid hS0
  have hq0 : (z0.length : Int) + (sumL z0 z0.length : Int) ≤ 1048576 := by omega
  clear hn0 hS0
  go_enter Try.func5, Try.ntmps5
  go_wp2_with fail
  refine call_same (szInt64SS_c a0 cap0 z0 _ _ h0 hm0 hr0 (by omega) (by omega)) ?_
  rw [szF_yes]
  rotate_left
  · have := HN0.out; omega
  go_wp2_with fail
  refine call_pred (toInt64SS_c a0 cap0 z0 _ h0 HS0.out) ?_
  rintro w1 ⟨r1, b1⟩
  have HA1 := Lib.hid b1
  have HY1 := Lib.hid (Laid.grid r1)
  clear r1 b1
  go_wp2_with fail
  refine (s_c _ _ z0 _ HY1.out HS0.out).mono ?_
  rintro e2 w2 ⟨a2, c2, rfl, r2, b2⟩
  have HA2 := Lib.hid (below_next HA1.out b2)
  have HW2 := Lib.hid r2.nums
  clear r2 b2 HY1
  go_wp2_with fail
  refine call_pred (toInt64SS_c a0 cap0 z0 _ (h0.below HA2.out) HS0.out) ?_
  rintro w3 ⟨r3, b3⟩
  have HA3 := Lib.hid (below_next HA2.out b3)
  have HB3 := Lib.hid b3
  have HX3 := Lib.hid (Laid.gridA r3)
  have HC3 := Lib.hid (Nat.le_refl w3.heap.size)
  clear r3 b3
  go_wp2_with fail
  refine (i_c _ _ z0 _ HX3.out.grid HS0.out).mono ?_
  rintro e4 w4 ⟨a4, c4, rfl, r4, b4⟩
  have HA4 := Lib.hid (below_next HA3.out b4)
  have HB4 := Lib.hid (below_next HB3.out b4)
  have HX4 := Lib.hid (HX3.out.below HC3.out b4)
  have HC4 := Lib.hid (Nat.le_trans HC3.out b4.size)
  have HG4 := Lib.hid r4
  have HD4 := Lib.hid (Nat.le_refl w4.heap.size)
  clear r4 b4
  go_wp2_with fail
  refine call_below (eqInt64S_c a4 a2 _ _ (fZ z0 ) _ HG4.out.nums (HW2.out.below HB4.out) HZ.out) ?_
  intro w5 b5
  have HA5 := Lib.hid (below_next HA4.out b5)
  have HB5 := Lib.hid (below_next HB4.out b5)
  have HX5 := Lib.hid (HX4.out.below HC4.out b5)
  have HG5 := Lib.hid (HG4.out.below HD4.out b5)
  have HC5 := Lib.hid (Nat.le_trans HC4.out b5.size)
  have HD5 := Lib.hid (Nat.le_trans HD4.out b5.size)
  clear b5
  go_wp2_with fail
  refine call_pred (toInt64SS_c a0 cap0 z0 _ (h0.below HA5.out) HS0.out) ?_
  rintro w6 ⟨r6, b6⟩
  have HA6 := Lib.hid (below_next HA5.out b6)
  have HB6 := Lib.hid (below_next HB5.out b6)
  have HX6 := Lib.hid (HX5.out.below HC5.out b6)
  have HG6 := Lib.hid (HG5.out.below HD5.out b6)
  have HC6 := Lib.hid (Nat.le_trans HC5.out b6.size)
  have HD6 := Lib.hid (Nat.le_trans HD5.out b6.size)
  have HY6 := Lib.hid (Laid.grid r6)
  clear r6 b6
  go_wp2_with fail
  refine call_below (eqInt64SS_c _ _ _ _ z0 _ HX6.out.grid HY6.out HS0.out) ?_
  intro w7 b7
  have HA7 := Lib.hid (below_next HA6.out b7)
  have HB7 := Lib.hid (below_next HB6.out b7)
  have HX7 := Lib.hid (HX6.out.below HC6.out b7)
  have HG7 := Lib.hid (HG6.out.below HD6.out b7)
  have HC7 := Lib.hid (Nat.le_trans HC6.out b7.size)
  have HD7 := Lib.hid (Nat.le_trans HD6.out b7.size)
  clear b7 HY6
  go_wp2_with fail
  refine call_pred (markInt64SS_c _ _ _ _ z0 1 _ HX7.out HS0.out (by omega) (by omega)) ?_
  rintro w8 ⟨r8, md8⟩
  have HA8 := Lib.hid (HA7.out.trans (md8.below.mono HA2.out.size))
  have HB8 := Lib.hid (HB7.out.trans (md8.below))
  have HG8 := Lib.hid (HG7.out.mid md8 (.inl (Nat.le_refl _)))
  have HC8 := Lib.hid (Nat.le_trans HC7.out (Nat.le_of_eq md8.size.symm))
  have HD8 := Lib.hid (Nat.le_trans HD7.out (Nat.le_of_eq md8.size.symm))
  clear md8 HX3 HX4 HX5 HX6 HX7 r8
  go_wp2_with fail
  refine call_below (eqInt64S_c a4 a2 _ _ (fZ z0 ) _ HG8.out.nums (HW2.out.below HB8.out) HZ.out) ?_
  intro w9 b9
  have HA9 := Lib.hid (below_next HA8.out b9)
  have HB9 := Lib.hid (below_next HB8.out b9)
  have HG9 := Lib.hid (HG8.out.below HD8.out b9)
  have HC9 := Lib.hid (Nat.le_trans HC8.out b9.size)
  have HD9 := Lib.hid (Nat.le_trans HD8.out b9.size)
  clear b9
  go_wp2_with fail
  refine call_pred (markInt64S_c _ _ a4 _ (fZ z0 ) 1 _ HG9.out HZ.out (by omega) (by omega)) ?_
  rintro w10 ⟨r10, md10⟩
  have HA10 := Lib.hid (HA9.out.trans (md10.below.mono HA3.out.size))
  have HB10 := Lib.hid (HB9.out.trans (md10.below.mono HB3.out.size))
  have HC10 := Lib.hid (Nat.le_trans HC9.out (Nat.le_of_eq md10.size.symm))
  have HD10 := Lib.hid (Nat.le_trans HD9.out (Nat.le_of_eq md10.size.symm))
  have HG10 := Lib.hid r10
  clear r10 md10
  go_wp2_with fail
  refine call_same (heldInt64S_c a4 _ 1 (fZ z0 ).length _ HG10.out.nums HZ.out (by omega) (by omega)) ?_
  go_wp2_with fail
  refine call_pred (toInt64SS_c a0 cap0 z0 _ (h0.below HA10.out) HS0.out) ?_
  rintro w11 ⟨r11, b11⟩
  have HA11 := Lib.hid (below_next HA10.out b11)
  have HB11 := Lib.hid (below_next HB10.out b11)
  have HG11 := Lib.hid (HG10.out.below HD10.out b11)
  have HC11 := Lib.hid (Nat.le_trans HC10.out b11.size)
  have HD11 := Lib.hid (Nat.le_trans HD10.out b11.size)
  have HY11 := Lib.hid (Laid.grid r11)
  clear r11 b11
  go_wp2_with fail
  refine (i_c _ _ z0 _ HY11.out HS0.out).mono ?_
  rintro e12 w12 ⟨a12, c12, rfl, r12, b12⟩
  have HA12 := Lib.hid (below_next HA11.out b12)
  have HB12 := Lib.hid (below_next HB11.out b12)
  have HG12 := Lib.hid (HG11.out.below HD11.out b12)
  have HC12 := Lib.hid (Nat.le_trans HC11.out b12.size)
  have HD12 := Lib.hid (Nat.le_trans HD11.out b12.size)
  have HH12 := Lib.hid r12.nums
  clear r12 b12
  go_wp2_with fail
  refine call_below (eqInt64S_c a12 a2 _ _ (fZ z0 ) _ HH12.out (HW2.out.below HB12.out) HZ.out) ?_
  intro w13 b13
  have HA13 := Lib.hid (below_next HA12.out b13)
  have HB13 := Lib.hid (below_next HB12.out b13)
  have HG13 := Lib.hid (HG12.out.below HD12.out b13)
  have HC13 := Lib.hid (Nat.le_trans HC12.out b13.size)
  have HD13 := Lib.hid (Nat.le_trans HD12.out b13.size)
  clear b13
  go_wp2_with fail
  refine call_same (heldInt64S_c a4 _ 1 (fZ z0 ).length _ HG13.out.nums HZ.out (by omega) (by omega)) ?_
  go_wp2
  go_ret
  exact ⟨rfl, HA13.out⟩

theorem own : ownKnob Try.prog.godebug = none := by kernel_rfl
theorem laidOut : laidOutB Try.prog = true := by kernel_rfl
set_option maxRecDepth 100000 in
theorem lifted (os : Os) (started : os.Started) (H : Type) (enc : TypeId × Value → H) :
    ReturnsInHanded {} Try.checked os 5 .any (Rows.fnExactRowStiffSpec.pre6 enc Try.prog Try.f5 Rows.fnExactRowStiffRow.domain false) (Rows.fnExactRowStiffSpec.post enc Try.prog Try.f5 false true false false) := by
  refine returnsInHanded_of_change (C := Try.checked) own started (by kernel_rfl) Try.func5
    (ChangeSpec.witness6 (enc := enc) (C := Try.checked) false ⟨#[], #[.slice none 0 0], []⟩ 8 (by kernel_rfl) (by kernel_rfl) (by kernel_rfl) (by kernel_rfl)) ?_
  intro W base args ds gs before hval0 hW hcnd _
  have hval : ∀ (j : Nat) t v, Try.f5.params[j]? = some t → args[j]? = some v → Value.okWide Try.prog W .any base t v := hval0
  have hW' := hW
  obtain ⟨p, q, hA0, hV, rfl, hfz, hnd⟩ := hW
  have hA : DataW.TrodAll enc Try.prog W 0 (fun _ => true) true Try.f5.params.toList args.toList ds p := hA0
  rw [Try.params5] at hA hval
  obtain ⟨v0, vs0, d0, ds0, p0, q0, hargs, rfl, rfl, h0, r0⟩ := trodAll_cons hA
  obtain ⟨rfl, rfl, rfl⟩ := trodAll_nil r0
  obtain rfl : args = #[v0] := by cases args; simp_all
  obtain ⟨rfl, rfl⟩ := trodVars_none hV
  have k0 := h0
  have lt0 : ∀ x ∈ p0, x.block < W.heap.size := by obtain ⟨m, hm⟩ := k0; exact DataW.trod_lt m _ _ _ hm
  obtain ⟨a0, len0, cap0, rfl⟩ := okWide_slice Try.underlying22 (hval 0 22 v0 rfl rfl)
  obtain ⟨z0, rfl, w0, m0, f0⟩ : ∃ g : List (List Int), g.length = len0 ∧ Grid W a0 g ∧ g.length ≤ maxLen ∧ ∀ j, j < g.length → (nthL g j).length ≤ maxLen := by
    obtain ⟨fuel, hf⟩ := h0
    exact grid_open Try.underlying22 Try.underlying32 Try.underlying2 (by kernel_rfl) (by kernel_rfl) hf
  clear hA0 hval0
  refine (walk a0 cap0 z0 W w0 m0 f0).mono fun e W' ⟨he, bel⟩ => ?_
  subst he
  exact ⟨_, rfl, _, _, _, [], _, [], hW', trodAll_mk1 (shut_bool Try.underlying4 _), (trodAll_cons_mk (Below.trod laidOut (by kernel_rfl) (of_decide_eq_true (by kernel_rfl)) k0 bel lt0) trodAll_mk0), rfl, bel.frame _, fun h => by cases h⟩

theorem over : Rows.fnExactRowStiffRow.holds Try.pinned (OpenSpec.ofChange Rows.fnExactRowStiffSpec) :=
  OpenClaim.holds_of_wide 5 Try.f5 rfl rfl rfl rfl rfl rfl rfl ⟨rfl, rfl, rfl, rfl, rfl⟩ rfl rfl rfl rfl rfl (by kernel_rfl) Try.func5 (by kernel_rfl)
    (of_decide_eq_true (by kernel_rfl)) (by unfold Func.isWrapper; first | (rw [if_pos (by decide +kernel)]; kernel_rfl) | (rw [if_neg (by decide +kernel)]; exact ⟨rfl, rfl⟩))
    (fun os started H enc _ => lifted os started H enc)

/-- THE STATEMENT. -/
theorem proved : Rows.FnExactRowStiffSaid := over
#print axioms proved
end Go.Proofs.Ytejcglenjhkhhaa.lawRowStiff
