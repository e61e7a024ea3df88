/- The law of archings: smoothing never leaves the range of heights, hollows have the thickness everywhere, and water runs to the edge unless a pit inside holds it. No condition. -/
import Derived.Test.YtlenihncfhemkaaRows
import Derived.Test.YtlenihncfhemkaaArchB
import Derived.Test.YtlenihncfhemkaaChannel
import Derived.Test.YtlenihncfhemkaaDrawArch
import Derived.OpenShut
import Derived.ChangeOld
import Derived.Lib.SmallJoins
namespace Go.Proofs.Ytlenihncfhemkaa.lawArching
open Go.ChangeShapes Go.WideShapes Go.ChangeAt Go.RowKit
set_option linter.unusedVariables false

set_option maxRecDepth 100000 in
set_option maxHeartbeats 8000000 in
theorem walk (a0 : Option Addr) (cap0 : Nat) (z0 : List Int) (a1 : Option Addr) (cap1 : Nat) (z1 : List Int) (w : World) (h0 : Nums .u8 w a0 z0) (m0 : z0.length ≤ maxLen) (f0 : ∀ n ∈ z0, (Lit.int .u8 n).wf = true) (h1 : Nums .u8 w a1 z1) (m1 : z1.length ≤ maxLen) (f1 : ∀ n ∈ z1, (Lit.int .u8 n).wf = true) :
    Calls Try.prog 3 #[.slice a0 z0.length cap0, .slice a1 z1.length cap1] w fun e w' => e = .returned (.bool true) ∧ Below w.heap.size w w' := by
  have HB0 := Lib.hid (bytes_wf f0)
  have HB1 := Lib.hid (bytes_wf f1)
  have HN0 := Lib.hid h0
  have HN1 := Lib.hid h1
  have HLL := Lib.hid (r8Long_c a0 a1 cap0 cap1 z0 z1 w m0 m1)
  clear f0 f1 h0 h1 m0 m1
  by_cases hl : 1048576 < z0.length ∨ 1048576 < z1.length
  · rw [decide_eq_true hl] at HLL
    clear hl
    go_enter Try.func3, Try.ntmps3
    go_wp2_with (go_at_call 4; refine call_same HLL.out ?_)
    go_ret
    exact ⟨rfl, Below.refl _ _⟩
  rw [decide_eq_false hl] at HLL
  have HZ0 := Lib.hid (show z0.length ≤ 1048576 by omega)
  have HZ1 := Lib.hid (show z1.length ≤ 1048576 by omega)
  clear hl
  go_enter Try.func3, Try.ntmps3
  go_wp2_with fail
  refine call_same HLL.out ?_
  go_wp2_with fail
  refine (r8Arch_c a0 cap0 z0 w HN0.out HB0.out HZ0.out).mono ?_
  rintro e w1 ⟨ag, capg, g, rfl, hg, hsm, hgb, hb1⟩
  obtain ⟨bg, og, rfl, -, ar, cr, hc, -⟩ := hg.pos (j := 0) (by have := (gridB_true hgb).rows; omega)
  rw [Nat.add_zero] at hc
  have HOK := Lib.hid (gridB_true hgb)
  have HG1 := Lib.hid hg
  have HSM := Lib.hid hsm
  have HGB := Lib.hid hgb
  have HA1 := Lib.hid hb1
  have hl10 := HOK.out.rows
  have hc10 := HOK.out.cols
  have hgz : (0 : Int) < (g.length : Int) := by omega
  have hgn : 0 < g.length := by omega
  clear hg hsm hgb hb1 HN0 HB0 HZ0 HLL
  go_wp2_with fail
  refine (highestOf_c _ capg g w1 HG1.out HSM.out HGB.out).mono ?_
  rintro e w2 ⟨p, rfl, htop, hb2⟩
  have HTP := Lib.hid htop
  have HG2 := Lib.hid (HG1.out.below hb2)
  have HA2 := Lib.hid (below_next HA1.out hb2)
  clear htop hb2 hc HG1 HA1
  go_wp2_with fail
  refine call_below (steepStep_c _ capg g w2 HG2.out HSM.out HGB.out) ?_
  intro w3 hb3
  have HG3 := Lib.hid (HG2.out.below hb3)
  have HA3 := Lib.hid (below_next HA2.out hb3)
  clear hb3 HG2 HA2
  have HST := Lib.hid (show steepF g = steepF g from rfl)
  generalize hst : steepF g = st
  have HSTE := Lib.hid hst
  clear hst HST
  go_wp2_with fail
  refine (channelGap_c _ capg g w3 HG3.out HSM.out HGB.out).mono ?_
  rintro e w4 ⟨gp, rfl, hgp, hb4⟩
  have HG4 := Lib.hid (HG3.out.below hb4)
  have HA4 := Lib.hid (below_next HA3.out hb4)
  clear hb4 HG3 HA3
  go_wp2_with fail
  refine (mirrorGap_c _ capg g w4 HG4.out HSM.out HGB.out).mono ?_
  rintro e w5 ⟨m, rfl, hmi, hb5⟩
  have HMI := Lib.hid hmi
  have HG5 := Lib.hid (HG4.out.below hb5)
  have HA5 := Lib.hid (below_next HA4.out hb5)
  clear hb5 hmi HG4 HA4
  go_wp2_with fail
  refine (shPitsOf.i_c _ capg g w5 HG5.out HSM.out).mono ?_
  rintro e w6 ⟨ap, capp, rfl, hga, hb6⟩
  have HPS0 := Lib.hid (shPitsOf.f_small g)
  have hz : shPitsOf.fZ g = chosenG g (shPitsOf.pitB g) := by unfold shPitsOf.fZ; rw [HGB.out]; rfl
  have hcd : shPitsOf.fC g = 0 := by unfold shPitsOf.fC; rw [HGB.out]; rfl
  rw [hz] at hga HPS0
  rw [hz, hcd]
  have HP6 := Lib.hid hga.grid
  have HPV := Lib.hid (show ∀ j, j < (chosenG g (shPitsOf.pitB g)).length → ∃ p : Nat × Nat, (p.1 < g.length ∧ p.2 < (nthL g 0).length) ∧ p ∈ plTo g g.length ∧ shPitsOf.pitB g p = true ∧ nthL (chosenG g (shPitsOf.pitB g)) j = [(p.1 : Int), (p.2 : Int)] from fun j hj => by
    obtain ⟨p, hp, hE, hr⟩ := pair_at hj
    have hin := plTo_in (Nat.le_refl _) hp
    have := HOK.out.same p.1 hin.1
    exact ⟨p, ⟨hin.1, by omega⟩, hp, hE, hr⟩)
  have HG6 := Lib.hid (HG5.out.below hb6)
  have HA6 := Lib.hid (below_next HA5.out hb6)
  clear hz hcd hga hb6 HG5 HA5
  generalize chosenG g (shPitsOf.pitB g) = Z at HPS0 HP6 HPV ⊢
  have HPS := Lib.hid HPS0.out
  clear HPS0
  go_wp2_with fail
  refine (shSmoothArch.i_c _ capg g w6 HG6.out HSM.out).mono ?_
  rintro e w7 ⟨as_, caps, rfl, hga, hb7⟩
  have HSS0 := Lib.hid (shSmoothArch.f_small g)
  have hz : shSmoothArch.fZ g = shSmoothArch.smG g := by unfold shSmoothArch.fZ; rw [HGB.out]; rfl
  have hcd : shSmoothArch.fC g = 0 := by unfold shSmoothArch.fC; rw [HGB.out]; rfl
  rw [hz] at hga HSS0
  rw [hz, hcd]
  have HS7 := Lib.hid hga.grid
  have HSL := Lib.hid (smG_len g)
  have HSR := Lib.hid (show ∀ i, i < g.length → (nthL (shSmoothArch.smG g) i).length = (nthL g 0).length from fun i hi => by rw [smG_row hi, HOK.out.same i hi])
  have HSF := Lib.hid (show ∀ i k, i < g.length → k < (nthL g 0).length → nth (nthL (shSmoothArch.smG g) i) k = smF g (i, k) from fun i k hi hk => smG_at hi (by rw [HOK.out.same i hi]; exact hk))
  have HG7 := Lib.hid (HG6.out.below hb7)
  have HP7 := Lib.hid (HP6.out.below hb7)
  have HA7 := Lib.hid (below_next HA6.out hb7)
  rw [HSL.out]
  clear hz hcd hga hb7 HG6 HA6 HP6
  generalize shSmoothArch.smG g = S at HSS0 HS7 HSL HSR HSF ⊢
  go_wp2_with fail
  refine call_below (woodOver_c _ capg g w7 HG7.out HSM.out HGB.out) ?_
  intro w8 hb8
  have HG := Lib.hid (HG7.out.below hb8)
  have HP := Lib.hid (HP7.out.below hb8)
  have HS := Lib.hid (HS7.out.below hb8)
  have HA := Lib.hid (below_next HA7.out hb8)
  clear hb8 HG7 HP7 HS7 HA7
  generalize hWd : woodF g = Wd
  have HWD := Lib.hid hWd
  clear hWd
  go_upto_region 13 with fail
  go_cut [8, 9, 148] from 43 to 148 (fun vx vy v wx => vx = .int .i64 (p.1 : Int) ∧ vy = .int .i64 (p.2 : Int) ∧ v = .bool false ∧ wx = w8)
  case first =>
    have HVA := Lib.hid (validArch_c _ capg g w8 HG.out HSM.out)
    rw [HGB.out] at HVA
    have hin := HTP.out.1
    have hcs := HOK.out.same p.1 hin.1
    obtain ⟨x, hx⟩ : ∃ x : Int, (p.1 : Int) = x := ⟨_, rfl⟩
    obtain ⟨y, hy⟩ : ∃ y : Int, (p.2 : Int) = y := ⟨_, rfl⟩
    have d1 : decide (x < 0) = false := decide_eq_false (by omega)
    have d2 : decide (y < 0) = false := decide_eq_false (by omega)
    have d3 : decide ((g.length : Int) ≤ x) = false := decide_eq_false (by omega)
    have d4 : decide (((nthL g 0).length : Int) ≤ y) = false := decide_eq_false (by omega)
    have d5 : decide (gp < 0) = false := decide_eq_false (by omega)
    have d6 : ((g.length : Int) != (g.length : Int)) = false := by simp
    rw [hx, hy]
    have HXY := Lib.hid (And.intro hx hy)
    clear HN1 HB1 HZ1 HOK HSM HGB HTP HPV HPS HSS0 HSL HSR HSF HMI HP HS HA HG hx hy hin hcs
    go_wp2_with (go_at_call 13; refine call_same HVA.out ?_)
    go_meet
    case rel => exact ⟨by rw [HXY.out.1], by rw [HXY.out.2], rfl, rfl⟩
  case rest =>
    obtain ⟨rfl, rfl, rfl, rfl⟩ := hcut
    have hin := HTP.out.1
    have hcs := HOK.out.same p.1 hin.1
    obtain ⟨ap1, cp1, hd, hnv⟩ := HG.out.at_ hin.1
    obtain ⟨bl, ol, rfl, -, he⟩ := hnv.pos hin.2
    rw [hcs] at hd
    have hx0 : (0 : Int) ≤ (p.1 : Int) := by omega
    have hx1 : (p.1 : Int) < (g.length : Int) := by omega
    have hy0 : (0 : Int) ≤ (p.2 : Int) := by omega
    have hy1 : (p.2 : Int) < ((nthL g 0).length : Int) := by omega
    have HTE := Lib.hid (show atG g p = nth (nthL g p.1) p.2 from rfl)
    generalize nth (nthL g p.1) p.2 = top at he HTE
    clear hnv
    go_upto_region 17 with fail
    go_cut [25] from 149 to 156 (fun v wx => v = .int .i64 0 ∧ wx = wc)
    case first =>
      go_wp2
      go_meet
      case rel => exact ⟨rfl, rfl⟩
    case rest =>
      obtain ⟨rfl, rfl⟩ := hcut
      go_step
      have hWd := HWD.out
      have hst := HSTE.out
      subst hWd hst
      exact partB a1 cap1 z1 w HN1.out HB1.out HZ1.out _ capg g _ HG.out HSM.out HGB.out HA.out as_ caps S HS.out HSS0.out HSL.out HSR.out HSF.out _ capp Z HP.out HPV.out HPS.out top (steepF g) m
        (by rw [← HTE.out]; exact LowTo.zero HTP.out.1)
        (fun x y hx hy => by rw [← HTE.out]; exact top_at HTP.out hx hy)
        (fun x y hx hy h => steep_up HOK.out hx hy h)
        (fun x y hx hy h => steep_left HOK.out hx hy h)
        (fun x y hx hy => mir_at HMI.out hx hy) _ rfl

theorem own : ownKnob Try.prog.godebug = none := by kernel_rfl
theorem laidOut : laidOutB Try.prog = true := by kernel_rfl
set_option maxRecDepth 100000 in
theorem lifted (os : Os) (started : os.Started) (H : Type) (enc : TypeId × Value → H) :
    ReturnsInHanded {} Try.checked os 3 .any (Rows.fnArchingSpec.pre6 enc Try.prog Try.f3 Rows.fnArchingRow.domain false) (Rows.fnArchingSpec.post enc Try.prog Try.f3 false true false false) := by
  refine returnsInHanded_of_change (C := Try.checked) own started (by kernel_rfl) Try.func3
    (ChangeSpec.witness6 (enc := enc) (C := Try.checked) false ⟨#[], #[.slice none 0 0, .slice none 0 0], []⟩ 8 (by kernel_rfl) (by kernel_rfl) (by kernel_rfl) (by kernel_rfl)) ?_
  intro W base args ds gs before hval0 hW hcnd _
  have hval : ∀ (j : Nat) t v, Try.f3.params[j]? = some t → args[j]? = some v → Value.okWide Try.prog W .any base t v := hval0
  have hW' := hW
  obtain ⟨p, q, hA0, hV, rfl, hfz, hnd⟩ := hW
  have hA : DataW.TrodAll enc Try.prog W 0 (fun _ => true) true Try.f3.params.toList args.toList ds p := hA0
  rw [Try.params3] at hA hval
  obtain ⟨v0, vs0, d0, ds0, p0, q0, hargs, rfl, rfl, h0, r0⟩ := trodAll_cons hA
  obtain ⟨v1, vs1, d1, ds1, p1, q1, rfl, rfl, rfl, h1, r1⟩ := trodAll_cons r0
  obtain ⟨rfl, rfl, rfl⟩ := trodAll_nil r1
  obtain rfl : args = #[v0, v1] := by cases args; simp_all
  obtain ⟨rfl, rfl⟩ := trodVars_none hV
  have k0 := h0
  have lt0 : ∀ x ∈ p0, x.block < W.heap.size := by obtain ⟨m, hm⟩ := k0; exact DataW.trod_lt m _ _ _ hm
  obtain ⟨a0, len0, cap0, rfl⟩ := okWide_slice Try.underlying22 (hval 0 22 v0 rfl rfl)
  obtain ⟨z0, rfl, w0, m0, f0⟩ : ∃ zs : List Int, zs.length = len0 ∧ Nums .u8 W a0 zs ∧ zs.length ≤ maxLen ∧ ∀ n ∈ zs, (Lit.int .u8 n).wf = true := by
    obtain ⟨fuel, hf⟩ := h0
    exact nums_open Try.underlying22 Try.underlying5 (by kernel_rfl) hf
  have k1 := h1
  have lt1 : ∀ x ∈ p1, x.block < W.heap.size := by obtain ⟨m, hm⟩ := k1; exact DataW.trod_lt m _ _ _ hm
  obtain ⟨a1, len1, cap1, rfl⟩ := okWide_slice Try.underlying22 (hval 1 22 v1 rfl rfl)
  obtain ⟨z1, rfl, w1, m1, f1⟩ : ∃ zs : List Int, zs.length = len1 ∧ Nums .u8 W a1 zs ∧ zs.length ≤ maxLen ∧ ∀ n ∈ zs, (Lit.int .u8 n).wf = true := by
    obtain ⟨fuel, hf⟩ := h1
    exact nums_open Try.underlying22 Try.underlying5 (by kernel_rfl) hf
  clear hA0 hval0
  refine (walk a0 cap0 z0 a1 cap1 z1 W w0 m0 f0 w1 m1 f1).mono fun e W' ⟨he, bel⟩ => ?_
  subst he
  exact ⟨_, rfl, _, _, _, [], _, [], hW', trodAll_mk1 (shut_bool Try.underlying4 _), (trodAll_cons_mk (Below.trod laidOut (by kernel_rfl) (of_decide_eq_true (by kernel_rfl)) k0 bel lt0) (trodAll_cons_mk (Below.trod laidOut (by kernel_rfl) (of_decide_eq_true (by kernel_rfl)) k1 bel lt1) trodAll_mk0)), rfl, bel.frame _, fun h => by cases h⟩

theorem over : Rows.fnArchingRow.holds Try.pinned (OpenSpec.ofChange Rows.fnArchingSpec) :=
  OpenClaim.holds_of_wide 3 Try.f3 rfl rfl rfl rfl rfl rfl rfl ⟨rfl, rfl, rfl, rfl, rfl⟩ rfl rfl rfl rfl rfl (by kernel_rfl) Try.func3 (by kernel_rfl)
    (of_decide_eq_true (by kernel_rfl)) (by unfold Func.isWrapper; first | (rw [if_pos (by decide +kernel)]; kernel_rfl) | (rw [if_neg (by decide +kernel)]; exact ⟨rfl, rfl⟩))
    (fun os started H enc _ => lifted os started H enc)

/-- THE STATEMENT. -/
theorem proved : Rows.FnArchingSaid := over
#print axioms proved
end Go.Proofs.Ytlenihncfhemkaa.lawArching
