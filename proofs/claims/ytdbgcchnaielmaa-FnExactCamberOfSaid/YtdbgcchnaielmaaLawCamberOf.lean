/- The program's CamberOf returns what the reference's returns, for all arguments. No condition. -/
import Derived.Test.YtdbgcchnaielmaaRows
import Derived.Test.YtdbgcchnaielmaaStick
import Derived.Test.YtdbgcchnaielmaaDiv
import Derived.OpenShut
import Derived.ChangeOld
import Derived.Lib.SmallJoins
namespace Go.Proofs.Ytdbgcchnaielmaa.lawCamberOf
open Go.ChangeShapes Go.WideShapes Go.ChangeAt Go.RowKit
set_option linter.unusedVariables false

/-- The depth of place i, times the number of steps. -/
def depth (zs : List Int) (i : Nat) : Int := nth zs 0 * ((zs.length : Int) - 1) + (nth zs (zs.length - 1) - nth zs 0) * i - nth zs i * ((zs.length : Int) - 1)
theorem depth_zero (zs : List Int) : depth zs 0 = 0 := by simp [depth]
theorem depth_eq (zs : List Int) (i : Nat) : nth zs 0 * ((zs.length : Int) - 1 - i) + nth zs (zs.length - 1) * i - ((zs.length : Int) - 1) * nth zs i = depth zs i := by
  unfold depth
  rw [Int.mul_sub (nth zs 0) ((zs.length : Int) - 1) i, Int.sub_mul (nth zs (zs.length - 1)) (nth zs 0) i, Int.mul_comm ((zs.length : Int) - 1) (nth zs i)]
  omega
/-- The deepest place before place i. -/
def bestB (zs : List Int) : Nat → Nat
  | 0 => 0
  | i + 1 => if depth zs (bestB zs i) < depth zs i then i else bestB zs i
theorem bestB_le (zs : List Int) : ∀ i, bestB zs i ≤ i
  | 0 => Nat.le_refl _
  | i + 1 => by
    have := bestB_le zs i
    simp only [bestB]
    split <;> omega
theorem bestB_lt (zs : List Int) {i : Nat} (h : 1 ≤ i) : bestB zs i < i := by
  cases i with
  | zero => omega
  | succ i =>
    have := bestB_le zs i
    simp only [bestB]
    split <;> omega
theorem bestB_one (zs : List Int) : bestB zs 1 = 0 := by simp [bestB]
theorem best_yes {zs : List Int} {i : Nat} (h : depth zs (bestB zs i) < depth zs i) : bestB zs (i + 1) = i := by simp only [bestB]; rw [if_pos h]
theorem best_no {zs : List Int} {i : Nat} (h : ¬ depth zs (bestB zs i) < depth zs i) : bestB zs (i + 1) = bestB zs i := by simp only [bestB]; rw [if_neg h]
def fF (zs : List Int) : Int × Int × Int := if heightsB zs then (((bestB zs zs.length : Nat) : Int), rdiv (depth zs (bestB zs zs.length)) ((zs.length : Int) - 1), 0) else (0, 0, 1)

theorem mul_abs {a b A B : Int} (h1 : -A ≤ a) (h2 : a ≤ A) (h3 : 0 ≤ b) (h4 : b ≤ B) (hA : 0 ≤ A) : -(A * B) ≤ a * b ∧ a * b ≤ A * B := by
  have k1 : a * b ≤ A * b := Int.mul_le_mul_of_nonneg_right h2 h3
  have k2 : (-A) * b ≤ a * b := Int.mul_le_mul_of_nonneg_right h1 h3
  have k3 : A * b ≤ A * B := Int.mul_le_mul_of_nonneg_left h4 hA
  rw [Int.neg_mul] at k2
  omega
theorem terms_bd {zs : List Int} (hv : (∀ k, k < zs.length → -8000 ≤ nth zs k ∧ nth zs k ≤ 8000) ∧ 3 ≤ zs.length ∧ zs.length ≤ 64) {i : Nat} (hi : i < zs.length) :
    (-512000 ≤ nth zs 0 * ((zs.length : Int) - 1) ∧ nth zs 0 * ((zs.length : Int) - 1) ≤ 512000) ∧ (-16000 ≤ nth zs (zs.length - 1) - nth zs 0 ∧ nth zs (zs.length - 1) - nth zs 0 ≤ 16000) ∧
    (-1024000 ≤ (nth zs (zs.length - 1) - nth zs 0) * i ∧ (nth zs (zs.length - 1) - nth zs 0) * i ≤ 1024000) ∧ (-512000 ≤ nth zs i * ((zs.length : Int) - 1) ∧ nth zs i * ((zs.length : Int) - 1) ≤ 512000) ∧
    (-2048000 ≤ depth zs i ∧ depth zs i ≤ 2048000) := by
  obtain ⟨h, h3, h64⟩ := hv
  have e0 := h 0 (by omega)
  have e1 := h (zs.length - 1) (by omega)
  have e2 := h i hi
  have b0 := mul_abs (a := nth zs 0) (b := (zs.length : Int) - 1) (A := 8000) (B := 64) e0.1 e0.2 (by omega) (by omega) (by omega)
  have b1 := mul_abs (a := nth zs (zs.length - 1) - nth zs 0) (b := (i : Int)) (A := 16000) (B := 64) (by omega) (by omega) (by omega) (by omega) (by omega)
  have b2 := mul_abs (a := nth zs i) (b := (zs.length : Int) - 1) (A := 8000) (B := 64) e2.1 e2.2 (by omega) (by omega) (by omega)
  unfold depth
  omega
theorem terms_bd2 {zs : List Int} (hv : (∀ k, k < zs.length → -8000 ≤ nth zs k ∧ nth zs k ≤ 8000) ∧ 3 ≤ zs.length ∧ zs.length ≤ 64) {i : Nat} (hi : i < zs.length) :
    (-512000 ≤ nth zs 0 * ((zs.length : Int) - 1 - i) ∧ nth zs 0 * ((zs.length : Int) - 1 - i) ≤ 512000) ∧
    (-512000 ≤ nth zs (zs.length - 1) * i ∧ nth zs (zs.length - 1) * i ≤ 512000) ∧ (-512000 ≤ ((zs.length : Int) - 1) * nth zs i ∧ ((zs.length : Int) - 1) * nth zs i ≤ 512000) := by
  obtain ⟨h, h3, h64⟩ := hv
  have e0 := h 0 (by omega)
  have e1 := h (zs.length - 1) (by omega)
  have e2 := h i hi
  have b0 := mul_abs (a := nth zs 0) (b := (zs.length : Int) - 1 - i) (A := 8000) (B := 64) e0.1 e0.2 (by omega) (by omega) (by omega)
  have b1 := mul_abs (a := nth zs (zs.length - 1)) (b := (i : Int)) (A := 8000) (B := 64) e1.1 e1.2 (by omega) (by omega) (by omega)
  have b2 := mul_abs (a := nth zs i) (b := (zs.length : Int) - 1) (A := 8000) (B := 64) e2.1 e2.2 (by omega) (by omega) (by omega)
  rw [Int.mul_comm ((zs.length : Int) - 1) (nth zs i)]
  omega

theorem l11Depth_c (a : Option Addr) (cap : Nat) (zs : List Int) (i : Nat) (w : World) (h : Nums .i64 w a zs) (hv : (∀ k, k < zs.length → -8000 ≤ nth zs k ∧ nth zs k ≤ 8000) ∧ 3 ≤ zs.length ∧ zs.length ≤ 64) (hi : i < zs.length) :
    Calls Try.prog 65 #[.slice a zs.length cap, .int .i64 i] w fun e w' => e = .returned (.int .i64 (depth zs i)) ∧ Below w.heap.size w w' := by
  rw [← depth_eq]
  have t := terms_bd2 hv hi
  have h3 := hv.2.1
  have h64 := hv.2.2
  obtain ⟨b, o, rfl, hb, hc1⟩ := h.pos (j := 0) (by omega)
  obtain ⟨b', o', he, _, hc2⟩ := h.pos (j := zs.length - 1) (by omega)
  obtain ⟨rfl, rfl⟩ : b = b' ∧ o = o' := by simpa using he
  obtain ⟨b', o', he, _, hc3⟩ := h.pos (j := i) hi
  obtain ⟨rfl, rfl⟩ : b = b' ∧ o = o' := by simpa using he
  rw [Nat.add_zero] at hc1
  obtain ⟨t1, t2, t3⟩ := t
  clear he h hv
  have hi0 : (0 : Int) ≤ (i : Int) := by omega
  have hi1 : (i : Int) < (zs.length : Int) := by omega
  have hi2 : (0 : Int) < (zs.length : Int) := by omega
  have hi3 : (0 : Int) ≤ (zs.length : Int) - 1 := by omega
  have hi4 : (zs.length : Int) - 1 < (zs.length : Int) := by omega
  have n1 : ((zs.length : Int) - 1).toNat = zs.length - 1 := by omega
  have i1 : IntKind.i64.wrap ((zs.length : Int) - 1) = (zs.length : Int) - 1 := IntWalk.i64_in _ (by omega)
  have i2 : IntKind.i64.wrap ((zs.length : Int) - 1 - i) = (zs.length : Int) - 1 - i := IntWalk.i64_in _ (by omega)
  have i3 : IntKind.i64.wrap (nth zs 0 * ((zs.length : Int) - 1 - i)) = nth zs 0 * ((zs.length : Int) - 1 - i) := IntWalk.i64_in _ (by omega)
  have i4 : IntKind.i64.wrap (nth zs (zs.length - 1) * i) = nth zs (zs.length - 1) * i := IntWalk.i64_in _ (by omega)
  have i5 : IntKind.i64.wrap (((zs.length : Int) - 1) * nth zs i) = ((zs.length : Int) - 1) * nth zs i := IntWalk.i64_in _ (by omega)
  have i6 : IntKind.i64.wrap (nth zs 0 * ((zs.length : Int) - 1 - i) + nth zs (zs.length - 1) * i) = nth zs 0 * ((zs.length : Int) - 1 - i) + nth zs (zs.length - 1) * i := IntWalk.i64_in _ (by omega)
  have i7 : IntKind.i64.wrap (nth zs 0 * ((zs.length : Int) - 1 - i) + nth zs (zs.length - 1) * i - ((zs.length : Int) - 1) * nth zs i) = nth zs 0 * ((zs.length : Int) - 1 - i) + nth zs (zs.length - 1) * i - ((zs.length : Int) - 1) * nth zs i := IntWalk.i64_in _ (by omega)
  go_enter Try.func65, Try.ntmps65
  go_wp2_with fail
  go_quiet (fail)
  clear n1 i1 i2 i3 i4 i5 i6 i7
  go_wp2
  go_ret
  exact ⟨rfl, below_drewN (Below.refl _ _) _⟩

theorem i_c (a : Option Addr) (cap : Nat) (zs : List Int) (w : World) (h : Nums .i64 w a zs) (hn : zs.length ≤ 1048576) :
    Calls Try.prog 42 #[.slice a zs.length cap] w fun e w' => e = .returned (.tuple #[.int .i64 (fF zs).1, .int .i64 (fF zs).2.1, .int .i64 (fF zs).2.2]) ∧ Below w.heap.size w w' := by
  cases hv : heightsB zs
  · go_enter Try.func42, Try.ntmps42
    go_wp2_with fail
    refine call_same (areHeights_c _ _ zs _ h hn) ?_
    go_wp2
    go_ret3
    exact ⟨by simp [fF, hv], Below.refl _ _⟩
  · have HV := Lib.hid (heightsB_true hv)
    have hl := HV.out.2.1
    have hl2 := HV.out.2.2
    have HF := Lib.hid (show fF zs = (((bestB zs zs.length : Nat) : Int), rdiv (depth zs (bestB zs zs.length)) ((zs.length : Int) - 1), 0) by simp only [fF, hv, if_true])
    obtain ⟨b, o, rfl, hb, hc1⟩ := h.pos (j := 0) (by omega)
    obtain ⟨b', o', he, _, hc2⟩ := h.pos (j := zs.length - 1) (by omega)
    obtain ⟨rfl, rfl⟩ : b = b' ∧ o = o' := by simpa using he
    rw [Nat.add_zero] at hc1
    clear he
    have hi2 : (0 : Int) < (zs.length : Int) := by omega
    have hi3 : (0 : Int) ≤ (zs.length : Int) - 1 := by omega
    have hi4 : (zs.length : Int) - 1 < (zs.length : Int) := by omega
    have n1 : ((zs.length : Int) - 1).toNat = zs.length - 1 := by omega
    go_enter Try.func42, Try.ntmps42
    go_wp2_with fail
    refine call_same (areHeights_c _ _ zs _ h hn) ?_
    go_wp2_with fail
    go_quiet (fail)
    clear n1 hc1 hc2
    go_wp2
    go_loopw [8, 9, 27] (fun p d i wr => ∃ k : Nat, k ≤ zs.length ∧ i = .int .i64 k ∧ p = .int .i64 (bestB zs k : Nat) ∧ d = .int .i64 (depth zs (bestB zs k)) ∧ Below w.heap.size w wr) (fun _ _ i _ => zs.length - (intOf i).toNat)
    case atStart => exact ⟨0, Nat.zero_le _, rfl, rfl, by rw [show bestB zs 0 = 0 from rfl, depth_zero], below_drewN (Below.refl _ _) _⟩
    case round =>
      obtain ⟨k, hk, rfl, rfl, rfl, hbl⟩ := hrel
      by_cases hlt : k < zs.length
      · obtain ⟨b', o', he, _, hc3⟩ := (h.below hbl).pos (j := k) hlt
        obtain ⟨rfl, rfl⟩ : b = b' ∧ o = o' := by simpa using he
        obtain ⟨t1, t2, t3, t4, t5⟩ := terms_bd HV.out hlt
        clear he h
        by_cases ht : depth zs (bestB zs k) < depth zs k
        · have hB := Lib.hid (best_yes ht)
          have ht' : depth zs (bestB zs k) < nth zs 0 * ((zs.length : Int) - 1) + (nth zs (zs.length - 1) - nth zs 0) * k - nth zs k * ((zs.length : Int) - 1) := ht
          clear ht
          go_wp2
          go_roundw
          case rel => exact ⟨k + 1, by omega, by go_num, by rw [hB.out], by rw [hB.out]; rfl, hbl⟩
          case measure => simp [intOf]; omega
        · have hB := Lib.hid (best_no ht)
          have ht' : ¬ depth zs (bestB zs k) < nth zs 0 * ((zs.length : Int) - 1) + (nth zs (zs.length - 1) - nth zs 0) * k - nth zs k * ((zs.length : Int) - 1) := ht
          clear ht
          go_wp2
          go_roundw
          case rel => exact ⟨k + 1, by omega, by go_num, by rw [hB.out], by rw [hB.out], hbl⟩
          case measure => simp [intOf]; omega
      · obtain rfl : k = zs.length := by omega
        have hq := bestB_lt zs (i := zs.length) (by omega)
        obtain ⟨_, _, _, _, t5⟩ := terms_bd HV.out hq
        go_wp2_with (go_at_call 52; refine call_same (divRound_c _ _ _ (by omega) (by omega) (by omega) (by omega)) ?_)
        go_ret3
        exact ⟨by rw [HF.out]; rfl, hbl⟩

theorem s_c (a : Option Addr) (cap : Nat) (zs : List Int) (w : World) (h : Nums .i64 w a zs) (hn : zs.length ≤ 1048576) :
    Calls Try.prog 41 #[.slice a zs.length cap] w fun e w' => e = .returned (.tuple #[.int .i64 (fF zs).1, .int .i64 (fF zs).2.1, .int .i64 (fF zs).2.2]) ∧ Below w.heap.size w w' := by
  cases hv : heightsB zs
  · go_enter Try.func41, Try.ntmps41
    go_wp2_with fail
    refine call_same (l11Heights_c _ _ zs _ h hn) ?_
    go_wp2
    go_ret3
    exact ⟨by simp [fF, hv], Below.refl _ _⟩
  · have HV := Lib.hid (heightsB_true hv)
    have hl := HV.out.2.1
    have hl2 := HV.out.2.2
    have HF := Lib.hid (show fF zs = (((bestB zs zs.length : Nat) : Int), rdiv (depth zs (bestB zs zs.length)) ((zs.length : Int) - 1), 0) by simp only [fF, hv, if_true])
    go_enter Try.func41, Try.ntmps41
    go_wp2_with fail
    refine call_same (l11Heights_c _ _ zs _ h hn) ?_
    go_wp2
    go_loopw [6, 7] (fun p i wr => ∃ k : Nat, 1 ≤ k ∧ k ≤ zs.length ∧ i = .int .i64 k ∧ p = .int .i64 (bestB zs k : Nat) ∧ Below w.heap.size w wr) (fun _ i _ => zs.length - (intOf i).toNat)
    case atStart => exact ⟨1, Nat.le_refl _, by omega, rfl, by rw [bestB_one]; rfl, Below.refl _ _⟩
    case round =>
      obtain ⟨k, hk1, hk, rfl, rfl, hbl⟩ := hrel
      have hq := bestB_lt zs hk1
      by_cases hlt : k < zs.length
      · have hle : (k : Int) ≤ (zs.length : Int) - 1 := by omega
        by_cases ht : depth zs (bestB zs k) < depth zs k
        · have hB := Lib.hid (best_yes ht)
          go_wp2_with fail
          refine call_below (l11Depth_c _ _ zs k _ (h.below hbl) HV.out hlt) ?_
          intro w1 hb1
          have H1 := below_next hbl hb1
          go_wp2_with fail
          refine call_below (l11Depth_c _ _ zs (bestB zs k) _ (h.below H1) HV.out (by omega)) ?_
          intro w2 hb2
          have H2 := below_next H1 hb2
          clear hb1 hb2
          go_wp2
          go_roundw
          case rel => exact ⟨k + 1, by omega, by omega, by go_num, by rw [hB.out], H2⟩
          case measure => simp [intOf]; omega
        · have hB := Lib.hid (best_no ht)
          go_wp2_with fail
          refine call_below (l11Depth_c _ _ zs k _ (h.below hbl) HV.out hlt) ?_
          intro w1 hb1
          have H1 := below_next hbl hb1
          go_wp2_with fail
          refine call_below (l11Depth_c _ _ zs (bestB zs k) _ (h.below H1) HV.out (by omega)) ?_
          intro w2 hb2
          have H2 := below_next H1 hb2
          clear hb1 hb2
          go_wp2
          go_roundw
          case rel => exact ⟨k + 1, by omega, by omega, by go_num, by rw [hB.out], H2⟩
          case measure => simp [intOf]; omega
      · obtain rfl : k = zs.length := by omega
        obtain ⟨_, _, _, _, t5⟩ := terms_bd HV.out hq
        go_wp2_with fail
        refine call_below (l11Depth_c _ _ zs (bestB zs zs.length) _ (h.below hbl) HV.out hq) ?_
        intro w1 hb1
        have H1 := below_next hbl hb1
        clear hb1
        go_wp2_with (go_at_call 49; refine call_same (l01Div_c _ _ _ (by omega) (by omega) (by omega) (by omega)) ?_)
        go_ret3
        exact ⟨by rw [HF.out]; rfl, H1⟩

theorem walk (a0 : Option Addr) (cap0 : Nat) (z0 : List Int) (w : World) (h0 : Nums .i64 w a0 z0) (hm0 : z0.length ≤ maxLen) (_ : ∀ n ∈ z0, (Lit.int .i64 n).wf = true) :
    Calls Try.prog 14 #[.slice a0 z0.length cap0] w fun e w' => e = .returned (.bool true) ∧ Below w.heap.size w w' := by
  unfold maxLen at hm0
  by_cases hn0 : z0.length ≤ 1048576
  rotate_left
  · go_enter Try.func14, Try.ntmps14
    go_wp2
    go_ret
    exact ⟨rfl, Below.refl _ _⟩
  go_enter Try.func14, Try.ntmps14
  go_wp2_with fail
  refine call_pred (toInt64S_c a0 cap0 z0 _ h0 hn0) ?_
  rintro w1 ⟨r1, b1⟩
  have H1 := below_next (Below.refl _ _) b1
  have S0_1 := Nums.row r1
  clear r1
  go_wp2_with fail
  refine call_below (s_c _ _ z0 _ S0_1 hn0) ?_
  intro w2 b2
  have H2 := below_next H1 b2
  have S0_2 := S0_1.below b2
  clear S0_1
  clear S0_2
  go_wp2_with fail
  refine call_pred (toInt64S_c a0 cap0 z0 _ (h0.below H2) hn0) ?_
  rintro w3 ⟨r3, b3⟩
  have H3 := below_next H2 b3
  have X0_3 := Nums.row r3
  clear r3
  go_wp2_with fail
  refine call_below (i_c _ _ z0 _ X0_3 hn0) ?_
  intro w4 b4
  have H4 := below_next H3 b4
  have X0_4 := X0_3.below b4
  clear X0_3
  go_wp2_with fail
  refine call_pred (toInt64S_c a0 cap0 z0 _ (h0.below H4) hn0) ?_
  rintro w5 ⟨r5, b5⟩
  have H5 := below_next H4 b5
  have X0_5 := X0_4.below b5
  clear X0_4
  have Y0_5 := Nums.row r5
  clear r5
  go_wp2_with fail
  refine call_below (eqInt64S_c _ _ _ _ z0 _ X0_5 Y0_5 hn0) ?_
  intro w6 b6
  have H6 := below_next H5 b6
  have X0_6 := X0_5.below b6
  clear X0_5
  have Y0_6 := Y0_5.below b6
  clear Y0_5
  clear X0_6 Y0_6
  go_wp2
  go_ret
  exact ⟨rfl, H6⟩

theorem own : ownKnob Try.prog.godebug = none := by kernel_rfl
theorem laidOut : laidOutB Try.prog = true := by kernel_rfl
set_option maxRecDepth 100000 in
theorem lifted (os : Os) (started : os.Started) (H : Type) (enc : TypeId × Value → H) :
    ReturnsInHanded {} Try.checked os 14 .any (Rows.fnExactCamberOfSpec.pre6 enc Try.prog Try.f14 Rows.fnExactCamberOfRow.domain false) (Rows.fnExactCamberOfSpec.post enc Try.prog Try.f14 false true false false) := by
  refine returnsInHanded_of_change (C := Try.checked) own started (by kernel_rfl) Try.func14
    (ChangeSpec.witness6 (enc := enc) (C := Try.checked) false ⟨#[], #[.slice none 0 0], []⟩ 8 (by kernel_rfl) (by kernel_rfl) (by kernel_rfl) (by kernel_rfl)) ?_
  intro W base args ds gs before hval0 hW hcnd _
  have hval : ∀ (j : Nat) t v, Try.f14.params[j]? = some t → args[j]? = some v → Value.okWide Try.prog W .any base t v := hval0
  have hW' := hW
  obtain ⟨p, q, hA0, hV, rfl, hfz, hnd⟩ := hW
  have hA : DataW.TrodAll enc Try.prog W 0 (fun _ => true) true Try.f14.params.toList args.toList ds p := hA0
  rw [Try.params14] at hA hval
  obtain ⟨v0, vs0, d0, ds0, p0, q0, hargs, rfl, rfl, h0, r0⟩ := trodAll_cons hA
  obtain ⟨rfl, rfl, rfl⟩ := trodAll_nil r0
  obtain rfl : args = #[v0] := by cases args; simp_all
  obtain ⟨rfl, rfl⟩ := trodVars_none hV
  have k0 := h0
  have lt0 : ∀ x ∈ p0, x.block < W.heap.size := by obtain ⟨m, hm⟩ := k0; exact DataW.trod_lt m _ _ _ hm
  obtain ⟨a0, len0, cap0, rfl⟩ := okWide_slice Try.underlying39 (hval 0 39 v0 rfl rfl)
  obtain ⟨z0, rfl, w0, m0, f0⟩ : ∃ zs : List Int, zs.length = len0 ∧ Nums .i64 W a0 zs ∧ zs.length ≤ maxLen ∧ ∀ n ∈ zs, (Lit.int .i64 n).wf = true := by
    obtain ⟨fuel, hf⟩ := h0
    exact nums_open Try.underlying39 Try.underlying2 (by kernel_rfl) hf
  clear hA0 hval0
  refine (walk a0 cap0 z0 W w0 m0 f0).mono fun e W' ⟨he, bel⟩ => ?_
  subst he
  exact ⟨_, rfl, _, _, _, [], _, [], hW', trodAll_mk1 (shut_bool Try.underlying4 _), (trodAll_cons_mk (Below.trod laidOut (by kernel_rfl) (of_decide_eq_true (by kernel_rfl)) k0 bel lt0) trodAll_mk0), rfl, bel.frame _, fun h => by cases h⟩

theorem over : Rows.fnExactCamberOfRow.holds Try.pinned (OpenSpec.ofChange Rows.fnExactCamberOfSpec) :=
  OpenClaim.holds_of_wide 14 Try.f14 rfl rfl rfl rfl rfl rfl rfl ⟨rfl, rfl, rfl, rfl, rfl⟩ rfl rfl rfl rfl rfl (by kernel_rfl) Try.func14 (by kernel_rfl)
    (of_decide_eq_true (by kernel_rfl)) (by unfold Func.isWrapper; first | (rw [if_pos (by decide +kernel)]; kernel_rfl) | (rw [if_neg (by decide +kernel)]; exact ⟨rfl, rfl⟩))
    (fun os started H enc _ => lifted os started H enc)

/-- THE STATEMENT. -/
theorem proved : Rows.FnExactCamberOfSaid := over
#print axioms proved
end Go.Proofs.Ytdbgcchnaielmaa.lawCamberOf
