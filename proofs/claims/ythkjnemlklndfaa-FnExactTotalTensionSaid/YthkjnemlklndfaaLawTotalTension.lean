/- The program's TotalTension returns what the reference's returns, for all arguments. No condition. -/
import Derived.Test.YthkjnemlklndfaaRows
import Derived.Test.YthkjnemlklndfaaCordList
import Derived.OpenShut
import Derived.ChangeOld
import Derived.Lib.SmallJoins
namespace Go.Proofs.Ythkjnemlklndfaa.lawTotalTension
open Go.ChangeShapes Go.WideShapes Go.ChangeAt Go.RowKit
set_option linter.unusedVariables false

def tenQ (q : Int × Int × Int × Int) : Int := tenF q.1 q.2.1 q.2.2.1
/-- The sum of the first k tensions. -/
def sumT (z : List (Int × Int × Int × Int)) : Nat → Int
  | 0 => 0
  | k + 1 => sumT z k + tenQ (nthQ z k)
def fF (z : List (Int × Int × Int × Int)) : Int × Int := if cordsB z then (sumT z z.length, 0) else (0, 1)

theorem cords_in {z : List (Int × Int × Int × Int)} (h : cordsB z = true) : z.length ≤ 4 ∧ ∀ k, k < z.length → CordIn (nthQ z k).1 (nthQ z k).2.1 (nthQ z k).2.2.1 := by
  unfold cordsB at h
  rw [Bool.and_eq_true] at h
  exact ⟨by have := of_decide_eq_true h.2; omega, fun k hk => CordIn.of (qall_nth h.1 hk)⟩
theorem sumT_bd {z : List (Int × Int × Int × Int)} (h : cordsB z = true) : ∀ k, k ≤ z.length → 0 ≤ sumT z k ∧ sumT z k ≤ 10000000 * k
  | 0, _ => by simp [sumT]
  | k + 1, hk => by
    have h1 := sumT_bd h k (by omega)
    have h2 := tenF_bd ((cords_in h).2 k (by omega))
    simp only [sumT, tenQ]
    omega

theorem i_c (a : Option Addr) (cap : Nat) (z : List (Int × Int × Int × Int)) (w : World) (h : Quads w a z) (hn : z.length ≤ 1048576) :
    Calls Try.prog 40 #[.slice a z.length cap] w fun e w' => e = .returned (.tuple #[.int .i64 (fF z).1, .int .i64 (fF z).2]) ∧ Below w.heap.size w w' := by
  cases hv : cordsB z
  · go_enter Try.func40, Try.ntmps40
    go_wp2_with fail
    refine call_below (validCords_c _ _ z _ h hn) ?_
    rw [hv]
    intro w1 hb1
    go_wp2
    go_ret2
    exact ⟨by simp [fF, hv], hb1⟩
  · have hin := cords_in hv
    have HI := Lib.hid hin.2
    have hz4 := hin.1
    clear hin
    have HS := Lib.hid (sumT_bd hv)
    go_enter Try.func40, Try.ntmps40
    go_wp2_with fail
    refine call_below (validCords_c _ _ z _ h hn) ?_
    rw [hv]
    intro w1 hb1
    go_wp2
    go_loopw [4, 12] (fun s i wr => ∃ k : Nat, k ≤ z.length ∧ i = .int .i64 k ∧ s = .int .i64 (sumT z k) ∧ Below w.heap.size w wr) (fun _ i _ => z.length - (intOf i).toNat)
    case atStart => exact ⟨0, Nat.zero_le _, rfl, rfl, hb1⟩
    case round =>
      obtain ⟨k, hk, rfl, rfl, hbl⟩ := hrel
      have HL := Lib.hid hbl
      have hsb := HS.out k hk
      by_cases hlt : k < z.length
      · obtain ⟨b, o, rfl, hq⟩ := (h.below hbl).pos hlt
        obtain ⟨c0, c1, c2, c3⟩ := hq
        have hi := HI.out k hlt
        have htb := tenF_bd hi
        have HK := Lib.hid hi
        clear h hbl hb1 hi
        go_wp2_with fail
        refine call_below (tension_c _ _ _ _ _ HK.out) ?_
        intro w2 hb2
        go_wp2
        go_roundw
        case rel => exact ⟨k + 1, by omega, by go_num, by simp only [sumT, tenQ], below_next HL.out (below_from hb2)⟩
        case measure => simp [intOf]; omega
      · obtain rfl : k = z.length := by omega
        have HF := Lib.hid (show fF z = (sumT z z.length, 0) by simp [fF, hv])
        go_wp2
        go_ret2
        exact ⟨by rw [HF.out]; rfl, HL.out⟩

theorem s_c (a : Option Addr) (cap : Nat) (z : List (Int × Int × Int × Int)) (w : World) (h : Quads w a z) (hn : z.length ≤ 1048576) :
    Calls Try.prog 38 #[.slice a z.length cap] w fun e w' => e = .returned (.tuple #[.int .i64 (fF z).1, .int .i64 (fF z).2]) ∧ Below w.heap.size w w' := by
  cases hv : cordsB z
  · go_enter Try.func38, Try.ntmps38
    go_wp2_with fail
    refine call_below (l09List_c _ _ z _ h hn) ?_
    rw [hv]
    intro w1 hb1
    go_wp2
    go_ret2
    exact ⟨by simp [fF, hv], hb1⟩
  · have hin := cords_in hv
    have HI := Lib.hid hin.2
    have hz4 := hin.1
    clear hin
    have HS := Lib.hid (sumT_bd hv)
    go_enter Try.func38, Try.ntmps38
    go_wp2_with fail
    refine call_below (l09List_c _ _ z _ h hn) ?_
    rw [hv]
    intro w1 hb1
    go_wp2
    go_loopw [4, 5] (fun s i wr => ∃ k : Nat, k ≤ z.length ∧ i = .int .i64 k ∧ s = .int .i64 (sumT z k) ∧ Below w.heap.size w wr) (fun _ i _ => z.length - (intOf i).toNat)
    case atStart => exact ⟨0, Nat.zero_le _, rfl, rfl, hb1⟩
    case round =>
      obtain ⟨k, hk, rfl, rfl, hbl⟩ := hrel
      have HL := Lib.hid hbl
      have hsb := HS.out k hk
      by_cases hlt : k < z.length
      · obtain ⟨b, o, rfl, hq⟩ := (h.below hbl).pos hlt
        obtain ⟨c0, c1, c2, c3⟩ := hq
        have hi := HI.out k hlt
        have htb := tenF_bd hi
        have HK := Lib.hid hi
        clear h hbl hb1 hi
        go_wp2_with fail
        refine call_below (l09Tension_c _ _ _ _ _ _ c0 c1 c2 HK.out) ?_
        intro w2 hb2
        go_wp2
        go_roundw
        case rel => exact ⟨k + 1, by omega, by go_num, by simp only [sumT, tenQ], below_next HL.out hb2⟩
        case measure => simp [intOf]; omega
      · obtain rfl : k = z.length := by omega
        have HF := Lib.hid (show fF z = (sumT z z.length, 0) by simp [fF, hv])
        go_wp2
        go_ret2
        exact ⟨by rw [HF.out]; rfl, HL.out⟩

theorem walk (a0 : Option Addr) (cap0 : Nat) (z0 : List (Int × Int × Int × Int)) (w : World) (h0 : Quads w a0 z0) (hm0 : z0.length ≤ maxLen) :
    Calls Try.prog 10 #[.slice a0 z0.length cap0] w fun e w' => e = .returned (.bool true) ∧ Below w.heap.size w w' := by
  unfold maxLen at hm0
  by_cases hn0 : z0.length ≤ 1048576
  rotate_left
  · go_enter Try.func10, Try.ntmps10
    go_wp2_with fail
    refine call_same (szCordS_c _ _ _ _ _ (by omega) (by omega) (by omega)) ?_
    rw [if_neg (by omega)]
    go_wp2
    go_ret
    exact ⟨rfl, Below.refl _ _⟩
  go_enter Try.func10, Try.ntmps10
  go_wp2_with fail
  refine call_same (szCordS_c _ _ _ _ _ (by omega) (by omega) (by omega)) ?_
  rw [if_pos (by omega)]
  go_wp2_with fail
  refine call_pred (toCordS_c a0 cap0 z0 _ h0 hn0) ?_
  rintro w1 ⟨r1, b1⟩
  have H1 := below_next (Below.refl _ _) b1
  have S0_1 := Quads.row r1
  clear r1
  go_wp2_with fail
  refine call_below (s_c _ _ z0 _ S0_1 hn0) ?_
  intro w2 b2
  have H2 := below_next H1 b2
  have S0_2 := S0_1.below b2
  clear S0_1
  clear S0_2
  go_wp2_with fail
  refine call_pred (toCordS_c a0 cap0 z0 _ (h0.below H2) hn0) ?_
  rintro w3 ⟨r3, b3⟩
  have H3 := below_next H2 b3
  have X0_3 := Quads.row r3
  clear r3
  go_wp2_with fail
  refine call_below (i_c _ _ z0 _ X0_3 hn0) ?_
  intro w4 b4
  have H4 := below_next H3 b4
  have X0_4 := X0_3.below b4
  clear X0_3
  go_wp2_with fail
  refine call_pred (toCordS_c a0 cap0 z0 _ (h0.below H4) hn0) ?_
  rintro w5 ⟨r5, b5⟩
  have H5 := below_next H4 b5
  have X0_5 := X0_4.below b5
  clear X0_4
  have Y0_5 := Quads.row r5
  clear r5
  go_wp2_with fail
  refine call_below (eqCordS_c _ _ _ _ z0 _ X0_5 Y0_5 hn0) ?_
  intro w6 b6
  have H6 := below_next H5 b6
  have X0_6 := X0_5.below b6
  clear X0_5
  have Y0_6 := Y0_5.below b6
  clear Y0_5
  clear X0_6 Y0_6
  go_wp2
  go_ret
  exact ⟨rfl, H6⟩

theorem own : ownKnob Try.prog.godebug = none := by kernel_rfl
theorem laidOut : laidOutB Try.prog = true := by kernel_rfl
set_option maxRecDepth 100000 in
theorem lifted (os : Os) (started : os.Started) (H : Type) (enc : TypeId × Value → H) :
    ReturnsInHanded {} Try.checked os 10 .any (Rows.fnExactTotalTensionSpec.pre6 enc Try.prog Try.f10 Rows.fnExactTotalTensionRow.domain false) (Rows.fnExactTotalTensionSpec.post enc Try.prog Try.f10 false true false false) := by
  refine returnsInHanded_of_change (C := Try.checked) own started (by kernel_rfl) Try.func10
    (ChangeSpec.witness6 (enc := enc) (C := Try.checked) false ⟨#[], #[.slice none 0 0], []⟩ 8 (by kernel_rfl) (by kernel_rfl) (by kernel_rfl) (by kernel_rfl)) ?_
  intro W base args ds gs before hval0 hW hcnd _
  have hval : ∀ (j : Nat) t v, Try.f10.params[j]? = some t → args[j]? = some v → Value.okWide Try.prog W .any base t v := hval0
  have hW' := hW
  obtain ⟨p, q, hA0, hV, rfl, hfz, hnd⟩ := hW
  have hA : DataW.TrodAll enc Try.prog W 0 (fun _ => true) true Try.f10.params.toList args.toList ds p := hA0
  rw [Try.params10] at hA hval
  obtain ⟨v0, vs0, d0, ds0, p0, q0, hargs, rfl, rfl, h0, r0⟩ := trodAll_cons hA
  obtain ⟨rfl, rfl, rfl⟩ := trodAll_nil r0
  obtain rfl : args = #[v0] := by cases args; simp_all
  obtain ⟨rfl, rfl⟩ := trodVars_none hV
  have k0 := h0
  have lt0 : ∀ x ∈ p0, x.block < W.heap.size := by obtain ⟨m, hm⟩ := k0; exact DataW.trod_lt m _ _ _ hm
  obtain ⟨a0, len0, cap0, rfl⟩ := okWide_slice Try.underlying48 (hval 0 48 v0 rfl rfl)
  obtain ⟨z0, rfl, w0, m0⟩ : ∃ z : List (Int × Int × Int × Int), z.length = len0 ∧ Quads W a0 z ∧ z.length ≤ maxLen := by
    obtain ⟨fuel, hf⟩ := h0
    exact quads_open Try.underlying48 Try.underlying23 Try.underlying2 rfl rfl rfl rfl (by kernel_rfl) (by kernel_rfl) hf
  clear hA0 hval0
  refine (walk a0 cap0 z0 W w0 m0).mono fun e W' ⟨he, bel⟩ => ?_
  subst he
  exact ⟨_, rfl, _, _, _, [], _, [], hW', trodAll_mk1 (shut_bool Try.underlying4 _), (trodAll_cons_mk (Below.trod laidOut (by kernel_rfl) (of_decide_eq_true (by kernel_rfl)) k0 bel lt0) trodAll_mk0), rfl, bel.frame _, fun h => by cases h⟩

theorem over : Rows.fnExactTotalTensionRow.holds Try.pinned (OpenSpec.ofChange Rows.fnExactTotalTensionSpec) :=
  OpenClaim.holds_of_wide 10 Try.f10 rfl rfl rfl rfl rfl rfl rfl ⟨rfl, rfl, rfl, rfl, rfl⟩ rfl rfl rfl rfl rfl (by kernel_rfl) Try.func10 (by kernel_rfl)
    (of_decide_eq_true (by kernel_rfl)) (by unfold Func.isWrapper; first | (rw [if_pos (by decide +kernel)]; kernel_rfl) | (rw [if_neg (by decide +kernel)]; exact ⟨rfl, rfl⟩))
    (fun os started H enc _ => lifted os started H enc)

/-- THE STATEMENT. -/
theorem proved : Rows.FnExactTotalTensionSaid := over
#print axioms proved
end Go.Proofs.Ythkjnemlklndfaa.lawTotalTension
