/- The program's HeightsAlong returns what the reference's returns, for all arguments. No condition. -/
import Derived.Test.YthkjnemlklndfaaRows
import Derived.Test.YthkjnemlklndfaaMark
import Derived.Test.YthkjnemlklndfaaBlend
import Derived.OpenShut
import Derived.ChangeOld
import Derived.Lib.SmallJoins
namespace Go.Proofs.Ythkjnemlklndfaa.lawHeightsAlong
open Go.ChangeShapes Go.WideShapes Go.ChangeAt Go.RowKit
set_option linter.unusedVariables false

theorem isHeight_c (n : Int) (w : World) : Calls Try.prog 68 #[.int .i64 n] w fun e w' => e = .returned (.bool (inB n 0 2000)) ∧ w = w' := by
  go_enter Try.func68, Try.ntmps68
  go_wp2_with (go_at_call 69; refine call_same (within_c _ _ _ _) ?_)
  go_ret
  exact ⟨rfl, rfl⟩
theorem l10Height_c (n : Int) (w : World) : Calls Try.prog 65 #[.int .i64 n] w fun e w' => e = .returned (.bool (inB n 0 2000)) ∧ w = w' := by
  go_enter Try.func65, Try.ntmps65
  go_wp2_with (go_at_call 66; refine call_same (l00In_c _ _ _ _) ?_)
  go_ret
  exact ⟨rfl, rfl⟩
/-- The first k heights. -/
def hts (m0 m1 m2 : Int) (k : Nat) : List Int := (List.range k).map fun (j : Nat) => lineF m0 m2 m1 j
theorem hts_len (m0 m1 m2 : Int) (k : Nat) : (hts m0 m1 m2 k).length = k := by simp [hts]
theorem hts_succ (m0 m1 m2 : Int) (k : Nat) : hts m0 m1 m2 (k + 1) = hts m0 m1 m2 k ++ [lineF m0 m2 m1 k] := by simp [hts, List.range_succ]
def okB (m0 m1 m2 : Int) : Bool := inB m0 0 2000 && (inB m1 0 2000 && inB m2 1 24)
def fZ (m0 m1 m2 : Int) : List Int := if okB m0 m1 m2 then hts m0 m1 m2 (m2.toNat + 1) else []
def fC (m0 m1 m2 : Int) : Int := if okB m0 m1 m2 then 0 else 2
theorem f_len (m0 m1 m2 : Int) : (fZ m0 m1 m2).length ≤ 1048576 := by
  unfold fZ
  cases h : okB m0 m1 m2
  · simp
  · rw [if_pos rfl, hts_len]
    simp only [okB, Bool.and_eq_true] at h
    have := inB_true h.2.2
    omega

set_option maxRecDepth 100000 in
theorem i_c (m0 m1 m2 : Int) (w : World) : Calls Try.prog 24 #[.int .i64 m0, .int .i64 m1, .int .i64 m2] w fun e w' => ∃ a cap, e = .returned (.tuple #[.slice a (fZ m0 m1 m2).length cap, .int .i64 (fC m0 m1 m2)]) ∧ (RowA w.heap.size w'.heap.size w' a (fZ m0 m1 m2) ∧ Below w.heap.size w w') := by
  rcases and3 (inB m0 0 2000) (inB m1 0 2000) (inB m2 1 24) with h1 | ⟨h1, h2⟩ | ⟨h1, h2, h3⟩ | ⟨h1, h2, h3⟩
  · go_enter Try.func24, Try.ntmps24
    go_wp2_with (first | (go_at_call 68; refine call_same (isHeight_c _ _) ?_) | (go_at_call 69; refine call_same (within_c _ _ _ _) ?_))
    go_ret2
    exact ⟨none, 0, by simp [fZ, fC, okB, *], .inl (by simp [fZ, okB, *]), Below.refl _ _⟩
  · go_enter Try.func24, Try.ntmps24
    go_wp2_with (first | (go_at_call 68; refine call_same (isHeight_c _ _) ?_) | (go_at_call 69; refine call_same (within_c _ _ _ _) ?_))
    go_ret2
    exact ⟨none, 0, by simp [fZ, fC, okB, *], .inl (by simp [fZ, okB, *]), Below.refl _ _⟩
  · go_enter Try.func24, Try.ntmps24
    go_wp2_with (first | (go_at_call 68; refine call_same (isHeight_c _ _) ?_) | (go_at_call 69; refine call_same (within_c _ _ _ _) ?_))
    go_ret2
    exact ⟨none, 0, by simp [fZ, fC, okB, *], .inl (by simp [fZ, okB, *]), Below.refl _ _⟩
  · obtain ⟨i0, hi, hz0, hz1, hz2⟩ := info_parts infoI'
    have b1 := inB_true h1
    have b2 := inB_true h2
    have b3 := inB_true h3
    obtain ⟨n, rfl⟩ : ∃ n : Nat, m2 = n := ⟨m2.toNat, by omega⟩
    have HZ := Lib.hid (show fZ m0 m1 n = hts m0 m1 n (n + 1) by simp [fZ, okB, *])
    have HC := Lib.hid (show fC m0 m1 n = 0 by simp [fC, okB, *])
    go_enter Try.func24, Try.ntmps24
    go_wp2_with (first | (go_at_call 68; refine call_same (isHeight_c _ _) ?_) | (go_at_call 69; refine call_same (within_c _ _ _ _) ?_))
    go_loopw [8, 26] (fun v i wr => ∃ k : Nat, k ≤ n + 1 ∧ i = .int .i64 k ∧ OwnI w.heap.size wr v (hts m0 m1 n k) ∧ Below w.heap.size w wr) (fun _ i _ => n + 1 - (intOf i).toNat)
    case atStart => exact ⟨0, Nat.zero_le _, rfl, ⟨World.ownsRow_made w #[] 0 (Nat.le_refl _) (Nat.zero_le _) rfl, by simp⟩, (Below.refl _ _).alloc (Nat.le_refl _) _⟩
    case round =>
      obtain ⟨k, hk, rfl, hown, hbl⟩ := hrel
      have HO := Lib.hid hown
      have HL := Lib.hid hbl
      by_cases hlt : k < n + 1
      · have HE := Lib.hid (hts_succ m0 m1 n k)
        have HN := Lib.hid (hts_len m0 m1 n k)
        clear hown hbl
        go_wp2_with (first | (go_at_call 70; refine call_same (blend_c _ _ _ _ _ (by omega) (by omega) (by omega) (by omega)) ?_) | (at_builtin; refine wpList_append_own _ rfl _ _ 34 rfl w.heap.size 2 i0 (.int .i64 0) 1 8 Try.underlying34 hi hz0 hz1 hz2 rfl (by decide) _ _ _ rfl (HO.out.1.alloc _) ⟨wr.heap.size, 0, none⟩ 1 1 [.int .i64 (lineF m0 n m1 k)] rfl rfl (own_new1 _ _ _) ?c2 ?c3 ?c4 ?c5 ?_))
        case c2 => (first | rfl | (intro u hu; simp at hu; subst hu; rfl))
        case c3 => have := HN.out; unfold maxLen; omega
        case c4 => have := HN.out; omega
        case c5 => have := HL.out.size; simp; omega
        · intro v' w1 hown' hgrow hnil
          have hb1 : Below w.heap.size w w1 := below_grown (HL.out.alloc HL.out.size _) (by have := HL.out.size; simp; omega) hgrow fun q hq => HO.out.lt q hq
          have HX := Lib.hid (show OwnI w.heap.size w1 v' (hts m0 m1 n (k + 1)) by rw [HE.out]; exact OwnI.snoc hown' hnil)
          have HY := Lib.hid hb1
          clear hown' hgrow hnil hb1
          go_wp2
          go_roundw
          case rel => exact ⟨k + 1, by omega, by go_num, HX.out, HY.out⟩
          case measure => simp [intOf]; omega
      · obtain rfl : k = n + 1 := by omega
        clear hown
        go_wp2
        go_ret2
        obtain ⟨a, cap, rfl, hr⟩ := HO.out.rowA
        refine ⟨a, cap, ?_, ?_, HL.out⟩
        · rw [HZ.out, HC.out]; rfl
        · rw [HZ.out]; exact hr

set_option maxRecDepth 100000 in
theorem s_c (m0 m1 m2 : Int) (w : World) : Calls Try.prog 23 #[.int .i64 m0, .int .i64 m1, .int .i64 m2] w fun e w' => ∃ a cap, e = .returned (.tuple #[.slice a (fZ m0 m1 m2).length cap, .int .i64 (fC m0 m1 m2)]) ∧ (RowA w.heap.size w'.heap.size w' a (fZ m0 m1 m2) ∧ Below w.heap.size w w') := by
  rcases and3 (inB m0 0 2000) (inB m1 0 2000) (inB m2 1 24) with h1 | ⟨h1, h2⟩ | ⟨h1, h2, h3⟩ | ⟨h1, h2, h3⟩
  · go_enter Try.func23, Try.ntmps23
    go_wp2_with (first | (go_at_call 65; refine call_same (l10Height_c _ _) ?_) | (go_at_call 66; refine call_same (l00In_c _ _ _ _) ?_))
    go_ret2
    exact ⟨none, 0, by simp [fZ, fC, okB, *], .inl (by simp [fZ, okB, *]), Below.refl _ _⟩
  · go_enter Try.func23, Try.ntmps23
    go_wp2_with (first | (go_at_call 65; refine call_same (l10Height_c _ _) ?_) | (go_at_call 66; refine call_same (l00In_c _ _ _ _) ?_))
    go_ret2
    exact ⟨none, 0, by simp [fZ, fC, okB, *], .inl (by simp [fZ, okB, *]), Below.refl _ _⟩
  · go_enter Try.func23, Try.ntmps23
    go_wp2_with (first | (go_at_call 65; refine call_same (l10Height_c _ _) ?_) | (go_at_call 66; refine call_same (l00In_c _ _ _ _) ?_))
    go_ret2
    exact ⟨none, 0, by simp [fZ, fC, okB, *], .inl (by simp [fZ, okB, *]), Below.refl _ _⟩
  · obtain ⟨i0, hi, hz0, hz1, hz2⟩ := info_parts infoI'
    have b1 := inB_true h1
    have b2 := inB_true h2
    have b3 := inB_true h3
    obtain ⟨n, rfl⟩ : ∃ n : Nat, m2 = n := ⟨m2.toNat, by omega⟩
    have HZ := Lib.hid (show fZ m0 m1 n = hts m0 m1 n (n + 1) by simp [fZ, okB, *])
    have HC := Lib.hid (show fC m0 m1 n = 0 by simp [fC, okB, *])
    go_enter Try.func23, Try.ntmps23
    go_wp2_with (first | (go_at_call 65; refine call_same (l10Height_c _ _) ?_) | (go_at_call 66; refine call_same (l00In_c _ _ _ _) ?_))
    go_loopw [8, 9] (fun v i wr => ∃ k : Nat, k ≤ n + 1 ∧ i = .int .i64 k ∧ OwnI w.heap.size wr v (hts m0 m1 n k) ∧ Below w.heap.size w wr) (fun _ i _ => n + 1 - (intOf i).toNat)
    case atStart => exact ⟨0, Nat.zero_le _, rfl, ⟨World.ownsRow_made w #[] 0 (Nat.le_refl _) (Nat.zero_le _) rfl, by simp⟩, (Below.refl _ _).alloc (Nat.le_refl _) _⟩
    case round =>
      obtain ⟨k, hk, rfl, hown, hbl⟩ := hrel
      have HO := Lib.hid hown
      have HL := Lib.hid hbl
      by_cases hlt : k < n + 1
      · have HE := Lib.hid (hts_succ m0 m1 n k)
        have HN := Lib.hid (hts_len m0 m1 n k)
        clear hown hbl
        go_wp2_with (first | (go_at_call 67; refine call_same (l01Line_c _ _ _ _ _ (by omega) (by omega) (by omega) (by omega)) ?_) | (at_builtin; refine wpList_append_own _ rfl _ _ 34 rfl w.heap.size 2 i0 (.int .i64 0) 1 8 Try.underlying34 hi hz0 hz1 hz2 rfl (by decide) _ _ _ rfl (HO.out.1.alloc _) ⟨wr.heap.size, 0, none⟩ 1 1 [.int .i64 (lineF m0 n m1 k)] rfl rfl (own_new1 _ _ _) ?c2 ?c3 ?c4 ?c5 ?_))
        case c2 => (first | rfl | (intro u hu; simp at hu; subst hu; rfl))
        case c3 => have := HN.out; unfold maxLen; omega
        case c4 => have := HN.out; omega
        case c5 => have := HL.out.size; simp; omega
        · intro v' w1 hown' hgrow hnil
          have hb1 : Below w.heap.size w w1 := below_grown (HL.out.alloc HL.out.size _) (by have := HL.out.size; simp; omega) hgrow fun q hq => HO.out.lt q hq
          have HX := Lib.hid (show OwnI w.heap.size w1 v' (hts m0 m1 n (k + 1)) by rw [HE.out]; exact OwnI.snoc hown' hnil)
          have HY := Lib.hid hb1
          clear hown' hgrow hnil hb1
          go_wp2
          go_roundw
          case rel => exact ⟨k + 1, by omega, by go_num, HX.out, HY.out⟩
          case measure => simp [intOf]; omega
      · obtain rfl : k = n + 1 := by omega
        clear hown
        go_wp2
        go_ret2
        obtain ⟨a, cap, rfl, hr⟩ := HO.out.rowA
        refine ⟨a, cap, ?_, ?_, HL.out⟩
        · rw [HZ.out, HC.out]; rfl
        · rw [HZ.out]; exact hr

theorem walk (m0 m1 m2 : Int) (w : World) (_ : (Lit.int .i64 m0).wf = true) (_ : (Lit.int .i64 m1).wf = true) (_ : (Lit.int .i64 m2).wf = true) :
    Calls Try.prog 5 #[.int .i64 m0, .int .i64 m1, .int .i64 m2] w fun e w' => e = .returned (.bool true) ∧ Below w.heap.size w w' := by
  have hn := f_len m0 m1 m2
  go_enter Try.func5, Try.ntmps5
  go_wp2_with fail
  refine (s_c m0 m1 m2 _).mono ?_
  rintro e1 w1 ⟨a1, c1, rfl, r1, b1⟩
  have HB1 := Lib.hid b1
  have HN1 := Lib.hid r1.nums
  clear b1 r1
  go_wp2_with fail
  refine (i_c m0 m1 m2 _).mono ?_
  rintro e2 w2 ⟨a2, c2, rfl, r2, b2⟩
  have HN2 := Lib.hid r2.nums
  have HR2 := Lib.hid r2
  have HB2 := Lib.hid b2
  clear r2 b2
  go_wp2_with fail
  refine call_below (eqInt64S_c a2 a1 _ _ (fZ m0 m1 m2) _ HN2.out (HN1.out.below HB2.out) hn) ?_
  intro w3 b3
  have HR3 := Lib.hid (HR2.out.below (Nat.le_refl _) b3)
  have HB3 := Lib.hid (below_next HB2.out b3)
  have HZ3 := Lib.hid b3.size
  clear b3
  go_wp2_with fail
  refine call_pred (markInt64S_c _ _ a2 _ (fZ m0 m1 m2) 1 _ HR3.out hn (by omega) (by omega)) ?_
  rintro w4 ⟨r4, md⟩
  have HR4 := Lib.hid r4
  have HB4 := Lib.hid (HB3.out.trans md.below)
  have HZ4 := Lib.hid (show w2.heap.size ≤ w4.heap.size by rw [md.size]; exact HZ3.out)
  clear r4 md
  go_wp2_with fail
  refine call_same (heldInt64S_c a2 _ 1 (fZ m0 m1 m2).length _ HR4.out.nums hn (by omega) (by omega)) ?_
  go_wp2_with fail
  refine (i_c m0 m1 m2 _).mono ?_
  rintro e5 w5 ⟨a5, c5, rfl, r5, b5⟩
  have HN5 := Lib.hid r5.nums
  have HR5 := Lib.hid (HR4.out.below HZ4.out b5)
  have HB5 := Lib.hid (below_next HB4.out b5)
  have HZ5 := Lib.hid (Nat.le_trans HZ4.out b5.size)
  clear r5 b5
  go_wp2_with fail
  refine call_below (eqInt64S_c a5 a1 _ _ (fZ m0 m1 m2) _ HN5.out (HN1.out.below HB5.out) hn) ?_
  intro w6 b6
  have HR6 := Lib.hid (HR5.out.below HZ5.out b6)
  have HB6 := Lib.hid (below_next HB5.out b6)
  clear b6
  go_wp2_with fail
  refine call_same (heldInt64S_c a2 _ 1 (fZ m0 m1 m2).length _ HR6.out.nums hn (by omega) (by omega)) ?_
  go_wp2
  go_ret
  exact ⟨rfl, below_next HB1.out HB6.out⟩

theorem own : ownKnob Try.prog.godebug = none := by kernel_rfl
theorem laidOut : laidOutB Try.prog = true := by kernel_rfl
set_option maxRecDepth 100000 in
theorem lifted (os : Os) (started : os.Started) (H : Type) (enc : TypeId × Value → H) :
    ReturnsInHanded {} Try.checked os 5 .any (Rows.fnExactHeightsAlongSpec.pre6 enc Try.prog Try.f5 Rows.fnExactHeightsAlongRow.domain false) (Rows.fnExactHeightsAlongSpec.post enc Try.prog Try.f5 false true false false) := by
  refine returnsInHanded_of_change (C := Try.checked) own started (by kernel_rfl) Try.func5
    (ChangeSpec.witness6 (enc := enc) (C := Try.checked) false ⟨#[], #[.int .i64 0, .int .i64 0, .int .i64 0], []⟩ 8 (by kernel_rfl) (by kernel_rfl) (by kernel_rfl) (by kernel_rfl)) ?_
  intro W base args ds gs before hval0 hW hcnd _
  have hval : ∀ (j : Nat) t v, Try.f5.params[j]? = some t → args[j]? = some v → Value.okWide Try.prog W .any base t v := hval0
  have hW' := hW
  obtain ⟨p, q, hA0, hV, rfl, hfz, hnd⟩ := hW
  have hA : DataW.TrodAll enc Try.prog W 0 (fun _ => true) true Try.f5.params.toList args.toList ds p := hA0
  rw [Try.params5] at hA hval
  obtain ⟨v0, vs0, d0, ds0, p0, q0, hargs, rfl, rfl, h0, r0⟩ := trodAll_cons hA
  obtain ⟨v1, vs1, d1, ds1, p1, q1, rfl, rfl, rfl, h1, r1⟩ := trodAll_cons r0
  obtain ⟨v2, vs2, d2, ds2, p2, q2, rfl, rfl, rfl, h2, r2⟩ := trodAll_cons r1
  obtain ⟨rfl, rfl, rfl⟩ := trodAll_nil r2
  obtain rfl : args = #[v0, v1, v2] := by cases args; simp_all
  obtain ⟨rfl, rfl⟩ := trodVars_none hV
  have k0 := h0
  have lt0 : ∀ x ∈ p0, x.block < W.heap.size := by obtain ⟨m, hm⟩ := k0; exact DataW.trod_lt m _ _ _ hm
  obtain ⟨a0, rfl, rfl, rfl, w0⟩ := open_int Try.underlying2 (hval 0 2 v0 rfl rfl) h0
  have k1 := h1
  have lt1 : ∀ x ∈ p1, x.block < W.heap.size := by obtain ⟨m, hm⟩ := k1; exact DataW.trod_lt m _ _ _ hm
  obtain ⟨a1, rfl, rfl, rfl, w1⟩ := open_int Try.underlying2 (hval 1 2 v1 rfl rfl) h1
  have k2 := h2
  have lt2 : ∀ x ∈ p2, x.block < W.heap.size := by obtain ⟨m, hm⟩ := k2; exact DataW.trod_lt m _ _ _ hm
  obtain ⟨a2, rfl, rfl, rfl, w2⟩ := open_int Try.underlying2 (hval 2 2 v2 rfl rfl) h2
  clear hA0 hval0
  refine (walk a0 a1 a2 W w0 w1 w2).mono fun e W' ⟨he, bel⟩ => ?_
  subst he
  exact ⟨_, rfl, _, _, _, [], _, [], hW', trodAll_mk1 (shut_bool Try.underlying4 _), (trodAll_cons_mk (Below.trod laidOut (by kernel_rfl) (of_decide_eq_true (by kernel_rfl)) k0 bel lt0) (trodAll_cons_mk (Below.trod laidOut (by kernel_rfl) (of_decide_eq_true (by kernel_rfl)) k1 bel lt1) (trodAll_cons_mk (Below.trod laidOut (by kernel_rfl) (of_decide_eq_true (by kernel_rfl)) k2 bel lt2) trodAll_mk0))), rfl, bel.frame _, fun h => by cases h⟩

theorem over : Rows.fnExactHeightsAlongRow.holds Try.pinned (OpenSpec.ofChange Rows.fnExactHeightsAlongSpec) :=
  OpenClaim.holds_of_wide 5 Try.f5 rfl rfl rfl rfl rfl rfl rfl ⟨rfl, rfl, rfl, rfl, rfl⟩ rfl rfl rfl rfl rfl (by kernel_rfl) Try.func5 (by kernel_rfl)
    (of_decide_eq_true (by kernel_rfl)) (by unfold Func.isWrapper; first | (rw [if_pos (by decide +kernel)]; kernel_rfl) | (rw [if_neg (by decide +kernel)]; exact ⟨rfl, rfl⟩))
    (fun os started H enc _ => lifted os started H enc)

/-- THE STATEMENT. -/
theorem proved : Rows.FnExactHeightsAlongSaid := over
#print axioms proved
end Go.Proofs.Ythkjnemlklndfaa.lawHeightsAlong
