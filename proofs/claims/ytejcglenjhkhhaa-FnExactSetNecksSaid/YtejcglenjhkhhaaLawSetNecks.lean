/- The program's SetNecks returns what the reference's returns, for all arguments. No condition. -/
import Derived.Test.YtejcglenjhkhhaaRows
import Derived.Test.YtejcglenjhkhhaaNeckList
import Derived.Test.YtejcglenjhkhhaaNeck2
import Derived.Test.YtejcglenjhkhhaaMarkQ
import Derived.Test.YtejcglenjhkhhaaMark2
import Derived.Test.YtejcglenjhkhhaaOwnInts
import Derived.OpenShut
import Derived.ChangeOld
import Derived.Lib.SmallJoins
namespace Go.Proofs.Ytejcglenjhkhhaa.lawSetNecks
open Go.ChangeShapes Go.WideShapes Go.ChangeAt Go.RowKit
set_option linter.unusedVariables false

theorem l10HighD_c (bk o : Nat) (q : Int × Int × Int × Int) (w : World) (d : QuadAt w bk o q) (hq : neckOk q = true) :
    Calls Try.prog 101 #[.pointer (some ⟨bk, o, none⟩), .int .i64 q.2.2.2] w fun e w' => e = .returned (.int .i64 (projF q.2.1 q.2.2.1 q.2.2.2)) ∧ Drawn w w' := by
  obtain ⟨q1, q2, q3, q4⟩ := neckB_true hq
  obtain ⟨c0, c1, c2, c3⟩ := d
  have h := mul_bd (a := q.2.1) (b := q.2.2.2) (A := 10000) (B := 300) (by omega) (by omega) (by omega) (by omega)
  have h1 := rdiv_nonneg (a := q.2.1 * q.2.2.2) (b := 1000) h.1 (by omega)
  have h2 := rdiv_le (a := q.2.1 * q.2.2.2) (b := 1000) (c := 10000000) (by omega) (by omega) (by omega)
  have h3 := IntWalk.i64_in (q.2.2.1 + rdiv (q.2.1 * q.2.2.2) 1000) (by omega)
  have h4 := IntWalk.i64_in (q.2.1 * q.2.2.2) (by omega)
  go_enter Try.func101, Try.ntmps101
  go_wp2_with fail
  go_quiet ((go_at_call 81; exact quiet_at (l01Div_c _ _ _ (by omega) (by omega) (by omega) (by omega))))
  go_wp2
  go_ret
  exact ⟨rfl, ⟨_, rfl⟩⟩

theorem necks_err {z : List (Int × Int × Int × Int)} (h : necksN z ≠ 0) : (necksN z = 1 ∨ necksN z = 2) := by
  rcases necksN_cases z with h1 | ⟨h1, h2⟩ | ⟨h1, h2⟩
  · exact .inl (necksN_bad h1)
  · exact absurd (necksN_good h1 h2) h
  · exact .inr (necksN_long h1 h2)
theorem necks_ok {z : List (Int × Int × Int × Int)} (h : necksN z = 0) : (z.length : Int) ≤ 64 ∧ ∀ k, k < z.length → neckOk (nthQ z k) = true := by
  rcases necksN_cases z with h1 | ⟨h1, h2⟩ | ⟨h1, h2⟩
  · rw [necksN_bad h1] at h; cases h
  · exact ⟨h2, fun k hk => qall_nth h1 hk⟩
  · rw [necksN_long h1 h2] at h; cases h
/-- How far a neck's projection is from a height. -/
def offF (q : Int × Int × Int × Int) (h : Int) : Int := distF (projF q.2.1 q.2.2.1 q.2.2.2) h
theorem projQ_bd {q : Int × Int × Int × Int} (hq : neckOk q = true) : 0 ≤ projF q.2.1 q.2.2.1 q.2.2.2 ∧ projF q.2.1 q.2.2.1 q.2.2.2 ≤ 10000500 := by
  have := neckB_true hq
  exact projF_bd (by omega) (by omega) (by omega)
/-- Those of the first k necks whose projection is near. -/
def nearN (z : List (Int × Int × Int × Int)) (h o : Int) (k : Nat) : List Int := ((List.range k).filter fun i => decide (offF (nthQ z i) h ≤ o)).map fun (i : Nat) => (i : Int)
theorem nearN_no {z : List (Int × Int × Int × Int)} {h o : Int} {k : Nat} (e : ¬ offF (nthQ z k) h ≤ o) : nearN z h o (k + 1) = nearN z h o k := by simp [nearN, List.range_succ, List.filter_append, e]
theorem nearN_yes {z : List (Int × Int × Int × Int)} {h o : Int} {k : Nat} (e : offF (nthQ z k) h ≤ o) : nearN z h o (k + 1) = nearN z h o k ++ [(k : Int)] := by simp [nearN, List.range_succ, List.filter_append, e]
theorem nearN_len (z : List (Int × Int × Int × Int)) (h o : Int) (k : Nat) : (nearN z h o k).length ≤ k := by
  unfold nearN
  rw [List.length_map]
  exact Nat.le_trans (List.length_filter_le _ _) (by simp)
def fZ (z : List (Int × Int × Int × Int)) (h o : Int) : List Int := if necksN z = 0 then (if inB h 0 2000 && inB o 0 1000 then nearN z h o z.length else []) else []
def fC (z : List (Int × Int × Int × Int)) (h o : Int) : Int := if necksN z = 0 then (if inB h 0 2000 && inB o 0 1000 then 0 else 2) else necksN z
theorem f_len (z : List (Int × Int × Int × Int)) (h o : Int) : (fZ z h o).length ≤ 1048576 := by
  unfold fZ
  by_cases hN : necksN z = 0
  · have := (necks_ok hN).1
    have := nearN_len z h o z.length
    rw [if_pos hN]
    cases inB h 0 2000 && inB o 0 1000
    · simp
    · simp; omega
  · rw [if_neg hN]; simp

set_option maxRecDepth 100000 in
theorem i_c (a : Option Addr) (cap : Nat) (z : List (Int × Int × Int × Int)) (m o : Int) (w : World) (h : Quads w a z) (hn : z.length ≤ 1048576) :
    Calls Try.prog 48 #[.slice a z.length cap, .int .i64 m, .int .i64 o] w fun e w' => ∃ a' cap', e = .returned (.tuple #[.slice a' (fZ z m o).length cap', .int .i64 (fC z m o)]) ∧ (RowA w.heap.size w'.heap.size w' a' (fZ z m o) ∧ Below w.heap.size w w') := by
  by_cases hN0 : necksN z = 0
  rotate_left
  · rcases necks_err hN0 with hN | hN
    all_goals
      go_enter Try.func48, Try.ntmps48
      go_wp2_with fail
      refine call_below (necksCode_c _ _ z _ h hn) ?_
      rw [hN]
      intro w1 hb1
      go_wp2
      go_ret2
      exact ⟨none, 0, by simp [fZ, fC, hN], .inl (by simp [fZ, hN]), hb1⟩
  have hN := hN0
  rcases and2 (inB m 0 2000) (inB o 0 1000) with h1 | ⟨h1, h2⟩ | ⟨h1, h2⟩
  · go_enter Try.func48, Try.ntmps48
    go_wp2_with fail
    refine call_below (necksCode_c _ _ z _ h hn) ?_
    rw [hN]
    intro w1 hb1
    go_wp2_with (first | (go_at_call 104; refine call_same (isHeight_c _ _) ?_) | (go_at_call 66; refine call_same (within_c _ _ _ _) ?_))
    go_ret2
    exact ⟨none, 0, by simp [fZ, fC, hN, h1], .inl (by simp [fZ, hN, h1]), hb1⟩
  · go_enter Try.func48, Try.ntmps48
    go_wp2_with fail
    refine call_below (necksCode_c _ _ z _ h hn) ?_
    rw [hN]
    intro w1 hb1
    go_wp2_with (first | (go_at_call 104; refine call_same (isHeight_c _ _) ?_) | (go_at_call 66; refine call_same (within_c _ _ _ _) ?_))
    go_ret2
    exact ⟨none, 0, by simp [fZ, fC, hN, h1, h2], .inl (by simp [fZ, hN, h1, h2]), hb1⟩
  · obtain ⟨i0, hi, hz0, hz1, hz2⟩ := info_parts infoI'
    have hin := necks_ok hN
    have hm := inB_true h1
    have HI := Lib.hid hin.2
    have hz4 := hin.1
    have HZ := Lib.hid (show fZ z m o = nearN z m o z.length by simp [fZ, hN, h1, h2])
    have HC := Lib.hid (show fC z m o = 0 by simp [fC, hN, h1, h2])
    clear hin
    go_enter Try.func48, Try.ntmps48
    go_wp2_with fail
    refine call_below (necksCode_c _ _ z _ h hn) ?_
    rw [hN]
    intro w1 hb1
    have HB := Lib.hid hb1
    have HQ := Lib.hid (h.below hb1)
    clear h hb1 hN hN0
    go_wp2_with (first | (go_at_call 104; refine call_same (isHeight_c _ _) ?_) | (go_at_call 66; refine call_same (within_c _ _ _ _) ?_))
    clear h1 h2
    go_loopw [9, 28] (fun v i wr => ∃ k : Nat, k ≤ z.length ∧ i = .int .i64 k ∧ OwnI w1.heap.size wr v (nearN z m o k) ∧ Below w1.heap.size w1 wr) (fun _ i _ => z.length - (intOf i).toNat)
    case atStart => exact ⟨0, Nat.zero_le _, rfl, ⟨World.ownsRow_made w1 #[] 0 (Nat.le_refl _) (Nat.zero_le _) rfl, by simp⟩, (Below.refl _ _).alloc (Nat.le_refl _) _⟩
    case round =>
      obtain ⟨k, hk, rfl, hown, hbl⟩ := hrel
      have HO := Lib.hid hown
      have HL := Lib.hid hbl
      have HN := Lib.hid (nearN_len z m o k)
      by_cases hlt : k < z.length
      · obtain ⟨b, of, rfl, hq⟩ := (HQ.out.below hbl).pos hlt
        have HQA := Lib.hid hq
        obtain ⟨c0, c1, c2, c3⟩ := hq
        have hp := projQ_bd (HI.out k hlt)
        have HNB := Lib.hid (neckB_true (HI.out k hlt))
        clear hown hbl
        have hF := Lib.hid (show distF (projF (nthQ z k).2.1 (nthQ z k).2.2.1 (nthQ z k).2.2.2) m = offF (nthQ z k) m from rfl)
        by_cases hh : offF (nthQ z k) m ≤ o
        · have HE := Lib.hid (nearN_yes hh)
          go_wp2_with fail
          refine call_below (projection_c _ _ _ _ _ (by have := HNB.out; omega) (by have := HNB.out; omega) (by have := HNB.out; omega)) ?_
          intro w2 hb2
          have HB2 := Lib.hid (below_from hb2)
          clear hb2 c0 c1 c2 c3
          go_wp2_with fail
          refine call_same (distance_c _ _ _ (by omega) (by omega)) ?_
          rw [hF.out]
          have HO2 := Lib.hid (HO.out.below HB2.out)
          have HL2 := Lib.hid (below_next HL.out HB2.out)
          go_wp2_with (at_builtin; refine wpList_append_own _ rfl _ _ 32 rfl w1.heap.size 2 i0 (.int .i64 0) 1 8 Try.underlying32 hi hz0 hz1 hz2 rfl (by decide) _ _ _ rfl (HO2.out.1.alloc _) ⟨w2.heap.size, 0, none⟩ 1 1 [.int .i64 k] rfl rfl (own_new1 _ _ _) ?c2 ?c3 ?c4 ?c5 ?_)
          case c2 => (first | rfl | (intro u hu; simp at hu; subst hu; rfl))
          case c3 => have := HN.out; unfold maxLen; omega
          case c4 => have := HN.out; omega
          case c5 => have := HL2.out.size; simp; omega
          · intro v' w9 hown' hgrow hnil
            have hb1 : Below w1.heap.size w1 w9 := below_grown (HL2.out.alloc HL2.out.size _) (by have := HL2.out.size; simp; omega) hgrow fun q hq => HO2.out.lt q hq
            have HX := Lib.hid (show OwnI w1.heap.size w9 v' (nearN z m o (k + 1)) by rw [HE.out]; exact OwnI.snoc hown' hnil)
            have HY := Lib.hid hb1
            clear hown' hgrow hnil hb1
            go_wp2
            go_roundw
            case rel => exact ⟨k + 1, by omega, by go_num, HX.out, HY.out⟩
            case measure => simp [intOf]; omega
        · have HE := Lib.hid (nearN_no hh)
          go_wp2_with fail
          refine call_below (projection_c _ _ _ _ _ (by have := HNB.out; omega) (by have := HNB.out; omega) (by have := HNB.out; omega)) ?_
          intro w2 hb2
          have HB2 := Lib.hid (below_from hb2)
          clear hb2 c0 c1 c2 c3
          go_wp2_with fail
          refine call_same (distance_c _ _ _ (by omega) (by omega)) ?_
          rw [hF.out]
          go_wp2
          go_roundw
          case rel => exact ⟨k + 1, by omega, by go_num, by rw [HE.out]; exact HO.out.below HB2.out, below_next HL.out HB2.out⟩
          case measure => simp [intOf]; omega
      · obtain rfl : k = z.length := by omega
        clear hown
        go_wp2
        go_ret2
        obtain ⟨a', cap', rfl, hr⟩ := HO.out.rowA
        refine ⟨a', cap', ?_, ?_, below_next HB.out HL.out⟩
        · rw [HZ.out, HC.out]; rfl
        · rw [HZ.out]; exact hr.wide HB.out.size (Nat.le_refl _)

set_option maxRecDepth 100000 in
theorem s_c (a : Option Addr) (cap : Nat) (z : List (Int × Int × Int × Int)) (m o : Int) (w : World) (h : Quads w a z) (hn : z.length ≤ 1048576) :
    Calls Try.prog 46 #[.slice a z.length cap, .int .i64 m, .int .i64 o] w fun e w' => ∃ a' cap', e = .returned (.tuple #[.slice a' (fZ z m o).length cap', .int .i64 (fC z m o)]) ∧ (RowA w.heap.size w'.heap.size w' a' (fZ z m o) ∧ Below w.heap.size w w') := by
  by_cases hN0 : necksN z = 0
  rotate_left
  · rcases necks_err hN0 with hN | hN
    all_goals
      go_enter Try.func46, Try.ntmps46
      go_wp2_with fail
      refine call_below (l10List_c _ _ z _ h hn) ?_
      rw [hN]
      intro w1 hb1
      go_wp2
      go_ret2
      exact ⟨none, 0, by simp [fZ, fC, hN], .inl (by simp [fZ, hN]), hb1⟩
  have hN := hN0
  rcases and2 (inB m 0 2000) (inB o 0 1000) with h1 | ⟨h1, h2⟩ | ⟨h1, h2⟩
  · go_enter Try.func46, Try.ntmps46
    go_wp2_with fail
    refine call_below (l10List_c _ _ z _ h hn) ?_
    rw [hN]
    intro w1 hb1
    go_wp2_with (first | (go_at_call 100; refine call_same (l10Height_c _ _) ?_) | (go_at_call 61; refine call_same (l00In_c _ _ _ _) ?_))
    go_ret2
    exact ⟨none, 0, by simp [fZ, fC, hN, h1], .inl (by simp [fZ, hN, h1]), hb1⟩
  · go_enter Try.func46, Try.ntmps46
    go_wp2_with fail
    refine call_below (l10List_c _ _ z _ h hn) ?_
    rw [hN]
    intro w1 hb1
    go_wp2_with (first | (go_at_call 100; refine call_same (l10Height_c _ _) ?_) | (go_at_call 61; refine call_same (l00In_c _ _ _ _) ?_))
    go_ret2
    exact ⟨none, 0, by simp [fZ, fC, hN, h1, h2], .inl (by simp [fZ, hN, h1, h2]), hb1⟩
  · obtain ⟨i0, hi, hz0, hz1, hz2⟩ := info_parts infoI'
    have hin := necks_ok hN
    have hm := inB_true h1
    have HI := Lib.hid hin.2
    have hz4 := hin.1
    have HZ := Lib.hid (show fZ z m o = nearN z m o z.length by simp [fZ, hN, h1, h2])
    have HC := Lib.hid (show fC z m o = 0 by simp [fC, hN, h1, h2])
    clear hin
    go_enter Try.func46, Try.ntmps46
    go_wp2_with fail
    refine call_below (l10List_c _ _ z _ h hn) ?_
    rw [hN]
    intro w1 hb1
    have HB := Lib.hid hb1
    have HQ := Lib.hid (h.below hb1)
    clear h hb1 hN hN0
    go_wp2_with (first | (go_at_call 100; refine call_same (l10Height_c _ _) ?_) | (go_at_call 61; refine call_same (l00In_c _ _ _ _) ?_))
    clear h1 h2
    go_loopw [9, 10] (fun v i wr => ∃ k : Nat, k ≤ z.length ∧ i = .int .i64 k ∧ OwnI w1.heap.size wr v (nearN z m o k) ∧ Below w1.heap.size w1 wr) (fun _ i _ => z.length - (intOf i).toNat)
    case atStart => exact ⟨0, Nat.zero_le _, rfl, ⟨World.ownsRow_made w1 #[] 0 (Nat.le_refl _) (Nat.zero_le _) rfl, by simp⟩, (Below.refl _ _).alloc (Nat.le_refl _) _⟩
    case round =>
      obtain ⟨k, hk, rfl, hown, hbl⟩ := hrel
      have HO := Lib.hid hown
      have HL := Lib.hid hbl
      have HN := Lib.hid (nearN_len z m o k)
      by_cases hlt : k < z.length
      · obtain ⟨b, of, rfl, hq⟩ := (HQ.out.below hbl).pos hlt
        have HQA := Lib.hid hq
        obtain ⟨c0, c1, c2, c3⟩ := hq
        have hp := projQ_bd (HI.out k hlt)
        have HNB := Lib.hid (neckB_true (HI.out k hlt))
        clear hown hbl
        have hF := Lib.hid (show distF (projF (nthQ z k).2.1 (nthQ z k).2.2.1 (nthQ z k).2.2.2) m = offF (nthQ z k) m from rfl)
        have q1 := IntWalk.i64_in (projF (nthQ z k).2.1 (nthQ z k).2.2.1 (nthQ z k).2.2.2 - m) (by omega)
        have j0 : (0 : Int) ≤ (k : Int) := by omega
        have j1 : (k : Int) < (z.length : Int) := by omega
        by_cases hh : offF (nthQ z k) m ≤ o
        · have HE := Lib.hid (nearN_yes hh)
          have hd : decide (distF (projF (nthQ z k).2.1 (nthQ z k).2.2.1 (nthQ z k).2.2.2) m ≤ o) = true := decide_eq_true (by rw [hF.out]; exact hh)
          go_wp2_with fail
          go_quiet (first | (go_at_call 101; refine Calls.quiet_of (l10HighD_c _ _ _ _ ?_ ?_); (exact HQA.out.below (below_drewN (Below.refl _ _) _)); (exact HI.out k hlt)) | (go_at_call 72; exact quiet_at (l08Abs_c _ _ _ (by omega) (by omega))))
          clear hd q1 j0 j1 c0 c1 c2 c3
          obtain ⟨w2, hw2⟩ : ∃ w2 : World, w2 = wr.drewN nq := ⟨_, rfl⟩
          rw [← hw2]
          have HB2 := Lib.hid (show Below wr.heap.size wr w2 by rw [hw2]; exact below_drewN (Below.refl _ _) _)
          clear hw2
          have HO2 := Lib.hid (HO.out.below HB2.out)
          have HL2 := Lib.hid (below_next HL.out HB2.out)
          go_wp2_with (at_builtin; refine wpList_append_own _ rfl _ _ 32 rfl w1.heap.size 2 i0 (.int .i64 0) 1 8 Try.underlying32 hi hz0 hz1 hz2 rfl (by decide) _ _ _ rfl (HO2.out.1.alloc _) ⟨w2.heap.size, 0, none⟩ 1 1 [.int .i64 k] rfl rfl (own_new1 _ _ _) ?c2 ?c3 ?c4 ?c5 ?_)
          case c2 => (first | rfl | (intro u hu; simp at hu; subst hu; rfl))
          case c3 => have := HN.out; unfold maxLen; omega
          case c4 => have := HN.out; omega
          case c5 => have := HL2.out.size; simp; omega
          · intro v' w9 hown' hgrow hnil
            have hb1 : Below w1.heap.size w1 w9 := below_grown (HL2.out.alloc HL2.out.size _) (by have := HL2.out.size; simp; omega) hgrow fun q hq => HO2.out.lt q hq
            have HX := Lib.hid (show OwnI w1.heap.size w9 v' (nearN z m o (k + 1)) by rw [HE.out]; exact OwnI.snoc hown' hnil)
            have HY := Lib.hid hb1
            clear hown' hgrow hnil hb1
            go_wp2
            go_roundw
            case rel => exact ⟨k + 1, by omega, by go_num, HX.out, HY.out⟩
            case measure => simp [intOf]; omega
        · have HE := Lib.hid (nearN_no hh)
          have hd : decide (distF (projF (nthQ z k).2.1 (nthQ z k).2.2.1 (nthQ z k).2.2.2) m ≤ o) = false := decide_eq_false (by rw [hF.out]; exact hh)
          go_wp2_with fail
          go_quiet (first | (go_at_call 101; refine Calls.quiet_of (l10HighD_c _ _ _ _ ?_ ?_); (exact HQA.out.below (below_drewN (Below.refl _ _) _)); (exact HI.out k hlt)) | (go_at_call 72; exact quiet_at (l08Abs_c _ _ _ (by omega) (by omega))))
          clear hd q1 j0 j1 c0 c1 c2 c3
          obtain ⟨w2, hw2⟩ : ∃ w2 : World, w2 = wr.drewN nq := ⟨_, rfl⟩
          rw [← hw2]
          have HB2 := Lib.hid (show Below wr.heap.size wr w2 by rw [hw2]; exact below_drewN (Below.refl _ _) _)
          clear hw2
          go_wp2
          go_roundw
          case rel => exact ⟨k + 1, by omega, by go_num, by rw [HE.out]; exact HO.out.below HB2.out, below_next HL.out HB2.out⟩
          case measure => simp [intOf]; omega
      · obtain rfl : k = z.length := by omega
        clear hown
        go_wp2
        go_ret2
        obtain ⟨a', cap', rfl, hr⟩ := HO.out.rowA
        refine ⟨a', cap', ?_, ?_, below_next HB.out HL.out⟩
        · rw [HZ.out, HC.out]; rfl
        · rw [HZ.out]; exact hr.wide HB.out.size (Nat.le_refl _)
set_option maxRecDepth 100000 in
set_option maxHeartbeats 1000000 in
theorem walk (a0 : Option Addr) (cap0 : Nat) (z0 : List (Int × Int × Int × Int)) (m1 : Int) (m2 : Int) (w : World) (h0 : Quads w a0 z0) (hm0 : z0.length ≤ maxLen) (_ : (Lit.int .i64 m1).wf = true) (_ : (Lit.int .i64 m2).wf = true) :
    Calls Try.prog 12 #[.slice a0 z0.length cap0, .int .i64 m1, .int .i64 m2] w fun e w' => e = .returned (.bool true) ∧ Below w.heap.size w w' := by
  have hZ := f_len z0 m1 m2
  have HZ := Lib.hid hZ
  clear hZ
  unfold maxLen at hm0
  by_cases hn0 : z0.length ≤ 1048576
  rotate_left
  · go_enter Try.func12, Try.ntmps12
    go_wp2_with fail
    refine call_same (szNeckS_c _ _ _ _ _ (by omega) (by omega) (by omega)) ?_
    rw [if_neg (by omega)]
    go_wp2
    go_ret
    exact ⟨rfl, Below.refl _ _⟩
  go_enter Try.func12, Try.ntmps12
  go_wp2_with fail
  refine call_same (szNeckS_c _ _ _ _ _ (by omega) (by omega) (by omega)) ?_
  rw [if_pos (by omega)]
  go_wp2_with fail
  refine call_pred (toNeckS_c a0 cap0 z0 _ h0 hn0) ?_
  rintro w1 ⟨r1, b1⟩
  have HA1 := Lib.hid b1
  have HY1 := Lib.hid (Quads.row r1)
  clear r1 b1
  go_wp2_with fail
  refine (s_c _ _ z0 m1 m2 _ HY1.out hn0).mono ?_
  rintro e2 w2 ⟨a2, c2, rfl, r2, b2⟩
  have HA2 := Lib.hid (below_next HA1.out b2)
  have HW2 := Lib.hid r2.nums
  clear r2 b2 HY1
  go_wp2_with fail
  refine call_pred (toNeckS_c a0 cap0 z0 _ (h0.below HA2.out) hn0) ?_
  rintro w3 ⟨r3, b3⟩
  have HA3 := Lib.hid (below_next HA2.out b3)
  have HB3 := Lib.hid b3
  have HX3 := Lib.hid (QuadA.of_row r3)
  have HC3 := Lib.hid (Nat.le_refl w3.heap.size)
  clear r3 b3
  go_wp2_with fail
  refine (i_c _ _ z0 m1 m2 _ HX3.out.quads hn0).mono ?_
  rintro e4 w4 ⟨a4, c4, rfl, r4, b4⟩
  have HA4 := Lib.hid (below_next HA3.out b4)
  have HB4 := Lib.hid (below_next HB3.out b4)
  have HX4 := Lib.hid (HX3.out.below HC3.out b4)
  have HC4 := Lib.hid (Nat.le_trans HC3.out b4.size)
  have HG4 := Lib.hid r4
  have HD4 := Lib.hid (Nat.le_refl w4.heap.size)
  clear r4 b4
  go_wp2_with fail
  refine call_below (eqInt64S_c a4 a2 _ _ (fZ z0 m1 m2) _ HG4.out.nums (HW2.out.below HB4.out) HZ.out) ?_
  intro w5 b5
  have HA5 := Lib.hid (below_next HA4.out b5)
  have HB5 := Lib.hid (below_next HB4.out b5)
  have HX5 := Lib.hid (HX4.out.below HC4.out b5)
  have HG5 := Lib.hid (HG4.out.below HD4.out b5)
  have HC5 := Lib.hid (Nat.le_trans HC4.out b5.size)
  have HD5 := Lib.hid (Nat.le_trans HD4.out b5.size)
  clear b5
  go_wp2_with fail
  refine call_pred (toNeckS_c a0 cap0 z0 _ (h0.below HA5.out) hn0) ?_
  rintro w6 ⟨r6, b6⟩
  have HA6 := Lib.hid (below_next HA5.out b6)
  have HB6 := Lib.hid (below_next HB5.out b6)
  have HX6 := Lib.hid (HX5.out.below HC5.out b6)
  have HG6 := Lib.hid (HG5.out.below HD5.out b6)
  have HC6 := Lib.hid (Nat.le_trans HC5.out b6.size)
  have HD6 := Lib.hid (Nat.le_trans HD5.out b6.size)
  have HY6 := Lib.hid (Quads.row r6)
  clear r6 b6
  go_wp2_with fail
  refine call_below (eqNeckS_c _ _ _ _ z0 _ HX6.out.quads HY6.out hn0) ?_
  intro w7 b7
  have HA7 := Lib.hid (below_next HA6.out b7)
  have HB7 := Lib.hid (below_next HB6.out b7)
  have HX7 := Lib.hid (HX6.out.below HC6.out b7)
  have HG7 := Lib.hid (HG6.out.below HD6.out b7)
  have HC7 := Lib.hid (Nat.le_trans HC6.out b7.size)
  have HD7 := Lib.hid (Nat.le_trans HD6.out b7.size)
  clear b7 HY6
  go_wp2_with fail
  refine call_pred (markNeckS_c _ _ _ _ _ z0 1 _ HX7.out hn0 (by omega) (by omega)) ?_
  intro w8 md8
  have HA8 := Lib.hid (HA7.out.trans (md8.below.mono HA2.out.size))
  have HB8 := Lib.hid (HB7.out.trans (md8.below))
  have HG8 := Lib.hid (HG7.out.mid md8 (.inl (Nat.le_refl _)))
  have HC8 := Lib.hid (Nat.le_trans HC7.out (Nat.le_of_eq md8.size.symm))
  have HD8 := Lib.hid (Nat.le_trans HD7.out (Nat.le_of_eq md8.size.symm))
  clear md8 HX3 HX4 HX5 HX6 HX7
  go_wp2_with fail
  refine call_below (eqInt64S_c a4 a2 _ _ (fZ z0 m1 m2) _ HG8.out.nums (HW2.out.below HB8.out) HZ.out) ?_
  intro w9 b9
  have HA9 := Lib.hid (below_next HA8.out b9)
  have HB9 := Lib.hid (below_next HB8.out b9)
  have HG9 := Lib.hid (HG8.out.below HD8.out b9)
  have HC9 := Lib.hid (Nat.le_trans HC8.out b9.size)
  have HD9 := Lib.hid (Nat.le_trans HD8.out b9.size)
  clear b9
  go_wp2_with fail
  refine call_pred (markInt64S_c _ _ a4 _ (fZ z0 m1 m2) 1 _ HG9.out HZ.out (by omega) (by omega)) ?_
  rintro w10 ⟨r10, md10⟩
  have HA10 := Lib.hid (HA9.out.trans (md10.below.mono HA3.out.size))
  have HB10 := Lib.hid (HB9.out.trans (md10.below.mono HB3.out.size))
  have HC10 := Lib.hid (Nat.le_trans HC9.out (Nat.le_of_eq md10.size.symm))
  have HD10 := Lib.hid (Nat.le_trans HD9.out (Nat.le_of_eq md10.size.symm))
  have HG10 := Lib.hid r10
  clear r10 md10
  go_wp2_with fail
  refine call_same (heldInt64S_c a4 _ 1 (fZ z0 m1 m2).length _ HG10.out.nums HZ.out (by omega) (by omega)) ?_
  go_wp2_with fail
  refine call_pred (toNeckS_c a0 cap0 z0 _ (h0.below HA10.out) hn0) ?_
  rintro w11 ⟨r11, b11⟩
  have HA11 := Lib.hid (below_next HA10.out b11)
  have HB11 := Lib.hid (below_next HB10.out b11)
  have HG11 := Lib.hid (HG10.out.below HD10.out b11)
  have HC11 := Lib.hid (Nat.le_trans HC10.out b11.size)
  have HD11 := Lib.hid (Nat.le_trans HD10.out b11.size)
  have HY11 := Lib.hid (Quads.row r11)
  clear r11 b11
  go_wp2_with fail
  refine (i_c _ _ z0 m1 m2 _ HY11.out hn0).mono ?_
  rintro e12 w12 ⟨a12, c12, rfl, r12, b12⟩
  have HA12 := Lib.hid (below_next HA11.out b12)
  have HB12 := Lib.hid (below_next HB11.out b12)
  have HG12 := Lib.hid (HG11.out.below HD11.out b12)
  have HC12 := Lib.hid (Nat.le_trans HC11.out b12.size)
  have HD12 := Lib.hid (Nat.le_trans HD11.out b12.size)
  have HH12 := Lib.hid r12.nums
  clear r12 b12
  go_wp2_with fail
  refine call_below (eqInt64S_c a12 a2 _ _ (fZ z0 m1 m2) _ HH12.out (HW2.out.below HB12.out) HZ.out) ?_
  intro w13 b13
  have HA13 := Lib.hid (below_next HA12.out b13)
  have HB13 := Lib.hid (below_next HB12.out b13)
  have HG13 := Lib.hid (HG12.out.below HD12.out b13)
  have HC13 := Lib.hid (Nat.le_trans HC12.out b13.size)
  have HD13 := Lib.hid (Nat.le_trans HD12.out b13.size)
  clear b13
  go_wp2_with fail
  refine call_same (heldInt64S_c a4 _ 1 (fZ z0 m1 m2).length _ HG13.out.nums HZ.out (by omega) (by omega)) ?_
  go_wp2
  go_ret
  exact ⟨rfl, HA13.out⟩

theorem own : ownKnob Try.prog.godebug = none := by kernel_rfl
theorem laidOut : laidOutB Try.prog = true := by kernel_rfl
set_option maxRecDepth 100000 in
theorem lifted (os : Os) (started : os.Started) (H : Type) (enc : TypeId × Value → H) :
    ReturnsInHanded {} Try.checked os 12 .any (Rows.fnExactSetNecksSpec.pre6 enc Try.prog Try.f12 Rows.fnExactSetNecksRow.domain false) (Rows.fnExactSetNecksSpec.post enc Try.prog Try.f12 false true false false) := by
  refine returnsInHanded_of_change (C := Try.checked) own started (by kernel_rfl) Try.func12
    (ChangeSpec.witness6 (enc := enc) (C := Try.checked) false ⟨#[], #[.slice none 0 0, .int .i64 0, .int .i64 0], []⟩ 8 (by kernel_rfl) (by kernel_rfl) (by kernel_rfl) (by kernel_rfl)) ?_
  intro W base args ds gs before hval0 hW hcnd _
  have hval : ∀ (j : Nat) t v, Try.f12.params[j]? = some t → args[j]? = some v → Value.okWide Try.prog W .any base t v := hval0
  have hW' := hW
  obtain ⟨p, q, hA0, hV, rfl, hfz, hnd⟩ := hW
  have hA : DataW.TrodAll enc Try.prog W 0 (fun _ => true) true Try.f12.params.toList args.toList ds p := hA0
  rw [Try.params12] at hA hval
  obtain ⟨v0, vs0, d0, ds0, p0, q0, hargs, rfl, rfl, h0, r0⟩ := trodAll_cons hA
  obtain ⟨v1, vs1, d1, ds1, p1, q1, rfl, rfl, rfl, h1, r1⟩ := trodAll_cons r0
  obtain ⟨v2, vs2, d2, ds2, p2, q2, rfl, rfl, rfl, h2, r2⟩ := trodAll_cons r1
  obtain ⟨rfl, rfl, rfl⟩ := trodAll_nil r2
  obtain rfl : args = #[v0, v1, v2] := by cases args; simp_all
  obtain ⟨rfl, rfl⟩ := trodVars_none hV
  have k0 := h0
  have lt0 : ∀ x ∈ p0, x.block < W.heap.size := by obtain ⟨m, hm⟩ := k0; exact DataW.trod_lt m _ _ _ hm
  obtain ⟨a0, len0, cap0, rfl⟩ := okWide_slice Try.underlying54 (hval 0 54 v0 rfl rfl)
  obtain ⟨z0, rfl, w0, m0⟩ : ∃ z : List (Int × Int × Int × Int), z.length = len0 ∧ Quads W a0 z ∧ z.length ≤ maxLen := by
    obtain ⟨fuel, hf⟩ := h0
    exact quads_open Try.underlying54 Try.underlying99 Try.underlying2 rfl rfl rfl rfl (by kernel_rfl) (by kernel_rfl) hf
  have k1 := h1
  have lt1 : ∀ x ∈ p1, x.block < W.heap.size := by obtain ⟨m, hm⟩ := k1; exact DataW.trod_lt m _ _ _ hm
  obtain ⟨a1, rfl, rfl, rfl, w1⟩ := open_int Try.underlying2 (hval 1 2 v1 rfl rfl) h1
  have k2 := h2
  have lt2 : ∀ x ∈ p2, x.block < W.heap.size := by obtain ⟨m, hm⟩ := k2; exact DataW.trod_lt m _ _ _ hm
  obtain ⟨a2, rfl, rfl, rfl, w2⟩ := open_int Try.underlying2 (hval 2 2 v2 rfl rfl) h2
  clear hA0 hval0
  refine (walk a0 cap0 z0 a1 a2 W w0 m0 w1 w2).mono fun e W' ⟨he, bel⟩ => ?_
  subst he
  exact ⟨_, rfl, _, _, _, [], _, [], hW', trodAll_mk1 (shut_bool Try.underlying4 _), (trodAll_cons_mk (Below.trod laidOut (by kernel_rfl) (of_decide_eq_true (by kernel_rfl)) k0 bel lt0) (trodAll_cons_mk (Below.trod laidOut (by kernel_rfl) (of_decide_eq_true (by kernel_rfl)) k1 bel lt1) (trodAll_cons_mk (Below.trod laidOut (by kernel_rfl) (of_decide_eq_true (by kernel_rfl)) k2 bel lt2) trodAll_mk0))), rfl, bel.frame _, fun h => by cases h⟩

theorem over : Rows.fnExactSetNecksRow.holds Try.pinned (OpenSpec.ofChange Rows.fnExactSetNecksSpec) :=
  OpenClaim.holds_of_wide 12 Try.f12 rfl rfl rfl rfl rfl rfl rfl ⟨rfl, rfl, rfl, rfl, rfl⟩ rfl rfl rfl rfl rfl (by kernel_rfl) Try.func12 (by kernel_rfl)
    (of_decide_eq_true (by kernel_rfl)) (by unfold Func.isWrapper; first | (rw [if_pos (by decide +kernel)]; kernel_rfl) | (rw [if_neg (by decide +kernel)]; exact ⟨rfl, rfl⟩))
    (fun os started H enc _ => lifted os started H enc)

/-- THE STATEMENT. -/
theorem proved : Rows.FnExactSetNecksSaid := over
#print axioms proved
end Go.Proofs.Ytejcglenjhkhhaa.lawSetNecks
