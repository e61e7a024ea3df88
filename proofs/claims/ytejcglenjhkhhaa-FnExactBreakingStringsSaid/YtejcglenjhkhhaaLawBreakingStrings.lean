/- The program's BreakingStrings returns what the reference's returns, for all arguments. No condition. -/
import Derived.Test.YtejcglenjhkhhaaRows
import Derived.Test.YtejcglenjhkhhaaCordList
import Derived.Test.YtejcglenjhkhhaaHolds
import Derived.Test.YtejcglenjhkhhaaMarkQ
import Derived.Test.YtejcglenjhkhhaaMark2
import Derived.Test.YtejcglenjhkhhaaOwnInts
import Derived.OpenShut
import Derived.ChangeOld
import Derived.Lib.SmallJoins
namespace Go.Proofs.Ytejcglenjhkhhaa.lawBreakingStrings
open Go.ChangeShapes Go.WideShapes Go.ChangeAt Go.RowKit
set_option linter.unusedVariables false

theorem cords_in {z : List (Int × Int × Int × Int)} (h : cordsB z = true) : z.length ≤ 4 ∧ ∀ k, k < z.length → CordIn (nthQ z k).1 (nthQ z k).2.1 (nthQ z k).2.2.1 ∧ (1 ≤ (nthQ z k).2.2.2 ∧ (nthQ z k).2.2.2 ≤ 500000) := by
  unfold cordsB at h
  rw [Bool.and_eq_true] at h
  exact ⟨by have := of_decide_eq_true h.2; omega, fun k hk => ⟨CordIn.of (qall_nth h.1 hk), by
    have h1 : cordOk (nthQ z k) = true := qall_nth h.1 hk
    unfold cordOk cordB at h1
    simp only [Bool.and_eq_true] at h1
    exact inB_true h1.2⟩⟩
theorem l09HoldsQ_c (b o : Nat) (q : Int × Int × Int × Int) (m : Int) (w : World) (d : QuadAt w b o q) (hi : CordIn q.1 q.2.1 q.2.2.1) (hs : ShareIn q.2.2.2 m) :
    Calls Try.prog 119 #[.pointer (some ⟨b, o, none⟩), .int .i64 m] w fun e w' => e = .returned (.bool (holdB q.1 q.2.1 q.2.2.1 q.2.2.2 m)) ∧ Below w.heap.size w w' := by
  obtain ⟨hs1, hs2⟩ := hs
  have hT := tenF_bd hi
  have hm := mul_bd (a := m) (b := q.2.2.2) hs2.1 hs2.2 (by omega) hs1.2
  have i1 := IntWalk.i64_in (1000 * tenF q.1 q.2.1 q.2.2.1) (by omega)
  have i2 := IntWalk.i64_in (m * q.2.2.2) (by omega)
  have HD := Lib.hid d
  obtain ⟨d0, d1, d2, d3⟩ := d
  go_enter Try.func119, Try.ntmps119
  go_wp2_with fail
  go_region_held3 (fun w' => w'.cell? ⟨b, o, none⟩ = some (.int .i64 q.1) ∧ w'.cell? ⟨b, o + 1, none⟩ = some (.int .i64 q.2.1) ∧ w'.cell? ⟨b, o + 2, none⟩ = some (.int .i64 q.2.2.1) ∧ w'.cell? ⟨b, o + 3, none⟩ = some (.int .i64 q.2.2.2) ∧ Below w.heap.size w w') (first | exact keepQ HD.out (Below.refl _ _).drew | exact keepQ HD.out (below_next (Below.refl _ _).drew hb2) | go_keep)
    (first | (go_at_call 128; refine call_below (l09Tension_c b o q.1 q.2.1 q.2.2.1 _ ?_ ?_ ?_ hi) ?_; (simp [*]); (simp [*]); (simp [*]); intro w2 hb2))
  go_wp2
  go_ret
  exact ⟨rfl, below_next (Below.refl _ _).drew hb2⟩

def holdQ (q : Int × Int × Int × Int) (m : Int) : Bool := holdB q.1 q.2.1 q.2.2.1 q.2.2.2 m
/-- Those of the first k strings that do not hold. -/
def brk (z : List (Int × Int × Int × Int)) (m : Int) (k : Nat) : List Int := ((List.range k).filter fun i => !holdQ (nthQ z i) m).map fun (i : Nat) => (i : Int)
theorem brk_yes {z : List (Int × Int × Int × Int)} {m : Int} {k : Nat} (h : holdQ (nthQ z k) m = true) : brk z m (k + 1) = brk z m k := by simp [brk, List.range_succ, List.filter_append, h]
theorem brk_no {z : List (Int × Int × Int × Int)} {m : Int} {k : Nat} (h : holdQ (nthQ z k) m = false) : brk z m (k + 1) = brk z m k ++ [(k : Int)] := by simp [brk, List.range_succ, List.filter_append, h]
theorem brk_len (z : List (Int × Int × Int × Int)) (m : Int) (k : Nat) : (brk z m k).length ≤ k := by
  unfold brk
  rw [List.length_map]
  exact Nat.le_trans (List.length_filter_le _ _) (by simp)
def fZ (z : List (Int × Int × Int × Int)) (m : Int) : List Int := if cordsB z && inB m 0 1000 then brk z m z.length else []
def fC (z : List (Int × Int × Int × Int)) (m : Int) : Int := if cordsB z then (if inB m 0 1000 then 0 else 2) else 1
theorem f_len (z : List (Int × Int × Int × Int)) (m : Int) : (fZ z m).length ≤ 1048576 := by
  unfold fZ
  cases h : cordsB z
  · simp
  · have := (cords_in h).1
    have := brk_len z m z.length
    cases inB m 0 1000
    · simp
    · simp; omega

set_option maxRecDepth 100000 in
theorem i_c (a : Option Addr) (cap : Nat) (z : List (Int × Int × Int × Int)) (m : Int) (w : World) (h : Quads w a z) (hn : z.length ≤ 1048576) :
    Calls Try.prog 40 #[.slice a z.length cap, .int .i64 m] w fun e w' => ∃ a' cap', e = .returned (.tuple #[.slice a' (fZ z m).length cap', .int .i64 (fC z m)]) ∧ (RowA w.heap.size w'.heap.size w' a' (fZ z m) ∧ Below w.heap.size w w') := by
  cases hv : cordsB z
  · go_enter Try.func40, Try.ntmps40
    go_wp2_with fail
    refine call_below (validCords_c _ _ z _ h hn) ?_
    rw [hv]
    intro w1 hb1
    go_wp2
    go_ret2
    exact ⟨none, 0, by simp [fZ, fC, hv], .inl (by simp [fZ, hv]), hb1⟩
  cases hm : inB m 0 1000
  · go_enter Try.func40, Try.ntmps40
    go_wp2_with fail
    refine call_below (validCords_c _ _ z _ h hn) ?_
    rw [hv]
    intro w1 hb1
    go_wp2_with fail
    refine call_same (isShare_c _ _) ?_
    rw [hm]
    go_wp2
    go_ret2
    exact ⟨none, 0, by simp [fZ, fC, hv, hm], .inl (by simp [fZ, hv, hm]), hb1⟩
  · obtain ⟨i0, hi, hz0, hz1, hz2⟩ := info_parts infoI'
    have hin := cords_in hv
    have hm' := inB_true hm
    have HI := Lib.hid (fun k (hk : k < z.length) => (show CordIn (nthQ z k).1 (nthQ z k).2.1 (nthQ z k).2.2.1 ∧ ShareIn (nthQ z k).2.2.2 m from ⟨(hin.2 k hk).1, (hin.2 k hk).2, hm'⟩))
    have hz4 := hin.1
    have HZ := Lib.hid (show fZ z m = brk z m z.length by simp [fZ, hv, hm])
    have HC := Lib.hid (show fC z m = 0 by simp [fC, hv, hm])
    clear hin hm'
    go_enter Try.func40, Try.ntmps40
    go_wp2_with fail
    refine call_below (validCords_c _ _ z _ h hn) ?_
    rw [hv]
    intro w1 hb1
    go_wp2_with fail
    refine call_same (isShare_c _ _) ?_
    rw [hm]
    have HB := Lib.hid hb1
    have HQ := Lib.hid (h.below hb1)
    clear h hb1 hv hm
    go_wp2
    go_loopw [6, 18] (fun v i wr => ∃ k : Nat, k ≤ z.length ∧ i = .int .i64 k ∧ OwnI w1.heap.size wr v (brk z m k) ∧ Below w1.heap.size w1 wr) (fun _ i _ => z.length - (intOf i).toNat)
    case atStart => exact ⟨0, Nat.zero_le _, rfl, ⟨World.ownsRow_made w1 #[] 0 (Nat.le_refl _) (Nat.zero_le _) rfl, by simp⟩, (Below.refl _ _).alloc (Nat.le_refl _) _⟩
    case round =>
      obtain ⟨k, hk, rfl, hown, hbl⟩ := hrel
      have HO := Lib.hid hown
      have HL := Lib.hid hbl
      have HN := Lib.hid (brk_len z m k)
      by_cases hlt : k < z.length
      · obtain ⟨b, o, rfl, hq⟩ := (HQ.out.below hbl).pos hlt
        have HQA := Lib.hid hq
        obtain ⟨c0, c1, c2, c3⟩ := hq
        have HK := Lib.hid (HI.out k hlt)
        clear hown hbl
        cases hh : holdQ (nthQ z k) m
        · have HE := Lib.hid (brk_no hh)
          have hh' : holdB (nthQ z k).1 (nthQ z k).2.1 (nthQ z k).2.2.1 (nthQ z k).2.2.2 m = false := hh
          go_wp2_with fail
          refine call_below (holds_c _ _ _ _ m _ HK.out.1 HK.out.2) ?_
          rw [hh']
          intro w2 hb2
          have HB2 := Lib.hid (below_from hb2)
          clear hh hh' hb2 c0 c1 c2 c3
          have HO2 := Lib.hid (HO.out.below HB2.out)
          have HL2 := Lib.hid (below_next HL.out HB2.out)
          go_wp2_with (at_builtin; refine wpList_append_own _ rfl _ _ 32 rfl w1.heap.size 2 i0 (.int .i64 0) 1 8 Try.underlying32 hi hz0 hz1 hz2 rfl (by decide) _ _ _ rfl (HO2.out.1.alloc _) ⟨w2.heap.size, 0, none⟩ 1 1 [.int .i64 k] rfl rfl (own_new1 _ _ _) ?c2 ?c3 ?c4 ?c5 ?_)
          case c2 => (first | rfl | (intro u hu; simp at hu; subst hu; rfl))
          case c3 => have := HN.out; unfold maxLen; omega
          case c4 => have := HN.out; omega
          case c5 => have := HL2.out.size; simp; omega
          · intro v' w9 hown' hgrow hnil
            have hb1 : Below w1.heap.size w1 w9 := below_grown (HL2.out.alloc HL2.out.size _) (by have := HL2.out.size; simp; omega) hgrow fun q hq => HO2.out.lt q hq
            have HX := Lib.hid (show OwnI w1.heap.size w9 v' (brk z m (k + 1)) by rw [HE.out]; exact OwnI.snoc hown' hnil)
            have HY := Lib.hid hb1
            clear hown' hgrow hnil hb1
            go_wp2
            go_roundw
            case rel => exact ⟨k + 1, by omega, by go_num, HX.out, HY.out⟩
            case measure => simp [intOf]; omega
        · have HE := Lib.hid (brk_yes hh)
          have hh' : holdB (nthQ z k).1 (nthQ z k).2.1 (nthQ z k).2.2.1 (nthQ z k).2.2.2 m = true := hh
          go_wp2_with fail
          refine call_below (holds_c _ _ _ _ m _ HK.out.1 HK.out.2) ?_
          rw [hh']
          intro w2 hb2
          have HB2 := Lib.hid (below_from hb2)
          clear hh hh' hb2 c0 c1 c2 c3
          go_wp2
          go_roundw
          case rel => exact ⟨k + 1, by omega, by go_num, by rw [HE.out]; exact HO.out.below HB2.out, below_next HL.out HB2.out⟩
          case measure => simp [intOf]; omega
      · obtain rfl : k = z.length := by omega
        clear hown
        go_wp2
        go_ret2
        obtain ⟨a', cap', rfl, hr⟩ := HO.out.rowA
        refine ⟨a', cap', ?_, ?_, below_next HB.out HL.out⟩
        · rw [HZ.out, HC.out]; rfl
        · rw [HZ.out]; exact hr.wide HB.out.size (Nat.le_refl _)

set_option maxRecDepth 100000 in
theorem breaking_c (a : Option Addr) (cap : Nat) (z : List (Int × Int × Int × Int)) (m : Int) (w1 : World) (h : Quads w1 a z) (hn : z.length ≤ 1048576) (hi0 : ∀ k, k < z.length → CordIn (nthQ z k).1 (nthQ z k).2.1 (nthQ z k).2.2.1 ∧ ShareIn (nthQ z k).2.2.2 m) :
    Calls Try.prog 86 #[.slice a z.length cap, .int .i64 m] w1 fun e w' => ∃ a' cap', e = .returned (.slice a' (brk z m z.length).length cap') ∧ (RowA w1.heap.size w'.heap.size w' a' (brk z m z.length) ∧ Below w1.heap.size w1 w') := by
  obtain ⟨i0, hi, hz0, hz1, hz2⟩ := info_parts infoI'
  have HI := Lib.hid hi0
  have HQ := Lib.hid h
  clear h hi0
  go_enter Try.func86, Try.ntmps86
  go_wp2
  go_loopw [5, 6] (fun v i wr => ∃ k : Nat, k ≤ z.length ∧ i = .int .i64 k ∧ OwnI w1.heap.size wr v (brk z m k) ∧ Below w1.heap.size w1 wr) (fun _ i _ => z.length - (intOf i).toNat)
  case atStart => exact ⟨0, Nat.zero_le _, rfl, ⟨World.ownsRow_made w1 #[] 0 (Nat.le_refl _) (Nat.zero_le _) rfl, by simp⟩, (Below.refl _ _).alloc (Nat.le_refl _) _⟩
  case round =>
    obtain ⟨k, hk, rfl, hown, hbl⟩ := hrel
    have HO := Lib.hid hown
    have HL := Lib.hid hbl
    have HN := Lib.hid (brk_len z m k)
    by_cases hlt : k < z.length
    · obtain ⟨b, o, rfl, hq⟩ := (HQ.out.below hbl).pos hlt
      have HQA := Lib.hid hq
      obtain ⟨c0, c1, c2, c3⟩ := hq
      have HK := Lib.hid (HI.out k hlt)
      clear hown hbl
      cases hh : holdQ (nthQ z k) m
      · have HE := Lib.hid (brk_no hh)
        have hh' : holdB (nthQ z k).1 (nthQ z k).2.1 (nthQ z k).2.2.1 (nthQ z k).2.2.2 m = false := hh
        go_wp2_with fail
        refine call_below (l09HoldsQ_c _ _ _ m _ HQA.out HK.out.1 HK.out.2) ?_
        rw [hh']
        intro w2 hb2
        have HB2 := Lib.hid (hb2)
        clear hh hh' hb2 c0 c1 c2 c3
        have HO2 := Lib.hid (HO.out.below HB2.out)
        have HL2 := Lib.hid (below_next HL.out HB2.out)
        go_wp2_with (at_builtin; refine wpList_append_own _ rfl _ _ 32 rfl w1.heap.size 2 i0 (.int .i64 0) 1 8 Try.underlying32 hi hz0 hz1 hz2 rfl (by decide) _ _ _ rfl (HO2.out.1.alloc _) ⟨w2.heap.size, 0, none⟩ 1 1 [.int .i64 k] rfl rfl (own_new1 _ _ _) ?c2 ?c3 ?c4 ?c5 ?_)
        case c2 => (first | rfl | (intro u hu; simp at hu; subst hu; rfl))
        case c3 => have := HN.out; unfold maxLen; omega
        case c4 => have := HN.out; omega
        case c5 => have := HL2.out.size; simp; omega
        · intro v' w9 hown' hgrow hnil
          have hb1 : Below w1.heap.size w1 w9 := below_grown (HL2.out.alloc HL2.out.size _) (by have := HL2.out.size; simp; omega) hgrow fun q hq => HO2.out.lt q hq
          have HX := Lib.hid (show OwnI w1.heap.size w9 v' (brk z m (k + 1)) by rw [HE.out]; exact OwnI.snoc hown' hnil)
          have HY := Lib.hid hb1
          clear hown' hgrow hnil hb1
          go_wp2
          go_roundw
          case rel => exact ⟨k + 1, by omega, by go_num, HX.out, HY.out⟩
          case measure => simp [intOf]; omega
      · have HE := Lib.hid (brk_yes hh)
        have hh' : holdB (nthQ z k).1 (nthQ z k).2.1 (nthQ z k).2.2.1 (nthQ z k).2.2.2 m = true := hh
        go_wp2_with fail
        refine call_below (l09HoldsQ_c _ _ _ m _ HQA.out HK.out.1 HK.out.2) ?_
        rw [hh']
        intro w2 hb2
        have HB2 := Lib.hid (hb2)
        clear hh hh' hb2 c0 c1 c2 c3
        go_wp2
        go_roundw
        case rel => exact ⟨k + 1, by omega, by go_num, by rw [HE.out]; exact HO.out.below HB2.out, below_next HL.out HB2.out⟩
        case measure => simp [intOf]; omega
    · obtain rfl : k = z.length := by omega
      clear hown
      go_wp2
      go_ret
      obtain ⟨a', cap', rfl, hr⟩ := HO.out.rowA
      exact ⟨a', cap', rfl, hr, HL.out⟩

set_option maxRecDepth 100000 in
theorem s_c (a : Option Addr) (cap : Nat) (z : List (Int × Int × Int × Int)) (m : Int) (w : World) (h : Quads w a z) (hn : z.length ≤ 1048576) :
    Calls Try.prog 38 #[.slice a z.length cap, .int .i64 m] w fun e w' => ∃ a' cap', e = .returned (.tuple #[.slice a' (fZ z m).length cap', .int .i64 (fC z m)]) ∧ (RowA w.heap.size w'.heap.size w' a' (fZ z m) ∧ Below w.heap.size w w') := by
  cases hv : cordsB z
  · go_enter Try.func38, Try.ntmps38
    go_wp2_with fail
    refine call_below (l09List_c _ _ z _ h hn) ?_
    rw [hv]
    intro w1 hb1
    go_wp2
    go_ret2
    exact ⟨none, 0, by simp [fZ, fC, hv], .inl (by simp [fZ, hv]), hb1⟩
  cases hm : inB m 0 1000
  · go_enter Try.func38, Try.ntmps38
    go_wp2_with fail
    refine call_below (l09List_c _ _ z _ h hn) ?_
    rw [hv]
    intro w1 hb1
    go_wp2_with fail
    refine call_same (l09Share_c _ _) ?_
    rw [hm]
    go_wp2
    go_ret2
    exact ⟨none, 0, by simp [fZ, fC, hv, hm], .inl (by simp [fZ, hv, hm]), hb1⟩
  · obtain ⟨i0, hi, hz0, hz1, hz2⟩ := info_parts infoI'
    have hin := cords_in hv
    have hm' := inB_true hm
    have HI := Lib.hid (fun k (hk : k < z.length) => (show CordIn (nthQ z k).1 (nthQ z k).2.1 (nthQ z k).2.2.1 ∧ ShareIn (nthQ z k).2.2.2 m from ⟨(hin.2 k hk).1, (hin.2 k hk).2, hm'⟩))
    have hz4 := hin.1
    have HZ := Lib.hid (show fZ z m = brk z m z.length by simp [fZ, hv, hm])
    have HC := Lib.hid (show fC z m = 0 by simp [fC, hv, hm])
    clear hin hm'
    go_enter Try.func38, Try.ntmps38
    go_wp2_with fail
    refine call_below (l09List_c _ _ z _ h hn) ?_
    rw [hv]
    intro w1 hb1
    go_wp2_with fail
    refine call_same (l09Share_c _ _) ?_
    rw [hm]
    have HB := Lib.hid hb1
    have HQ := Lib.hid (h.below hb1)
    clear h hb1 hv hm
    go_wp2_with fail
    refine (breaking_c _ _ z m _ HQ.out hn HI.out).mono ?_
    rintro e w2 ⟨a', cap', rfl, hr, hb2⟩
    have HR := Lib.hid hr
    have HB2 := Lib.hid (below_next HB.out hb2)
    clear hr hb2
    go_wp2
    go_ret2
    refine ⟨a', cap', ?_, ?_, HB2.out⟩
    · rw [HZ.out, HC.out]; rfl
    · rw [HZ.out]; exact HR.out.wide HB.out.size (Nat.le_refl _)
set_option maxRecDepth 100000 in
set_option maxHeartbeats 1000000 in
theorem walk (a0 : Option Addr) (cap0 : Nat) (z0 : List (Int × Int × Int × Int)) (m1 : Int) (w : World) (h0 : Quads w a0 z0) (hm0 : z0.length ≤ maxLen) (_ : (Lit.int .i64 m1).wf = true) :
    Calls Try.prog 10 #[.slice a0 z0.length cap0, .int .i64 m1] w fun e w' => e = .returned (.bool true) ∧ Below w.heap.size w w' := by
  have hZ := f_len z0 m1
  have HZ := Lib.hid hZ
  clear hZ
  unfold maxLen at hm0
  by_cases hn0 : z0.length ≤ 1048576
  rotate_left
  · go_enter Try.func10, Try.ntmps10
    go_wp2_with fail
    refine call_same (szCordS_c _ _ _ _ _ (by omega) (by omega) (by omega)) ?_
    rw [if_neg (by omega)]
    go_wp2
    go_ret
    exact ⟨rfl, Below.refl _ _⟩
  go_enter Try.func10, Try.ntmps10
  go_wp2_with fail
  refine call_same (szCordS_c _ _ _ _ _ (by omega) (by omega) (by omega)) ?_
  rw [if_pos (by omega)]
  go_wp2_with fail
  refine call_pred (toCordS_c a0 cap0 z0 _ h0 hn0) ?_
  rintro w1 ⟨r1, b1⟩
  have HA1 := Lib.hid b1
  have HY1 := Lib.hid (Quads.row r1)
  clear r1 b1
  go_wp2_with fail
  refine (s_c _ _ z0 m1 _ HY1.out hn0).mono ?_
  rintro e2 w2 ⟨a2, c2, rfl, r2, b2⟩
  have HA2 := Lib.hid (below_next HA1.out b2)
  have HW2 := Lib.hid r2.nums
  clear r2 b2 HY1
  go_wp2_with fail
  refine call_pred (toCordS_c a0 cap0 z0 _ (h0.below HA2.out) hn0) ?_
  rintro w3 ⟨r3, b3⟩
  have HA3 := Lib.hid (below_next HA2.out b3)
  have HB3 := Lib.hid b3
  have HX3 := Lib.hid (QuadA.of_row r3)
  have HC3 := Lib.hid (Nat.le_refl w3.heap.size)
  clear r3 b3
  go_wp2_with fail
  refine (i_c _ _ z0 m1 _ HX3.out.quads hn0).mono ?_
  rintro e4 w4 ⟨a4, c4, rfl, r4, b4⟩
  have HA4 := Lib.hid (below_next HA3.out b4)
  have HB4 := Lib.hid (below_next HB3.out b4)
  have HX4 := Lib.hid (HX3.out.below HC3.out b4)
  have HC4 := Lib.hid (Nat.le_trans HC3.out b4.size)
  have HG4 := Lib.hid r4
  have HD4 := Lib.hid (Nat.le_refl w4.heap.size)
  clear r4 b4
  go_wp2_with fail
  refine call_below (eqInt64S_c a4 a2 _ _ (fZ z0 m1) _ HG4.out.nums (HW2.out.below HB4.out) HZ.out) ?_
  intro w5 b5
  have HA5 := Lib.hid (below_next HA4.out b5)
  have HB5 := Lib.hid (below_next HB4.out b5)
  have HX5 := Lib.hid (HX4.out.below HC4.out b5)
  have HG5 := Lib.hid (HG4.out.below HD4.out b5)
  have HC5 := Lib.hid (Nat.le_trans HC4.out b5.size)
  have HD5 := Lib.hid (Nat.le_trans HD4.out b5.size)
  clear b5
  go_wp2_with fail
  refine call_pred (toCordS_c a0 cap0 z0 _ (h0.below HA5.out) hn0) ?_
  rintro w6 ⟨r6, b6⟩
  have HA6 := Lib.hid (below_next HA5.out b6)
  have HB6 := Lib.hid (below_next HB5.out b6)
  have HX6 := Lib.hid (HX5.out.below HC5.out b6)
  have HG6 := Lib.hid (HG5.out.below HD5.out b6)
  have HC6 := Lib.hid (Nat.le_trans HC5.out b6.size)
  have HD6 := Lib.hid (Nat.le_trans HD5.out b6.size)
  have HY6 := Lib.hid (Quads.row r6)
  clear r6 b6
  go_wp2_with fail
  refine call_below (eqCordS_c _ _ _ _ z0 _ HX6.out.quads HY6.out hn0) ?_
  intro w7 b7
  have HA7 := Lib.hid (below_next HA6.out b7)
  have HB7 := Lib.hid (below_next HB6.out b7)
  have HX7 := Lib.hid (HX6.out.below HC6.out b7)
  have HG7 := Lib.hid (HG6.out.below HD6.out b7)
  have HC7 := Lib.hid (Nat.le_trans HC6.out b7.size)
  have HD7 := Lib.hid (Nat.le_trans HD6.out b7.size)
  clear b7 HY6
  go_wp2_with fail
  refine call_pred (markCordS_c _ _ _ _ _ z0 1 _ HX7.out hn0 (by omega) (by omega)) ?_
  intro w8 md8
  have HA8 := Lib.hid (HA7.out.trans (md8.below.mono HA2.out.size))
  have HB8 := Lib.hid (HB7.out.trans (md8.below))
  have HG8 := Lib.hid (HG7.out.mid md8 (.inl (Nat.le_refl _)))
  have HC8 := Lib.hid (Nat.le_trans HC7.out (Nat.le_of_eq md8.size.symm))
  have HD8 := Lib.hid (Nat.le_trans HD7.out (Nat.le_of_eq md8.size.symm))
  clear md8 HX3 HX4 HX5 HX6 HX7
  go_wp2_with fail
  refine call_below (eqInt64S_c a4 a2 _ _ (fZ z0 m1) _ HG8.out.nums (HW2.out.below HB8.out) HZ.out) ?_
  intro w9 b9
  have HA9 := Lib.hid (below_next HA8.out b9)
  have HB9 := Lib.hid (below_next HB8.out b9)
  have HG9 := Lib.hid (HG8.out.below HD8.out b9)
  have HC9 := Lib.hid (Nat.le_trans HC8.out b9.size)
  have HD9 := Lib.hid (Nat.le_trans HD8.out b9.size)
  clear b9
  go_wp2_with fail
  refine call_pred (markInt64S_c _ _ a4 _ (fZ z0 m1) 1 _ HG9.out HZ.out (by omega) (by omega)) ?_
  rintro w10 ⟨r10, md10⟩
  have HA10 := Lib.hid (HA9.out.trans (md10.below.mono HA3.out.size))
  have HB10 := Lib.hid (HB9.out.trans (md10.below.mono HB3.out.size))
  have HC10 := Lib.hid (Nat.le_trans HC9.out (Nat.le_of_eq md10.size.symm))
  have HD10 := Lib.hid (Nat.le_trans HD9.out (Nat.le_of_eq md10.size.symm))
  have HG10 := Lib.hid r10
  clear r10 md10
  go_wp2_with fail
  refine call_same (heldInt64S_c a4 _ 1 (fZ z0 m1).length _ HG10.out.nums HZ.out (by omega) (by omega)) ?_
  go_wp2_with fail
  refine call_pred (toCordS_c a0 cap0 z0 _ (h0.below HA10.out) hn0) ?_
  rintro w11 ⟨r11, b11⟩
  have HA11 := Lib.hid (below_next HA10.out b11)
  have HB11 := Lib.hid (below_next HB10.out b11)
  have HG11 := Lib.hid (HG10.out.below HD10.out b11)
  have HC11 := Lib.hid (Nat.le_trans HC10.out b11.size)
  have HD11 := Lib.hid (Nat.le_trans HD10.out b11.size)
  have HY11 := Lib.hid (Quads.row r11)
  clear r11 b11
  go_wp2_with fail
  refine (i_c _ _ z0 m1 _ HY11.out hn0).mono ?_
  rintro e12 w12 ⟨a12, c12, rfl, r12, b12⟩
  have HA12 := Lib.hid (below_next HA11.out b12)
  have HB12 := Lib.hid (below_next HB11.out b12)
  have HG12 := Lib.hid (HG11.out.below HD11.out b12)
  have HC12 := Lib.hid (Nat.le_trans HC11.out b12.size)
  have HD12 := Lib.hid (Nat.le_trans HD11.out b12.size)
  have HH12 := Lib.hid r12.nums
  clear r12 b12
  go_wp2_with fail
  refine call_below (eqInt64S_c a12 a2 _ _ (fZ z0 m1) _ HH12.out (HW2.out.below HB12.out) HZ.out) ?_
  intro w13 b13
  have HA13 := Lib.hid (below_next HA12.out b13)
  have HB13 := Lib.hid (below_next HB12.out b13)
  have HG13 := Lib.hid (HG12.out.below HD12.out b13)
  have HC13 := Lib.hid (Nat.le_trans HC12.out b13.size)
  have HD13 := Lib.hid (Nat.le_trans HD12.out b13.size)
  clear b13
  go_wp2_with fail
  refine call_same (heldInt64S_c a4 _ 1 (fZ z0 m1).length _ HG13.out.nums HZ.out (by omega) (by omega)) ?_
  go_wp2
  go_ret
  exact ⟨rfl, HA13.out⟩

theorem own : ownKnob Try.prog.godebug = none := by kernel_rfl
theorem laidOut : laidOutB Try.prog = true := by kernel_rfl
set_option maxRecDepth 100000 in
theorem lifted (os : Os) (started : os.Started) (H : Type) (enc : TypeId × Value → H) :
    ReturnsInHanded {} Try.checked os 10 .any (Rows.fnExactBreakingStringsSpec.pre6 enc Try.prog Try.f10 Rows.fnExactBreakingStringsRow.domain false) (Rows.fnExactBreakingStringsSpec.post enc Try.prog Try.f10 false true false false) := by
  refine returnsInHanded_of_change (C := Try.checked) own started (by kernel_rfl) Try.func10
    (ChangeSpec.witness6 (enc := enc) (C := Try.checked) false ⟨#[], #[.slice none 0 0, .int .i64 0], []⟩ 8 (by kernel_rfl) (by kernel_rfl) (by kernel_rfl) (by kernel_rfl)) ?_
  intro W base args ds gs before hval0 hW hcnd _
  have hval : ∀ (j : Nat) t v, Try.f10.params[j]? = some t → args[j]? = some v → Value.okWide Try.prog W .any base t v := hval0
  have hW' := hW
  obtain ⟨p, q, hA0, hV, rfl, hfz, hnd⟩ := hW
  have hA : DataW.TrodAll enc Try.prog W 0 (fun _ => true) true Try.f10.params.toList args.toList ds p := hA0
  rw [Try.params10] at hA hval
  obtain ⟨v0, vs0, d0, ds0, p0, q0, hargs, rfl, rfl, h0, r0⟩ := trodAll_cons hA
  obtain ⟨v1, vs1, d1, ds1, p1, q1, rfl, rfl, rfl, h1, r1⟩ := trodAll_cons r0
  obtain ⟨rfl, rfl, rfl⟩ := trodAll_nil r1
  obtain rfl : args = #[v0, v1] := by cases args; simp_all
  obtain ⟨rfl, rfl⟩ := trodVars_none hV
  have k0 := h0
  have lt0 : ∀ x ∈ p0, x.block < W.heap.size := by obtain ⟨m, hm⟩ := k0; exact DataW.trod_lt m _ _ _ hm
  obtain ⟨a0, len0, cap0, rfl⟩ := okWide_slice Try.underlying44 (hval 0 44 v0 rfl rfl)
  obtain ⟨z0, rfl, w0, m0⟩ : ∃ z : List (Int × Int × Int × Int), z.length = len0 ∧ Quads W a0 z ∧ z.length ≤ maxLen := by
    obtain ⟨fuel, hf⟩ := h0
    exact quads_open Try.underlying44 Try.underlying87 Try.underlying2 rfl rfl rfl rfl (by kernel_rfl) (by kernel_rfl) hf
  have k1 := h1
  have lt1 : ∀ x ∈ p1, x.block < W.heap.size := by obtain ⟨m, hm⟩ := k1; exact DataW.trod_lt m _ _ _ hm
  obtain ⟨a1, rfl, rfl, rfl, w1⟩ := open_int Try.underlying2 (hval 1 2 v1 rfl rfl) h1
  clear hA0 hval0
  refine (walk a0 cap0 z0 a1 W w0 m0 w1).mono fun e W' ⟨he, bel⟩ => ?_
  subst he
  exact ⟨_, rfl, _, _, _, [], _, [], hW', trodAll_mk1 (shut_bool Try.underlying4 _), (trodAll_cons_mk (Below.trod laidOut (by kernel_rfl) (of_decide_eq_true (by kernel_rfl)) k0 bel lt0) (trodAll_cons_mk (Below.trod laidOut (by kernel_rfl) (of_decide_eq_true (by kernel_rfl)) k1 bel lt1) trodAll_mk0)), rfl, bel.frame _, fun h => by cases h⟩

theorem over : Rows.fnExactBreakingStringsRow.holds Try.pinned (OpenSpec.ofChange Rows.fnExactBreakingStringsSpec) :=
  OpenClaim.holds_of_wide 10 Try.f10 rfl rfl rfl rfl rfl rfl rfl ⟨rfl, rfl, rfl, rfl, rfl⟩ rfl rfl rfl rfl rfl (by kernel_rfl) Try.func10 (by kernel_rfl)
    (of_decide_eq_true (by kernel_rfl)) (by unfold Func.isWrapper; first | (rw [if_pos (by decide +kernel)]; kernel_rfl) | (rw [if_neg (by decide +kernel)]; exact ⟨rfl, rfl⟩))
    (fun os started H enc _ => lifted os started H enc)

/-- THE STATEMENT. -/
theorem proved : Rows.FnExactBreakingStringsSaid := over
#print axioms proved
end Go.Proofs.Ytejcglenjhkhhaa.lawBreakingStrings
