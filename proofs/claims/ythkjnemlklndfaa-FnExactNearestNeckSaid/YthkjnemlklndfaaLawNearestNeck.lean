/- The program's NearestNeck returns what the reference's returns, for all arguments. No condition. -/
import Derived.Test.YthkjnemlklndfaaRows
import Derived.Test.YthkjnemlklndfaaNeckList
import Derived.OpenShut
import Derived.ChangeOld
import Derived.Lib.SmallJoins
namespace Go.Proofs.Ythkjnemlklndfaa.lawNearestNeck
open Go.ChangeShapes Go.WideShapes Go.ChangeAt Go.RowKit
set_option linter.unusedVariables false

theorem away_c (q r : Int × Int × Int × Int) (w : World) (hq : NeckIn q) (hr : NeckIn r) :
    Calls Try.prog 96 #[.agg #[.int .i64 q.1, .int .i64 q.2.1, .int .i64 q.2.2.1, .int .i64 q.2.2.2], .agg #[.int .i64 r.1, .int .i64 r.2.1, .int .i64 r.2.2.1, .int .i64 r.2.2.2]] w fun e w' => e = .returned (.int .i64 (apartF q r)) ∧ Below w.heap.size w w' := by
  obtain ⟨q1, q2, q3, q4⟩ := hq
  obtain ⟨r1, r2, r3, r4⟩ := hr
  have e1 := distF_bd (a := q.1) (b := r.1) (A := 10000) (by omega) (by omega)
  have e2 := distF_bd (a := q.2.1) (b := r.2.1) (A := 10000) (by omega) (by omega)
  have e3 := distF_bd (a := q.2.2.1) (b := r.2.2.1) (A := 10000) (by omega) (by omega)
  have e4 := distF_bd (a := q.2.2.2) (b := r.2.2.2) (A := 10000) (by omega) (by omega)
  have i1 := IntWalk.i64_in (distF q.1 r.1 + distF q.2.1 r.2.1) (by omega)
  have i2 := IntWalk.i64_in (distF q.1 r.1 + distF q.2.1 r.2.1 + distF q.2.2.1 r.2.2.1) (by omega)
  have i3 := IntWalk.i64_in (distF q.1 r.1 + distF q.2.1 r.2.1 + distF q.2.2.1 r.2.2.1 + distF q.2.2.2 r.2.2.2) (by omega)
  go_enter Try.func96, Try.ntmps96
  go_wp2_with fail
  go_quiet ((go_at_call 103; exact quiet_at (distance_c _ _ _ (by omega) (by omega))))
  go_wp2
  go_ret
  exact ⟨rfl, below_drewN (by go_grown) _⟩
theorem l10Apart_c (b o b' o' : Nat) (q r : Int × Int × Int × Int) (w : World) (cq : QuadAt w b o q) (cr : QuadAt w b' o' r) (hq : NeckIn q) (hr : NeckIn r) :
    Calls Try.prog 93 #[.pointer (some ⟨b, o, none⟩), .pointer (some ⟨b', o', none⟩)] w fun e w' => e = .returned (.int .i64 (apartF q r)) ∧ Drawn w w' := by
  obtain ⟨q1, q2, q3, q4⟩ := hq
  obtain ⟨r1, r2, r3, r4⟩ := hr
  obtain ⟨c0, c1, c2, c3⟩ := cq
  obtain ⟨d0, d1, d2, d3⟩ := cr
  have e1 := distF_bd (a := q.1) (b := r.1) (A := 10000) (by omega) (by omega)
  have e2 := distF_bd (a := q.2.1) (b := r.2.1) (A := 10000) (by omega) (by omega)
  have e3 := distF_bd (a := q.2.2.1) (b := r.2.2.1) (A := 10000) (by omega) (by omega)
  have e4 := distF_bd (a := q.2.2.2) (b := r.2.2.2) (A := 10000) (by omega) (by omega)
  have i1 := IntWalk.i64_in (distF q.1 r.1 + distF q.2.1 r.2.1) (by omega)
  have i2 := IntWalk.i64_in (distF q.1 r.1 + distF q.2.1 r.2.1 + distF q.2.2.1 r.2.2.1) (by omega)
  have i3 := IntWalk.i64_in (distF q.1 r.1 + distF q.2.1 r.2.1 + distF q.2.2.1 r.2.2.1 + distF q.2.2.2 r.2.2.2) (by omega)
  have j1 := IntWalk.i64_in (q.1 - r.1) (by omega)
  have j2 := IntWalk.i64_in (q.2.1 - r.2.1) (by omega)
  have j3 := IntWalk.i64_in (q.2.2.1 - r.2.2.1) (by omega)
  have j4 := IntWalk.i64_in (q.2.2.2 - r.2.2.2) (by omega)
  go_enter Try.func93, Try.ntmps93
  go_wp2_with fail
  go_quiet ((go_at_call 101; exact quiet_at (l08Abs_c _ _ _ (by omega) (by omega))))
  go_wp2
  go_ret
  exact ⟨rfl, ⟨_, rfl⟩⟩

/-- The nearest of the first k necks. -/
def bestTo (z : List (Int × Int × Int × Int)) (q : Int × Int × Int × Int) : Nat → Nat
  | 0 => 0
  | k + 1 => if apartF (nthQ z k) q < apartF (nthQ z (bestTo z q k)) q then k else bestTo z q k
theorem bestTo_lt {z : List (Int × Int × Int × Int)} {q : Int × Int × Int × Int} (h : 0 < z.length) : ∀ k, k ≤ z.length → bestTo z q k < z.length
  | 0, _ => h
  | k + 1, hk => by
    unfold bestTo
    split
    · omega
    · exact bestTo_lt h k (by omega)
theorem bestTo_yes {z : List (Int × Int × Int × Int)} {q : Int × Int × Int × Int} {k : Nat} (h : apartF (nthQ z k) q < apartF (nthQ z (bestTo z q k)) q) : bestTo z q (k + 1) = k := by rw [bestTo, if_pos h]
theorem bestTo_no {z : List (Int × Int × Int × Int)} {q : Int × Int × Int × Int} {k : Nat} (h : ¬ apartF (nthQ z k) q < apartF (nthQ z (bestTo z q k)) q) : bestTo z q (k + 1) = bestTo z q k := by rw [bestTo, if_neg h]
theorem bestTo_one (z : List (Int × Int × Int × Int)) (q : Int × Int × Int × Int) : bestTo z q 1 = 0 := by simp [bestTo]

def fF (z : List (Int × Int × Int × Int)) (q : Int × Int × Int × Int) : Int × Int × Int :=
  if neckOk q then (if necksN z = 0 then (if z = [] then (0, 0, 3) else (((bestTo z q z.length : Nat) : Int), apartF (nthQ z (bestTo z q z.length)) q, 0)) else (0, 0, necksN z)) else (0, 0, 1)

theorem fF_bad {z : List (Int × Int × Int × Int)} {q : Int × Int × Int × Int} (h : neckOk q = false) : fF z q = (0, 0, 1) := by unfold fF; rw [h]; rfl
theorem fF_code {z : List (Int × Int × Int × Int)} {q : Int × Int × Int × Int} (h : neckOk q = true) (hN : necksN z ≠ 0) : fF z q = (0, 0, necksN z) := by unfold fF; rw [h, if_neg hN]; rfl
theorem fF_nil {z : List (Int × Int × Int × Int)} {q : Int × Int × Int × Int} (h : neckOk q = true) (hN : necksN z = 0) (hz : z = []) : fF z q = (0, 0, 3) := by unfold fF; rw [h, if_pos hN, if_pos hz]; rfl
theorem fF_best {z : List (Int × Int × Int × Int)} {q : Int × Int × Int × Int} (h : neckOk q = true) (hN : necksN z = 0) (hz : z ≠ []) : fF z q = (((bestTo z q z.length : Nat) : Int), apartF (nthQ z (bestTo z q z.length)) q, 0) := by unfold fF; rw [h, if_pos hN, if_neg hz]; rfl
theorem necks_in {z : List (Int × Int × Int × Int)} (h : necksN z = 0) : (z.length : Int) ≤ 64 ∧ ∀ k, k < z.length → NeckIn (nthQ z k) := by
  rcases necksN_cases z with h1 | ⟨h1, h2⟩ | ⟨h1, h2⟩
  · rw [necksN_bad h1] at h; cases h
  · exact ⟨h2, fun k hk => NeckIn.of (qall_nth h1 hk)⟩
  · rw [necksN_long h1 h2] at h; cases h
theorem necks_err {z : List (Int × Int × Int × Int)} (h : necksN z ≠ 0) : (necksN z = 1 ∨ necksN z = 2) := by
  rcases necksN_cases z with h1 | ⟨h1, h2⟩ | ⟨h1, h2⟩
  · exact .inl (necksN_bad h1)
  · exact absurd (necksN_good h1 h2) h
  · exact .inr (necksN_long h1 h2)
/-- A box of four cells as an element. -/
theorem quad_box {w : World} {b : Nat} {q : Int × Int × Int × Int} (d : Four b (.int .i64 q.1) (.int .i64 q.2.1) (.int .i64 q.2.2.1) (.int .i64 q.2.2.2) w) : QuadAt w b 0 q := d
theorem keep3 {w1 w2 : World} {b o b' o' b'' o'' : Nat} {q q' q'' : Int × Int × Int × Int} (d : QuadAt w1 b o q ∧ QuadAt w1 b' o' q' ∧ QuadAt w1 b'' o'' q'') (h : Below w1.heap.size w1 w2) :
    (w2.cell? ⟨b, o, none⟩ = some (.int .i64 q.1) ∧ w2.cell? ⟨b, o + 1, none⟩ = some (.int .i64 q.2.1) ∧ w2.cell? ⟨b, o + 2, none⟩ = some (.int .i64 q.2.2.1) ∧ w2.cell? ⟨b, o + 3, none⟩ = some (.int .i64 q.2.2.2) ∧
    w2.cell? ⟨b', o', none⟩ = some (.int .i64 q'.1) ∧ w2.cell? ⟨b', o' + 1, none⟩ = some (.int .i64 q'.2.1) ∧ w2.cell? ⟨b', o' + 2, none⟩ = some (.int .i64 q'.2.2.1) ∧ w2.cell? ⟨b', o' + 3, none⟩ = some (.int .i64 q'.2.2.2) ∧
    w2.cell? ⟨b'', o'', none⟩ = some (.int .i64 q''.1) ∧ w2.cell? ⟨b'', o'' + 1, none⟩ = some (.int .i64 q''.2.1) ∧ w2.cell? ⟨b'', o'' + 2, none⟩ = some (.int .i64 q''.2.2.1) ∧ w2.cell? ⟨b'', o'' + 3, none⟩ = some (.int .i64 q''.2.2.2) ∧ Below w1.heap.size w1 w2) := by
  obtain ⟨d1, d2, d3⟩ := d
  obtain ⟨e0, e1, e2, e3⟩ := d1.below h
  obtain ⟨f0, f1, f2, f3⟩ := d2.below h
  obtain ⟨g0, g1, g2, g3⟩ := d3.below h
  exact ⟨e0, e1, e2, e3, f0, f1, f2, f3, g0, g1, g2, g3, h⟩

theorem i_c (a : Option Addr) (cap : Nat) (z : List (Int × Int × Int × Int)) (q : Int × Int × Int × Int) (w : World) (h : Quads w a z) (hn : z.length ≤ 1048576) :
    Calls Try.prog 46 #[.slice a z.length cap, .agg #[.int .i64 q.1, .int .i64 q.2.1, .int .i64 q.2.2.1, .int .i64 q.2.2.2]] w fun e w' => e = .returned (.tuple #[.int .i64 (fF z q).1, .int .i64 (fF z q).2.1, .int .i64 (fF z q).2.2]) ∧ Below w.heap.size w w' := by
  cases hv : neckOk q
  · have hv' : neckB q.1 q.2.1 q.2.2.1 q.2.2.2 = false := hv
    have HF := Lib.hid (fF_bad (z := z) hv)
    go_enter Try.func46, Try.ntmps46
    go_wp2_with fail
    refine call_below (validNeck_c _ _ _ _ _) ?_
    rw [hv']
    intro w1 hb1
    go_wp2
    go_ret3
    exact ⟨by rw [HF.out]; rfl, below_from hb1⟩
  have hv' : neckB q.1 q.2.1 q.2.2.1 q.2.2.2 = true := hv
  by_cases hN : necksN z = 0
  · by_cases hz : z = []
    · have HF := Lib.hid (fF_nil hv hN hz)
      have hz0 : z.length = 0 := by rw [hz]; rfl
      have HZ := Lib.hid hz0
      clear hz hz0
      go_enter Try.func46, Try.ntmps46
      go_wp2_with fail
      refine call_below (validNeck_c _ _ _ _ _) ?_
      rw [hv']
      intro w1 hb1
      go_wp2_with fail
      refine call_below (necksCode_c _ _ z _ (h.below (below_from hb1)) hn) ?_
      rw [hN]
      intro w2 hb2
      have hz0 := HZ.out
      go_wp2
      go_ret3
      exact ⟨by rw [HF.out]; rfl, below_from (below_next hb1 hb2)⟩
    · have hz0 : 0 < z.length := List.length_pos_iff.2 hz
      have hbe : ((z.length : Int) == 0) = false := by simp; omega
      have HF := Lib.hid (fF_best hv hN hz)
      have hin := necks_in hN
      have hl := hin.1
      have HI := Lib.hid hin.2
      have hq := NeckIn.of hv
      have HB := Lib.hid (fun k => bestTo_lt (q := q) hz0 k)
      clear hin
      go_enter Try.func46, Try.ntmps46
      go_wp2_with fail
      refine call_below (validNeck_c _ _ _ _ _) ?_
      rw [hv']
      intro w1 hb1
      go_wp2_with fail
      refine call_below (necksCode_c _ _ z _ (h.below (below_from hb1)) hn) ?_
      rw [hN]
      intro w2 hb2
      have H2 := below_next hb1 hb2
      have D := box_four H2
      obtain ⟨d0, d1, d2, d3⟩ := D
      have hD : QuadAt w2 w.heap.size 0 q := ⟨d0, d1, d2, d3⟩
      have hb := below_from H2
      clear hb1 hb2 H2 d0 d1 d2 d3
      go_wp2
      go_loopw [8, 24] (fun s i wr => ∃ k : Nat, k ≤ z.length ∧ i = .int .i64 k ∧ s = .int .i64 (bestTo z q k : Nat) ∧ QuadAt wr w.heap.size 0 q ∧ Below w.heap.size w wr) (fun _ i _ => z.length - (intOf i).toNat)
      case atStart => exact ⟨0, Nat.zero_le _, rfl, rfl, hD, hb⟩
      case round =>
        clear hb hD
        obtain ⟨k, hk, rfl, rfl, hd, hbl⟩ := hrel
        have hbk := HB.out k hk
        have HL := Lib.hid hbl
        by_cases hlt : k < z.length
        · obtain ⟨b, o, rfl, -⟩ := (h.below hbl).pos hlt
          have hqk := (h.below hbl).at_ hlt
          have hqb := (h.below hbl).at_ hbk
          have hk3 : NeckIn (nthQ z k) ∧ NeckIn (nthQ z (bestTo z q k)) ∧ NeckIn q := ⟨HI.out k hlt, HI.out _ hbk, hq⟩
          have hy : apartF (nthQ z k) q < apartF (nthQ z (bestTo z q k)) q → bestTo z q (k + 1) = k := bestTo_yes
          have hny : ¬ apartF (nthQ z k) q < apartF (nthQ z (bestTo z q k)) q → bestTo z q (k + 1) = bestTo z q k := bestTo_no
          clear h hbl hq
          generalize nthQ z k = e at hqk hk3 hy hny
          generalize bestTo z q k = m at hqb hbk hk3 hy hny ⊢
          generalize nthQ z m = f at hqb hk3 hy hny
          have HK := Lib.hid hk3
          have HYY := Lib.hid hy
          have HYN := Lib.hid hny
          obtain ⟨c0, c1, c2, c3⟩ := hqk
          have hb0 : (0 : Int) ≤ (m : Int) := by omega
          have hb1 : (m : Int) < z.length := by omega
          have HD := Lib.hid (And.intro hd hqb)
          clear hbk hd hqb hk3 hy hny
          go_wp2_with fail
          have HA := Lib.hid (show Below wr.heap.size wr (wr.alloc (.cells #[.int .i64 e.1, .int .i64 e.2.1, .int .i64 e.2.2.1, .int .i64 e.2.2.2] 62)) from (Below.refl _ _).alloc (Nat.le_refl _) _)
          have D := box_four (w := wr) (t := 62) (v0 := .int .i64 e.1) (v1 := .int .i64 e.2.1) (v2 := .int .i64 e.2.2.1) (v3 := .int .i64 e.2.2.2) (Below.refl _ _)
          generalize wr.alloc (.cells #[.int .i64 e.1, .int .i64 e.2.1, .int .i64 e.2.2.1, .int .i64 e.2.2.2] 62) = wA at HA D ⊢
          have HQ := Lib.hid (show QuadAt wA wr.heap.size 0 e ∧ QuadAt wA w.heap.size 0 q ∧ QuadAt wA b (o + m * 4) f from ⟨D, HD.out.1.below HA.out, HD.out.2.below HA.out⟩)
          clear c0 c1 c2 c3
          obtain ⟨c0, c1, c2, c3⟩ := D
          obtain ⟨d0, d1, d2, d3⟩ := HQ.out.2.1
          obtain ⟨f0, f1, f2, f3⟩ := HQ.out.2.2
          by_cases hless : apartF e q < apartF f q
          · have HY := Lib.hid (HYY.out hless)
            have hless' : decide (apartF e q < apartF f q) = true := decide_eq_true hless
            go_region_held3 (fun w' => w'.cell? ⟨wr.heap.size, 0, none⟩ = some (.int .i64 e.1) ∧ w'.cell? ⟨wr.heap.size, 0 + 1, none⟩ = some (.int .i64 e.2.1) ∧ w'.cell? ⟨wr.heap.size, 0 + 2, none⟩ = some (.int .i64 e.2.2.1) ∧ w'.cell? ⟨wr.heap.size, 0 + 3, none⟩ = some (.int .i64 e.2.2.2) ∧
                w'.cell? ⟨w.heap.size, 0, none⟩ = some (.int .i64 q.1) ∧ w'.cell? ⟨w.heap.size, 0 + 1, none⟩ = some (.int .i64 q.2.1) ∧ w'.cell? ⟨w.heap.size, 0 + 2, none⟩ = some (.int .i64 q.2.2.1) ∧ w'.cell? ⟨w.heap.size, 0 + 3, none⟩ = some (.int .i64 q.2.2.2) ∧
                w'.cell? ⟨b, o + m * 4, none⟩ = some (.int .i64 f.1) ∧ w'.cell? ⟨b, o + m * 4 + 1, none⟩ = some (.int .i64 f.2.1) ∧ w'.cell? ⟨b, o + m * 4 + 2, none⟩ = some (.int .i64 f.2.2.1) ∧ w'.cell? ⟨b, o + m * 4 + 3, none⟩ = some (.int .i64 f.2.2.2) ∧ Below wA.heap.size wA w')
              (first | exact keep3 HQ.out (Below.refl _ _).drew | exact keep3 HQ.out (below_next (Below.refl _ _).drew hb2) | exact keep3 HQ.out (below_next (below_next (Below.refl _ _).drew hb2) hb3) | go_keep)
              (first | (go_at_call 96; refine call_below (away_c _ q _ ?_ HK.out.2.2) ?_; (first | exact HK.out.1 | exact HK.out.2.1); (first | (have hx := hb2; clear hx; intro w3 hb3) | intro w2 hb2)))
            go_wp2
            go_roundw
            case rel => exact ⟨k + 1, by omega, by go_num, by rw [HY.out], HQ.out.2.1.below (below_next (below_next (Below.refl _ _).drew hb2) hb3), below_next HL.out (below_next HA.out (below_next (below_next (Below.refl _ _).drew hb2) hb3))⟩
            case measure => simp [intOf]; omega
          · have HY := Lib.hid (HYN.out (Int.not_lt.1 hless))
            have hless' : decide (apartF e q < apartF f q) = false := decide_eq_false hless
            go_region_held3 (fun w' => w'.cell? ⟨wr.heap.size, 0, none⟩ = some (.int .i64 e.1) ∧ w'.cell? ⟨wr.heap.size, 0 + 1, none⟩ = some (.int .i64 e.2.1) ∧ w'.cell? ⟨wr.heap.size, 0 + 2, none⟩ = some (.int .i64 e.2.2.1) ∧ w'.cell? ⟨wr.heap.size, 0 + 3, none⟩ = some (.int .i64 e.2.2.2) ∧
                w'.cell? ⟨w.heap.size, 0, none⟩ = some (.int .i64 q.1) ∧ w'.cell? ⟨w.heap.size, 0 + 1, none⟩ = some (.int .i64 q.2.1) ∧ w'.cell? ⟨w.heap.size, 0 + 2, none⟩ = some (.int .i64 q.2.2.1) ∧ w'.cell? ⟨w.heap.size, 0 + 3, none⟩ = some (.int .i64 q.2.2.2) ∧
                w'.cell? ⟨b, o + m * 4, none⟩ = some (.int .i64 f.1) ∧ w'.cell? ⟨b, o + m * 4 + 1, none⟩ = some (.int .i64 f.2.1) ∧ w'.cell? ⟨b, o + m * 4 + 2, none⟩ = some (.int .i64 f.2.2.1) ∧ w'.cell? ⟨b, o + m * 4 + 3, none⟩ = some (.int .i64 f.2.2.2) ∧ Below wA.heap.size wA w')
              (first | exact keep3 HQ.out (Below.refl _ _).drew | exact keep3 HQ.out (below_next (Below.refl _ _).drew hb2) | exact keep3 HQ.out (below_next (below_next (Below.refl _ _).drew hb2) hb3) | go_keep)
              (first | (go_at_call 96; refine call_below (away_c _ q _ ?_ HK.out.2.2) ?_; (first | exact HK.out.1 | exact HK.out.2.1); (first | (have hx := hb2; clear hx; intro w3 hb3) | intro w2 hb2)))
            go_wp2
            go_roundw
            case rel => exact ⟨k + 1, by omega, by go_num, by rw [HY.out], HQ.out.2.1.below (below_next (below_next (Below.refl _ _).drew hb2) hb3), below_next HL.out (below_next HA.out (below_next (below_next (Below.refl _ _).drew hb2) hb3))⟩
            case measure => simp [intOf]; omega
        · obtain rfl : k = z.length := by omega
          obtain ⟨b, o, rfl, hqb⟩ := (h.below hbl).pos hbk
          have hnb := HI.out _ hbk
          have HQ := Lib.hid (And.intro hqb hd)
          obtain ⟨c0, c1, c2, c3⟩ := hqb
          obtain ⟨d0, d1, d2, d3⟩ := hd
          have HK := Lib.hid (And.intro hnb hq)
          have hb0 : (0 : Int) ≤ (bestTo z q z.length : Nat) := by omega
          have hb1 : ((bestTo z q z.length : Nat) : Int) < z.length := by omega
          clear h hbl hnb hq hbk
          go_wp2_with fail
          go_region_held3 (fun w' => w'.cell? ⟨b, o + bestTo z q z.length * 4, none⟩ = some (.int .i64 (nthQ z (bestTo z q z.length)).1) ∧ w'.cell? ⟨b, o + bestTo z q z.length * 4 + 1, none⟩ = some (.int .i64 (nthQ z (bestTo z q z.length)).2.1) ∧ w'.cell? ⟨b, o + bestTo z q z.length * 4 + 2, none⟩ = some (.int .i64 (nthQ z (bestTo z q z.length)).2.2.1) ∧ w'.cell? ⟨b, o + bestTo z q z.length * 4 + 3, none⟩ = some (.int .i64 (nthQ z (bestTo z q z.length)).2.2.2) ∧
              w'.cell? ⟨w.heap.size, 0, none⟩ = some (.int .i64 q.1) ∧ w'.cell? ⟨w.heap.size, 0 + 1, none⟩ = some (.int .i64 q.2.1) ∧ w'.cell? ⟨w.heap.size, 0 + 2, none⟩ = some (.int .i64 q.2.2.1) ∧ w'.cell? ⟨w.heap.size, 0 + 3, none⟩ = some (.int .i64 q.2.2.2) ∧ Below wr.heap.size wr w')
            (first | exact keepQQ HQ.out.1 HQ.out.2 (Below.refl _ _).drew | exact keepQQ HQ.out.1 HQ.out.2 (below_next (Below.refl _ _).drew hb2) | go_keep)
            (first | (go_at_call 96; refine call_below (away_c (nthQ z (bestTo z q z.length)) q _ HK.out.1 HK.out.2) ?_; intro w2 hb2))
          go_wp2
          go_ret3
          exact ⟨by rw [HF.out]; rfl, below_next HL.out (below_next (Below.refl _ _).drew hb2)⟩
  · have HF := Lib.hid (fF_code hv hN)
    rcases necks_err hN with hN1 | hN1
    all_goals
      go_enter Try.func46, Try.ntmps46
      go_wp2_with fail
      refine call_below (validNeck_c _ _ _ _ _) ?_
      rw [hv']
      intro w1 hb1
      go_wp2_with fail
      refine call_below (necksCode_c _ _ z _ (h.below (below_from hb1)) hn) ?_
      rw [hN1]
      intro w2 hb2
      go_wp2
      go_ret3
      exact ⟨by rw [HF.out, hN1]; rfl, below_from (below_next hb1 hb2)⟩

theorem quad_drewN {w : World} {b o : Nat} {q : Int × Int × Int × Int} (h : QuadAt w b o q) (n : Nat) : QuadAt (w.drewN n) b o q := h.below (below_drewN (Below.refl _ _) _)

theorem s_c (a : Option Addr) (cap : Nat) (z : List (Int × Int × Int × Int)) (q : Int × Int × Int × Int) (w : World) (h : Quads w a z) (hn : z.length ≤ 1048576) :
    Calls Try.prog 43 #[.slice a z.length cap, .agg #[.int .i64 q.1, .int .i64 q.2.1, .int .i64 q.2.2.1, .int .i64 q.2.2.2]] w fun e w' => e = .returned (.tuple #[.int .i64 (fF z q).1, .int .i64 (fF z q).2.1, .int .i64 (fF z q).2.2]) ∧ Below w.heap.size w w' := by
  have hA : Below w.heap.size w (w.alloc (.cells #[.int .i64 q.1, .int .i64 q.2.1, .int .i64 q.2.2.1, .int .i64 q.2.2.2] 62)) := (Below.refl _ _).alloc (Nat.le_refl _) _
  cases hv : neckOk q
  · have hv' : neckB q.1 q.2.1 q.2.2.1 q.2.2.2 = false := hv
    have HF := Lib.hid (fF_bad (z := z) hv)
    rcases necksN_cases z with h1 | ⟨h1, h2⟩ | ⟨h1, h2⟩
    · have hN := necksN_bad h1
      clear h1
      go_enter Try.func43, Try.ntmps43
      go_wp2_with fail
      refine call_below (l10List_c _ _ z _ (h.below hA) hn) ?_
      rw [hN]
      intro w1 hb1
      have D := box_four hb1
      obtain ⟨d0, d1, d2, d3⟩ := D
      go_wp2_with fail
      refine call_same (l10Ok_c _ _ _ _ _ _ _ d0 d1 d2 d3) ?_
      rw [hv']
      go_wp2
      go_ret3
      exact ⟨by rw [HF.out]; rfl, below_from hb1⟩
    · have hN := necksN_good h1 h2
      clear h1 h2
      go_enter Try.func43, Try.ntmps43
      go_wp2_with fail
      refine call_below (l10List_c _ _ z _ (h.below hA) hn) ?_
      rw [hN]
      intro w1 hb1
      have D := box_four hb1
      obtain ⟨d0, d1, d2, d3⟩ := D
      go_wp2_with fail
      refine call_same (l10Ok_c _ _ _ _ _ _ _ d0 d1 d2 d3) ?_
      rw [hv']
      go_wp2
      go_ret3
      exact ⟨by rw [HF.out]; rfl, below_from hb1⟩
    · have hN := necksN_long h1 h2
      clear h1 h2
      go_enter Try.func43, Try.ntmps43
      go_wp2_with fail
      refine call_below (l10List_c _ _ z _ (h.below hA) hn) ?_
      rw [hN]
      intro w1 hb1
      have D := box_four hb1
      obtain ⟨d0, d1, d2, d3⟩ := D
      go_wp2_with fail
      refine call_same (l10Ok_c _ _ _ _ _ _ _ d0 d1 d2 d3) ?_
      rw [hv']
      go_wp2
      go_ret3
      exact ⟨by rw [HF.out]; rfl, below_from hb1⟩
  have hv' : neckB q.1 q.2.1 q.2.2.1 q.2.2.2 = true := hv
  by_cases hN : necksN z = 0
  · by_cases hz : z = []
    · have HF := Lib.hid (fF_nil hv hN hz)
      have hz0 : z.length = 0 := by rw [hz]; rfl
      have HZ := Lib.hid hz0
      clear hz hz0
      go_enter Try.func43, Try.ntmps43
      go_wp2_with fail
      refine call_below (l10List_c _ _ z _ (h.below hA) hn) ?_
      rw [hN]
      intro w1 hb1
      have D := box_four hb1
      obtain ⟨d0, d1, d2, d3⟩ := D
      go_wp2_with fail
      refine call_same (l10Ok_c _ _ _ _ _ _ _ d0 d1 d2 d3) ?_
      rw [hv']
      have hz0 := HZ.out
      go_wp2
      go_ret3
      exact ⟨by rw [HF.out]; rfl, below_from hb1⟩
    · have hz0 : 0 < z.length := List.length_pos_iff.2 hz
      have hbe : ((z.length : Int) == 0) = false := by simp; omega
      have HF := Lib.hid (fF_best hv hN hz)
      have hin := necks_in hN
      have hl := hin.1
      have HI := Lib.hid hin.2
      have hq := NeckIn.of hv
      have HB := Lib.hid (fun k => bestTo_lt (q := q) hz0 k)
      clear hin
      go_enter Try.func43, Try.ntmps43
      go_wp2_with fail
      refine call_below (l10List_c _ _ z _ (h.below hA) hn) ?_
      rw [hN]
      intro w1 hb1
      have D := box_four hb1
      obtain ⟨d0, d1, d2, d3⟩ := D
      have hD : QuadAt w1 w.heap.size 0 q := ⟨d0, d1, d2, d3⟩
      have hb := below_from hb1
      go_wp2_with fail
      refine call_same (l10Ok_c _ _ _ _ _ _ _ d0 d1 d2 d3) ?_
      rw [hv']
      clear hb1 d0 d1 d2 d3
      go_wp2
      go_loopw [8, 9] (fun s i wr => ∃ k : Nat, 0 < k ∧ k ≤ z.length ∧ i = .int .i64 k ∧ s = .int .i64 (bestTo z q k : Nat) ∧ QuadAt wr w.heap.size 0 q ∧ Below w.heap.size w wr) (fun _ i _ => z.length - (intOf i).toNat)
      case atStart => exact ⟨1, Nat.one_pos, hz0, rfl, by rw [bestTo_one]; rfl, hD, hb⟩
      case round =>
        clear hb hD
        obtain ⟨k, hk1, hk, rfl, rfl, hd, hbl⟩ := hrel
        have hbk := HB.out k hk
        have HL := Lib.hid hbl
        by_cases hlt : k < z.length
        · obtain ⟨b, o, rfl, hqk⟩ := (h.below hbl).pos hlt
          have hqb := (h.below hbl).at_ hbk
          have hk3 : NeckIn (nthQ z k) ∧ NeckIn (nthQ z (bestTo z q k)) ∧ NeckIn q := ⟨HI.out k hlt, HI.out _ hbk, hq⟩
          have hy : apartF (nthQ z k) q < apartF (nthQ z (bestTo z q k)) q → bestTo z q (k + 1) = k := bestTo_yes
          have hny : apartF (nthQ z (bestTo z q k)) q ≤ apartF (nthQ z k) q → bestTo z q (k + 1) = bestTo z q k := fun h => bestTo_no (Int.not_lt.2 h)
          clear h hbl hq
          generalize nthQ z k = e at hqk hk3 hy hny
          generalize bestTo z q k = m at hqb hbk hk3 hy hny ⊢
          generalize nthQ z m = f at hqb hk3 hy hny
          have HK := Lib.hid hk3
          have HYY := Lib.hid hy
          have HYN := Lib.hid hny
          have hi0 : (0 : Int) ≤ (k : Int) := by omega
          have hi1 : (k : Int) < z.length := by omega
          have hb0 : (0 : Int) ≤ (m : Int) := by omega
          have hb1 : (m : Int) < z.length := by omega
          have HD := Lib.hid (And.intro hqk (And.intro hqb hd))
          clear hbk hd hqb hqk hk3 hy hny
          by_cases hless : apartF e q < apartF f q
          · have HY := Lib.hid (HYY.out hless)
            have hless' : decide (apartF e q < apartF f q) = true := decide_eq_true hless
            go_wp2_with fail
            go_quiet ((go_at_call 93; first | exact Calls.quiet_of (l10Apart_c _ _ _ _ e q _ (quad_drewN HD.out.1 _) (quad_drewN HD.out.2.2 _) HK.out.1 HK.out.2.2) | exact Calls.quiet_of (l10Apart_c _ _ _ _ f q _ (quad_drewN HD.out.2.1 _) (quad_drewN HD.out.2.2 _) HK.out.2.1 HK.out.2.2)))
            go_wp2
            go_roundw
            case rel => exact ⟨k + 1, by omega, by omega, by go_num, by rw [HY.out], quad_drewN HD.out.2.2 _, below_drewN HL.out _⟩
            case measure => simp [intOf]; omega
          · have HY := Lib.hid (HYN.out (Int.not_lt.1 hless))
            have hless' : decide (apartF e q < apartF f q) = false := decide_eq_false hless
            go_wp2_with fail
            go_quiet ((go_at_call 93; first | exact Calls.quiet_of (l10Apart_c _ _ _ _ e q _ (quad_drewN HD.out.1 _) (quad_drewN HD.out.2.2 _) HK.out.1 HK.out.2.2) | exact Calls.quiet_of (l10Apart_c _ _ _ _ f q _ (quad_drewN HD.out.2.1 _) (quad_drewN HD.out.2.2 _) HK.out.2.1 HK.out.2.2)))
            go_wp2
            go_roundw
            case rel => exact ⟨k + 1, by omega, by omega, by go_num, by rw [HY.out], quad_drewN HD.out.2.2 _, below_drewN HL.out _⟩
            case measure => simp [intOf]; omega
        · obtain rfl : k = z.length := by omega
          obtain ⟨b, o, rfl, hqb⟩ := (h.below hbl).pos hbk
          have hnb := HI.out _ hbk
          have hb0 : (0 : Int) ≤ (bestTo z q z.length : Nat) := by omega
          have hb1 : ((bestTo z q z.length : Nat) : Int) < z.length := by omega
          clear h hbl
          go_wp2_with fail
          refine call_pred (l10Apart_c _ _ _ _ (nthQ z (bestTo z q z.length)) q _ hqb hd hnb hq) ?_
          intro w2 hw2
          go_wp2
          go_ret3
          exact ⟨by rw [HF.out]; rfl, below_next HL.out hw2.below⟩
  · have HF := Lib.hid (fF_code hv hN)
    rcases necks_err hN with hN1 | hN1
    all_goals
      go_enter Try.func43, Try.ntmps43
      go_wp2_with fail
      refine call_below (l10List_c _ _ z _ (h.below hA) hn) ?_
      rw [hN1]
      intro w1 hb1
      have D := box_four hb1
      obtain ⟨d0, d1, d2, d3⟩ := D
      go_wp2_with fail
      refine call_same (l10Ok_c _ _ _ _ _ _ _ d0 d1 d2 d3) ?_
      rw [hv']
      go_wp2
      go_ret3
      exact ⟨by rw [HF.out, hN1]; rfl, below_from hb1⟩


theorem keep1 {w1 w2 : World} {b o : Nat} {q : Int × Int × Int × Int} (d : QuadAt w1 b o q) (h : Below w1.heap.size w1 w2) :
    w2.cell? ⟨b, o, none⟩ = some (.int .i64 q.1) ∧ w2.cell? ⟨b, o + 1, none⟩ = some (.int .i64 q.2.1) ∧ w2.cell? ⟨b, o + 2, none⟩ = some (.int .i64 q.2.2.1) ∧ w2.cell? ⟨b, o + 3, none⟩ = some (.int .i64 q.2.2.2) ∧ Below w1.heap.size w1 w2 := keepQ d h

theorem walk0 (a0 : Option Addr) (cap0 : Nat) (z0 : List (Int × Int × Int × Int)) (q : Int × Int × Int × Int) (w : World) (h0 : Quads w a0 z0) (hm0 : z0.length ≤ maxLen) :
    Calls Try.prog 11 #[.slice a0 z0.length cap0, .agg #[.int .i64 q.1, .int .i64 q.2.1, .int .i64 q.2.2.1, .int .i64 q.2.2.2]] w fun e w' => e = .returned (.bool true) ∧ Below w.heap.size w w' := by
  unfold maxLen at hm0
  by_cases hn0 : z0.length ≤ 1048576
  rotate_left
  · go_enter Try.func11, Try.ntmps11
    go_wp2_with fail
    refine call_same (szNeckS_c _ _ _ _ _ (by omega) (by omega) (by omega)) ?_
    rw [if_neg (by omega)]
    go_wp2
    go_ret
    exact ⟨rfl, by go_grown⟩
  have HA := Lib.hid (show Below w.heap.size w (w.alloc (.cells #[.int .i64 q.1, .int .i64 q.2.1, .int .i64 q.2.2.1, .int .i64 q.2.2.2] 57)) from (Below.refl _ _).alloc (Nat.le_refl _) _)
  have D := box_four (w := w) (t := 57) (v0 := .int .i64 q.1) (v1 := .int .i64 q.2.1) (v2 := .int .i64 q.2.2.1) (v3 := .int .i64 q.2.2.2) (Below.refl _ _)
  go_enter Try.func11, Try.ntmps11
  go_wp2_with fail
  refine call_same (szNeckS_c _ _ _ _ _ (by omega) (by omega) (by omega)) ?_
  rw [if_pos (by omega)]
  generalize w.alloc (.cells #[.int .i64 q.1, .int .i64 q.2.1, .int .i64 q.2.2.1, .int .i64 q.2.2.2] 57) = wA at HA D ⊢
  have hA := h0.below HA.out
  have HQ := Lib.hid (show QuadAt wA w.heap.size 0 q from D)
  obtain ⟨d0, d1, d2, d3⟩ := D
  have HH := Lib.hid hA
  clear h0 hA hm0
  go_wp2_with fail
  go_region_held3 (fun w' => w'.cell? ⟨w.heap.size, 0, none⟩ = some (.int .i64 q.1) ∧ w'.cell? ⟨w.heap.size, 0 + 1, none⟩ = some (.int .i64 q.2.1) ∧ w'.cell? ⟨w.heap.size, 0 + 2, none⟩ = some (.int .i64 q.2.2.1) ∧ w'.cell? ⟨w.heap.size, 0 + 3, none⟩ = some (.int .i64 q.2.2.2) ∧ Below wA.heap.size wA w')
    (first | exact keep1 HQ.out (Below.refl _ _).drew | exact keep1 HQ.out (below_next (Below.refl _ _).drew hb2) | exact keep1 HQ.out (below_next (below_next (Below.refl _ _).drew hb2) hb3) | exact keep1 HQ.out (below_next (below_next (below_next (Below.refl _ _).drew hb2) hb3) hb4) | go_keep)
    (first | (go_at_call 44; refine call_pred (toNeckS_c a0 cap0 z0 _ (HH.out.below (Below.refl _ _).drew) hn0) ?_; rintro w2 ⟨r2, hb2⟩) | (go_at_call 45; refine call_below (toNeck_c _ _ _ _ _) ?_; intro w3 hb3) | (go_at_call 43; refine call_below (s_c _ _ z0 q _ ((Quads.row r2).below hb3) hn0) ?_; intro w4 hb4))
  have H4 := below_next (below_next (below_next (Below.refl _ _).drew hb2) hb3) hb4
  clear hb2 hb3 hb4 r2 d0 d1 d2 d3
  obtain ⟨d0, d1, d2, d3⟩ := HQ.out.below H4
  go_wp2_with fail
  refine call_pred (toNeckS_c a0 cap0 z0 _ (HH.out.below H4) hn0) ?_
  rintro w5 ⟨r5, hb5⟩
  have H5 := below_next H4 hb5
  have X5 := Quads.row r5
  clear r5 H4 hb5 d0 d1 d2 d3
  obtain ⟨d0, d1, d2, d3⟩ := HQ.out.below H5
  go_wp2_with fail
  refine call_below (toNeck_c _ _ _ _ _) ?_
  intro w6 hb6
  have H6 := below_next H5 hb6
  have X6 := X5.below hb6
  clear X5 H5 hb6 d0 d1 d2 d3
  go_wp2_with fail
  refine call_below (i_c _ _ z0 q _ X6 hn0) ?_
  intro w7 hb7
  have H7 := below_next H6 hb7
  have X7 := X6.below hb7
  clear X6 H6 hb7
  go_wp2_with fail
  refine call_pred (toNeckS_c a0 cap0 z0 _ (HH.out.below H7) hn0) ?_
  rintro w8 ⟨r8, hb8⟩
  have H8 := below_next H7 hb8
  have X8 := X7.below hb8
  have Y8 := Quads.row r8
  clear r8 H7 hb8 X7
  go_wp2_with fail
  refine call_below (eqNeckS_c _ _ _ _ z0 _ X8 Y8 hn0) ?_
  intro w9 hb9
  have H9 := below_next H8 hb9
  clear X8 Y8 H8 hb9
  go_wp2
  go_ret
  exact ⟨rfl, below_next HA.out H9⟩

theorem walk (a0 : Option Addr) (cap0 : Nat) (z0 : List (Int × Int × Int × Int)) (p q r s : Int) (w : World) (h0 : Quads w a0 z0) (hm0 : z0.length ≤ maxLen) (_ : (Lit.int .i64 p).wf = true) (_ : (Lit.int .i64 q).wf = true) (_ : (Lit.int .i64 r).wf = true) (_ : (Lit.int .i64 s).wf = true) :
    Calls Try.prog 11 #[.slice a0 z0.length cap0, .agg #[.int .i64 p, .int .i64 q, .int .i64 r, .int .i64 s]] w fun e w' => e = .returned (.bool true) ∧ Below w.heap.size w w' := walk0 a0 cap0 z0 (p, q, r, s) w h0 hm0

theorem own : ownKnob Try.prog.godebug = none := by kernel_rfl
theorem laidOut : laidOutB Try.prog = true := by kernel_rfl
theorem cells57 : Try.prog.cellsOf 57 = 4 := by kernel_rfl
set_option maxRecDepth 100000 in
theorem lifted (os : Os) (started : os.Started) (H : Type) (enc : TypeId × Value → H) :
    ReturnsInHanded {} Try.checked os 11 .any (Rows.fnExactNearestNeckSpec.pre6 enc Try.prog Try.f11 Rows.fnExactNearestNeckRow.domain false) (Rows.fnExactNearestNeckSpec.post enc Try.prog Try.f11 false true false false) := by
  refine returnsInHanded_of_change (C := Try.checked) own started (by kernel_rfl) Try.func11
    (ChangeSpec.witness6 (enc := enc) (C := Try.checked) false ⟨#[], #[.slice none 0 0, .agg #[.int .i64 0, .int .i64 0, .int .i64 0, .int .i64 0]], []⟩ 8 (by kernel_rfl) (by kernel_rfl) (by kernel_rfl) (by kernel_rfl)) ?_
  intro W base args ds gs before hval0 hW hcnd _
  have hval : ∀ (j : Nat) t v, Try.f11.params[j]? = some t → args[j]? = some v → Value.okWide Try.prog W .any base t v := hval0
  have hW' := hW
  obtain ⟨p, q, hA0, hV, rfl, hfz, hnd⟩ := hW
  have hA : DataW.TrodAll enc Try.prog W 0 (fun _ => true) true Try.f11.params.toList args.toList ds p := hA0
  rw [Try.params11] at hA hval
  obtain ⟨v0, vs0, d0, ds0, p0, q0, hargs, rfl, rfl, h0, r0⟩ := trodAll_cons hA
  obtain ⟨v1, vs1, d1, ds1, p1, q1, rfl, rfl, rfl, h1, r1⟩ := trodAll_cons r0
  obtain ⟨rfl, rfl, rfl⟩ := trodAll_nil r1
  obtain rfl : args = #[v0, v1] := by cases args; simp_all
  obtain ⟨rfl, rfl⟩ := trodVars_none hV
  have k0 := h0
  have lt0 : ∀ x ∈ p0, x.block < W.heap.size := by obtain ⟨m, hm⟩ := k0; exact DataW.trod_lt m _ _ _ hm
  obtain ⟨a0, len0, cap0, rfl⟩ := okWide_slice Try.underlying55 (hval 0 55 v0 rfl rfl)
  obtain ⟨z0, rfl, w0, m0⟩ : ∃ z : List (Int × Int × Int × Int), z.length = len0 ∧ Quads W a0 z ∧ z.length ≤ maxLen := by
    obtain ⟨fuel, hf⟩ := h0
    exact quads_open Try.underlying55 Try.underlying57 Try.underlying2 rfl rfl rfl rfl (by kernel_rfl) (by kernel_rfl) hf
  have k1 := h1
  have lt1 : ∀ x ∈ p1, x.block < W.heap.size := by obtain ⟨m, hm⟩ := k1; exact DataW.trod_lt m _ _ _ hm
  obtain ⟨c10, c11, c12, c13, y10, y11, y12, y13, n1, rfl, hd1, hp1, t10, t11, t12, t13⟩ := Go.Joins.open_agg4 Try.underlying57 (by kernel_rfl) cells57 (hval 1 57 v1 rfl rfl) h1
  obtain ⟨a10, e10, z10, w10⟩ := DataW.trod_int Try.underlying2 t10
  simp only [List.cons.injEq, and_true] at e10
  subst e10
  obtain ⟨a11, e11, z11, w11⟩ := DataW.trod_int Try.underlying2 t11
  simp only [List.cons.injEq, and_true] at e11
  subst e11
  obtain ⟨a12, e12, z12, w12⟩ := DataW.trod_int Try.underlying2 t12
  simp only [List.cons.injEq, and_true] at e12
  subst e12
  obtain ⟨a13, e13, z13, w13⟩ := DataW.trod_int Try.underlying2 t13
  simp only [List.cons.injEq, and_true] at e13
  subst e13
  clear hA0 hval0
  refine (walk a0 cap0 z0 a10 a11 a12 a13 W w0 m0 w10 w11 w12 w13).mono fun e W' ⟨he, bel⟩ => ?_
  subst he
  exact ⟨_, rfl, _, _, _, [], _, [], hW', trodAll_mk1 (shut_bool Try.underlying4 _), (trodAll_cons_mk (Below.trod laidOut (by kernel_rfl) (of_decide_eq_true (by kernel_rfl)) k0 bel lt0) (trodAll_cons_mk (Below.trod laidOut (by kernel_rfl) (of_decide_eq_true (by kernel_rfl)) k1 bel lt1) trodAll_mk0)), rfl, bel.frame _, fun h => by cases h⟩

theorem over : Rows.fnExactNearestNeckRow.holds Try.pinned (OpenSpec.ofChange Rows.fnExactNearestNeckSpec) :=
  OpenClaim.holds_of_wide 11 Try.f11 rfl rfl rfl rfl rfl rfl rfl ⟨rfl, rfl, rfl, rfl, rfl⟩ rfl rfl rfl rfl rfl (by kernel_rfl) Try.func11 (by kernel_rfl)
    (of_decide_eq_true (by kernel_rfl)) (by unfold Func.isWrapper; first | (rw [if_pos (by decide +kernel)]; kernel_rfl) | (rw [if_neg (by decide +kernel)]; exact ⟨rfl, rfl⟩))
    (fun os started H enc _ => lifted os started H enc)

/-- THE STATEMENT. -/
theorem proved : Rows.FnExactNearestNeckSaid := over
#print axioms proved
end Go.Proofs.Ythkjnemlklndfaa.lawNearestNeck
