/- What GradedPlate returns, on both sides. -/
import Derived.Test.YtpklckpnhjhnhaaOwnG
import Derived.Test.YtpklckpnhjhnhaaBlend
import Derived.Test.YtpklckpnhjhnhaaPlate
import Derived.Test.YtpklckpnhjhnhaaHeights
namespace Go.Proofs.Ytpklckpnhjhnhaa.shGradedPlate
open Go.ChangeShapes Go.WideShapes Go.RowKit
set_option linter.unusedVariables false

theorem isLeast_c (n : Int) (w : World) : Calls Try.prog 50 #[.int .i64 n] w fun e w' => e = .returned (.bool (inB n 1 200)) ∧ w = w' := by
  go_enter Try.func50, Try.ntmps50
  go_wp2_with (go_at_call 49; refine call_same (within_c _ _ _ _) ?_)
  go_ret
  exact ⟨rfl, rfl⟩
theorem l00Min_c (a b : Int) (w : World) : Calls Try.prog 59 #[.int .i64 a, .int .i64 b] w fun e w' => e = .returned (.int .i64 (min a b)) ∧ w = w' := by
  by_cases h : a < b
  all_goals
    go_enter Try.func59, Try.ntmps59
    go_wp2
    go_ret
    exact ⟨by simp; omega, rfl⟩
theorem min4 (ts : Array TypeId) (t : TypeId) (x y z u : Int) (w : World) : (Builtin.min_ ts t #[.int .i64 x, .int .i64 y, .int .i64 z, .int .i64 u]).run Try.prog w = .ok (.int .i64 (min x (min y (min z u)))) w := by
  have e : ∀ x y : Int, (if y < x then y else x) = min x y := fun x y => by
    rw [Int.min_def]
    split <;> split <;> omega
  simp [Builtin.min_, Builtin.min2, e]
/-- How far a place is from the nearest edge. -/
def deepF (i k r c : Int) : Int := min i (min (r - 1 - i) (min k (c - 1 - k)))
theorem deepF_bd {i k r c : Int} (h1 : 0 ≤ i ∧ i < r) (h2 : 0 ≤ k ∧ k < c) (hr : r ≤ 10) : 0 ≤ deepF i k r c ∧ deepF i k r c ≤ 10 := by unfold deepF; omega
/-- The thickness at a place. -/
def gradF (r c e m : Int) (p : Nat × Nat) : Int := lineF e ((min r c - 1) / 2) m (deepF p.1 p.2 r c)
def okB (r c e m : Int) : Bool := inB r 1 10 && (inB c 1 10 && (inB e 1 200 && inB m 1 200))
def fZ (r c e m : Int) : List (List Int) := if okB r c e m then gridG (gradF r c e m) (fun _ => c.toNat) r.toNat else []
def fC (r c e m : Int) : Int := if okB r c e m then 0 else 2
theorem ok_in {r c e m : Int} (h : okB r c e m = true) : (1 ≤ r ∧ r ≤ 10) ∧ (1 ≤ c ∧ c ≤ 10) ∧ (1 ≤ e ∧ e ≤ 200) ∧ (1 ≤ m ∧ m ≤ 200) := by
  simp only [okB, Bool.and_eq_true] at h
  exact ⟨inB_true h.1, inB_true h.2.1, inB_true h.2.2.1, inB_true h.2.2.2⟩
theorem f_small (r c e m : Int) : Small (fZ r c e m) := by
  unfold fZ
  cases h : okB r c e m
  · simp [Small, sumL]
  · have := ok_in h
    rw [if_pos rfl]
    exact gridG_small (by omega) fun i _ => by omega
set_option maxRecDepth 100000 in
theorem i_c (r c e m : Int) (w : World) :
    Calls Try.prog 22 #[.int .i64 r, .int .i64 c, .int .i64 e, .int .i64 m] w fun e' w' => ∃ a' cap', e' = .returned (.tuple #[.slice a' (fZ r c e m).length cap', .int .i64 (fC r c e m)]) ∧ (GridA w.heap.size w'.heap.size w' a' (fZ r c e m) ∧ Below w.heap.size w w') := by
  rcases and4 (inB r 1 10) (inB c 1 10) (inB e 1 200) (inB m 1 200) with h1 | ⟨h1, h2⟩ | ⟨h1, h2, h3⟩ | ⟨h1, h2, h3, h4⟩ | ⟨h1, h2, h3, h4⟩
  · go_enter Try.func22, Try.ntmps22
    go_wp2_with (first | (go_at_call 49; refine call_same (within_c _ _ _ _) ?_) | (go_at_call 50; refine call_same (isLeast_c _ _) ?_))
    go_ret2
    exact ⟨none, 0, by simp [fZ, fC, okB, h1], .inl (by simp [fZ, okB, h1]), Below.refl _ _⟩
  · go_enter Try.func22, Try.ntmps22
    go_wp2_with (first | (go_at_call 49; refine call_same (within_c _ _ _ _) ?_) | (go_at_call 50; refine call_same (isLeast_c _ _) ?_))
    go_ret2
    exact ⟨none, 0, by simp [fZ, fC, okB, h1, h2], .inl (by simp [fZ, okB, h1, h2]), Below.refl _ _⟩
  · go_enter Try.func22, Try.ntmps22
    go_wp2_with (first | (go_at_call 49; refine call_same (within_c _ _ _ _) ?_) | (go_at_call 50; refine call_same (isLeast_c _ _) ?_))
    go_ret2
    exact ⟨none, 0, by simp [fZ, fC, okB, h1, h2, h3], .inl (by simp [fZ, okB, h1, h2, h3]), Below.refl _ _⟩
  · go_enter Try.func22, Try.ntmps22
    go_wp2_with (first | (go_at_call 49; refine call_same (within_c _ _ _ _) ?_) | (go_at_call 50; refine call_same (isLeast_c _ _) ?_))
    go_ret2
    exact ⟨none, 0, by simp [fZ, fC, okB, h1, h2, h3, h4], .inl (by simp [fZ, okB, h1, h2, h3, h4]), Below.refl _ _⟩
  · obtain ⟨i0, hi, hz0, hz1, hz2⟩ := info_parts infoI'
    obtain ⟨j0, hj, hy0, hy1, hy2⟩ := info_parts infoS
    have hok : okB r c e m = true := by simp [okB, h1, h2, h3, h4]
    have hin := ok_in hok
    obtain ⟨R, rfl⟩ : ∃ R : Nat, r = R := ⟨r.toNat, by omega⟩
    obtain ⟨D, rfl⟩ : ∃ D : Nat, c = D := ⟨c.toNat, by omega⟩
    have HZ := Lib.hid (show fZ R D e m = gridG (gradF R D e m) (fun _ => D) R by simp [fZ, hok])
    have HC := Lib.hid (show fC R D e m = 0 by simp [fC, hok])
    have HGR := Lib.hid (fun (i k : Nat) => show gradF R D e m (i, k) = lineF e ((min (R : Int) D - 1) / 2) m (deepF i k R D) from rfl)
    obtain ⟨b1, b2, b3, b4⟩ := hin
    clear hok
    have HGG := Lib.hid (show gridG (gradF R D e m) (fun _ => D) R = gridG (gradF R D e m) (fun _ => D) R from rfl)
    go_enter Try.func22, Try.ntmps22
    go_wp2_with (first | (go_at_call 49; refine call_same (within_c _ _ _ _) ?_) | (go_at_call 50; refine call_same (isLeast_c _ _) ?_))
    clear h1 h2 h3 h4
    go_loopw [11, 40] (fun v i wr => ∃ k : Nat, k ≤ R ∧ i = .int .i64 k ∧ OwnG w.heap.size wr.heap.size wr v (gridG (gradF R D e m) (fun _ => D) k) ∧ Below w.heap.size w wr) (fun _ i _ => R - (intOf i).toNat)
    case atStart => exact ⟨0, Nat.zero_le _, rfl, OwnG.start (World.ownsRow_made w #[] 0 (Nat.le_refl _) (Nat.zero_le _) rfl) (by simp) (Nat.le_refl _), (Below.refl _ _).alloc (Nat.le_refl _) _⟩
    case round =>
      obtain ⟨k, hk, rfl, hown, hbl⟩ := hrel
      have HO := Lib.hid hown
      have HL := Lib.hid hbl
      by_cases hlt : k < R
      · have HE := Lib.hid (gridG_succ (gradF R D e m) (fun _ => D) k)
        have HLN := Lib.hid (gridG_len (gradF R D e m) (fun _ => D) k)
        clear hown hbl
        obtain ⟨wo, hwo⟩ : ∃ wo : World, wo = wr := ⟨_, rfl⟩
        rw [← hwo] at HO HL ⊢
        clear hwo
        go_wp2_with fail
        go_loopw [13, 45] (fun v i wi => ∃ q : Nat, q ≤ D ∧ i = .int .i64 q ∧ OwnI wo.heap.size wi v (rowG (gradF R D e m) k q) ∧ Below wo.heap.size wo wi) (fun _ i _ => D - (intOf i).toNat)
        case atStart => exact ⟨0, Nat.zero_le _, rfl, ⟨World.ownsRow_made wo #[] 0 (Nat.le_refl _) (Nat.zero_le _) rfl, by simp⟩, (Below.refl _ _).alloc (Nat.le_refl _) _⟩
        case round =>
          obtain ⟨q, hql, rfl, hown, hbl⟩ := hrel
          have HO3 := Lib.hid hown
          have HL3 := Lib.hid hbl
          have HE2 := Lib.hid (rowG_succ (gradF R D e m) k q)
          have HN2 := Lib.hid (rowG_len (gradF R D e m) k q)
          clear hown hbl
          by_cases hct : q < D
          · have hdp := deepF_bd (i := k) (k := q) (r := R) (c := D) (by omega) (by omega) (by omega)
            have HG1 := Lib.hid (HGR.out k q)
            have HM4 := Lib.hid (show min (k : Int) (min (R - 1 - k) (min q (D - 1 - q))) = deepF k q R D from rfl)
            have hm0 : 0 ≤ min (k : Int) (min (R - 1 - k) (min q (D - 1 - q))) ∧ min (k : Int) (min (R - 1 - k) (min q (D - 1 - q))) ≤ 10 := hdp
            have hm4 : ∀ (ts : Array TypeId) (t : TypeId) (x y z u : Int) (w : World), (Builtin.min_ ts t #[.int .i64 x, .int .i64 y, .int .i64 z, .int .i64 u]).run Try.prog w = .ok (.int .i64 (min x (min y (min z u)))) w := min4
            go_wp2_with fail
            clear hm4
            refine call_same (blend_c _ _ _ _ _ (by omega) (by omega) (by omega) (by omega)) ?_
            rw [HM4.out, ← HG1.out]
            go_wp2_with (at_builtin; refine wpList_append_own _ rfl _ _ 26 rfl wo.heap.size 2 i0 (.int .i64 0) 1 8 Try.underlying26 hi hz0 hz1 hz2 rfl (by decide) _ _ _ rfl (HO3.out.1.alloc _) ⟨wr.heap.size, 0, none⟩ 1 1 [.int .i64 (gradF R D e m (k, q))] rfl rfl (own_new1 _ _ _) ?c2 ?c3 ?c4 ?c5 ?_)
            case c2 => (first | rfl | (intro u hu; simp at hu; subst hu; rfl))
            case c3 => have := HN2.out; unfold maxLen; omega
            case c4 => have := HN2.out; omega
            case c5 => have := HL3.out.size; simp; omega
            · intro v' w4 hown' hgrow hnil
              have hb1 : Below wo.heap.size wo w4 := below_grown (HL3.out.alloc HL3.out.size _) (by have := HL3.out.size; simp; omega) hgrow fun q hq => HO3.out.lt q hq
              have HX := Lib.hid (show OwnI wo.heap.size w4 v' (rowG (gradF R D e m) k (q + 1)) by rw [HE2.out]; exact OwnI.snoc hown' hnil)
              have HY := Lib.hid hb1
              clear hown' hgrow hnil hb1
              go_wp2
              go_roundw
              case rel => exact ⟨q + 1, by omega, by go_num, HX.out, HY.out⟩
              case measure => simp [intOf]; omega
          · obtain rfl : q = D := by omega
            obtain ⟨br, cr', rfl, hbr0, hbr1, hnu⟩ := HO3.out.form
            have hrc : RowC wr br (rowG (gradF R q e m) k q).length (nth (rowG (gradF R q e m) k q)) := own_rowC HO3.out
            obtain ⟨rr, cc, hown, hnn, hrows, hdist, hv⟩ := HO.out.below (Nat.le_refl _) HL3.out
            have HROW := Lib.hid (And.intro hrows (And.intro hdist (And.intro hv hrc)))
            have HOW := Lib.hid hown
            clear hrc hrows hdist hv hown hnu hnn
            go_wp2_with (at_builtin; refine wpList_append_own _ rfl _ _ 24 rfl w.heap.size 26 j0 (.slice none 0 0) 1 24 Try.underlying24 hj hy0 hy1 hy2 rfl (by decide) _ _ _ rfl (HOW.out.alloc _) ⟨wr.heap.size, 0, none⟩ 1 1 [.slice (some ⟨br, 0, none⟩) (rowG (gradF R q e m) k q).length cr'] rfl rfl (own_new1 _ _ _) ?d2 ?d3 ?d4 ?d5 ?_)
            case d2 => (first | rfl | (intro u hu; simp at hu; subst hu; rfl))
            case d3 => have := HLN.out; unfold maxLen; omega
            case d4 => have := HLN.out; omega
            case d5 => have := HL.out.size; have := HL3.out.size; simp; omega
            · intro v' w4 hown' hgrow hnil
              have hsz1 := HL.out.size
              have hsz2 := HL3.out.size
              have hb1 : Below w.heap.size w w4 := below_grown ((below_next HL.out HL3.out).alloc (by omega) _) (by simp; omega) hgrow fun q hq => (HOW.out.lt q hq).1
              have HX := Lib.hid (show OwnG w.heap.size w4.heap.size w4 v' (gridG (gradF R q e m) (fun _ => q) (k + 1)) by
                rw [HE.out]
                exact own_push HOW.out HROW.out.1 HROW.out.2.1 HROW.out.2.2.1 hbr0 (by omega) hbr1 (by rw [rowG_len]; omega) HROW.out.2.2.2 (by have h9 := hown'; rwa [HLN.out] at h9 ⊢) hgrow hnil)
              have HY := Lib.hid hb1
              clear hown' hgrow hnil hb1
              go_wp2
              go_roundw
              case rel => exact ⟨k + 1, by omega, by go_num, HX.out, HY.out⟩
              case measure => simp [intOf]; omega
      · obtain rfl : k = R := by omega
        clear hown
        go_wp2
        go_ret2
        obtain ⟨a', cap', rfl, hr⟩ := HO.out.gridA
        exact ⟨a', cap', by rw [HZ.out, HC.out]; rfl, by rw [HZ.out]; exact hr, HL.out⟩
end Go.Proofs.Ytpklckpnhjhnhaa.shGradedPlate
