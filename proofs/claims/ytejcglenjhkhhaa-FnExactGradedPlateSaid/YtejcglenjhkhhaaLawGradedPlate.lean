/- The program's GradedPlate returns what the reference's returns, for all arguments. No condition. -/
import Derived.Test.YtejcglenjhkhhaaRows
import Derived.Test.YtejcglenjhkhhaaOwnG
import Derived.Test.YtejcglenjhkhhaaBlend
import Derived.Test.YtejcglenjhkhhaaPlate
import Derived.Test.YtejcglenjhkhhaaHeights
import Derived.OpenShut
import Derived.ChangeOld
import Derived.Lib.SmallJoins
namespace Go.Proofs.Ytejcglenjhkhhaa.lawGradedPlate
open Go.ChangeShapes Go.WideShapes Go.ChangeAt Go.RowKit
set_option linter.unusedVariables false

theorem isLeast_c (n : Int) (w : World) : Calls Try.prog 67 #[.int .i64 n] w fun e w' => e = .returned (.bool (inB n 1 200)) ∧ w = w' := by
  go_enter Try.func67, Try.ntmps67
  go_wp2_with (go_at_call 66; refine call_same (within_c _ _ _ _) ?_)
  go_ret
  exact ⟨rfl, rfl⟩
theorem l00Min_c (a b : Int) (w : World) : Calls Try.prog 63 #[.int .i64 a, .int .i64 b] w fun e w' => e = .returned (.int .i64 (min a b)) ∧ w = w' := by
  by_cases h : a < b
  all_goals
    go_enter Try.func63, Try.ntmps63
    go_wp2
    go_ret
    exact ⟨by simp; omega, rfl⟩
theorem min4 (ts : Array TypeId) (t : TypeId) (x y z u : Int) (w : World) : (Builtin.min_ ts t #[.int .i64 x, .int .i64 y, .int .i64 z, .int .i64 u]).run Try.prog w = .ok (.int .i64 (min x (min y (min z u)))) w := by
  have e : ∀ x y : Int, (if y < x then y else x) = min x y := fun x y => by
    rw [Int.min_def]
    split <;> split <;> omega
  simp [Builtin.min_, Builtin.min2, e]
/-- How far a place is from the nearest edge. -/
def deepF (i k r c : Int) : Int := min i (min (r - 1 - i) (min k (c - 1 - k)))
theorem deepF_bd {i k r c : Int} (h1 : 0 ≤ i ∧ i < r) (h2 : 0 ≤ k ∧ k < c) (hr : r ≤ 10) : 0 ≤ deepF i k r c ∧ deepF i k r c ≤ 10 := by unfold deepF; omega
theorem l08Deep_c (i k r c : Int) (w : World) (h1 : 0 ≤ i ∧ i ≤ 10) (h2 : 0 ≤ k ∧ k ≤ 10) (h3 : 0 ≤ r ∧ r ≤ 10) (h4 : 0 ≤ c ∧ c ≤ 10) :
    Calls Try.prog 65 #[.int .i64 i, .int .i64 k, .int .i64 r, .int .i64 c] w fun e w' => e = .returned (.int .i64 (deepF i k r c)) ∧ w = w' := by
  have HF := Lib.hid (show deepF i k r c = min i (min (r - 1 - i) (min k (c - 1 - k))) from rfl)
  go_enter Try.func65, Try.ntmps65
  go_wp2_with (go_at_call 63; refine call_same (l00Min_c _ _ _) ?_)
  go_ret
  exact ⟨by rw [HF.out]; rfl, rfl⟩
/-- The thickness at a place. -/
def gradF (r c e m : Int) (p : Nat × Nat) : Int := lineF e ((min r c - 1) / 2) m (deepF p.1 p.2 r c)
def okB (r c e m : Int) : Bool := inB r 1 10 && (inB c 1 10 && (inB e 1 200 && inB m 1 200))
def fZ (r c e m : Int) : List (List Int) := if okB r c e m then gridG (gradF r c e m) (fun _ => c.toNat) r.toNat else []
def fC (r c e m : Int) : Int := if okB r c e m then 0 else 2
theorem ok_in {r c e m : Int} (h : okB r c e m = true) : (1 ≤ r ∧ r ≤ 10) ∧ (1 ≤ c ∧ c ≤ 10) ∧ (1 ≤ e ∧ e ≤ 200) ∧ (1 ≤ m ∧ m ≤ 200) := by
  simp only [okB, Bool.and_eq_true] at h
  exact ⟨inB_true h.1, inB_true h.2.1, inB_true h.2.2.1, inB_true h.2.2.2⟩
theorem f_small (r c e m : Int) : Small (fZ r c e m) := by
  unfold fZ
  cases h : okB r c e m
  · simp [Small, sumL]
  · have := ok_in h
    rw [if_pos rfl]
    exact gridG_small (by omega) fun i _ => by omega
set_option maxRecDepth 100000 in
theorem i_c (r c e m : Int) (w : World) :
    Calls Try.prog 21 #[.int .i64 r, .int .i64 c, .int .i64 e, .int .i64 m] w fun e' w' => ∃ a' cap', e' = .returned (.tuple #[.slice a' (fZ r c e m).length cap', .int .i64 (fC r c e m)]) ∧ (GridA w.heap.size w'.heap.size w' a' (fZ r c e m) ∧ Below w.heap.size w w') := by
  rcases and4 (inB r 1 10) (inB c 1 10) (inB e 1 200) (inB m 1 200) with h1 | ⟨h1, h2⟩ | ⟨h1, h2, h3⟩ | ⟨h1, h2, h3, h4⟩ | ⟨h1, h2, h3, h4⟩
  · go_enter Try.func21, Try.ntmps21
    go_wp2_with (first | (go_at_call 66; refine call_same (within_c _ _ _ _) ?_) | (go_at_call 67; refine call_same (isLeast_c _ _) ?_))
    go_ret2
    exact ⟨none, 0, by simp [fZ, fC, okB, h1], .inl (by simp [fZ, okB, h1]), Below.refl _ _⟩
  · go_enter Try.func21, Try.ntmps21
    go_wp2_with (first | (go_at_call 66; refine call_same (within_c _ _ _ _) ?_) | (go_at_call 67; refine call_same (isLeast_c _ _) ?_))
    go_ret2
    exact ⟨none, 0, by simp [fZ, fC, okB, h1, h2], .inl (by simp [fZ, okB, h1, h2]), Below.refl _ _⟩
  · go_enter Try.func21, Try.ntmps21
    go_wp2_with (first | (go_at_call 66; refine call_same (within_c _ _ _ _) ?_) | (go_at_call 67; refine call_same (isLeast_c _ _) ?_))
    go_ret2
    exact ⟨none, 0, by simp [fZ, fC, okB, h1, h2, h3], .inl (by simp [fZ, okB, h1, h2, h3]), Below.refl _ _⟩
  · go_enter Try.func21, Try.ntmps21
    go_wp2_with (first | (go_at_call 66; refine call_same (within_c _ _ _ _) ?_) | (go_at_call 67; refine call_same (isLeast_c _ _) ?_))
    go_ret2
    exact ⟨none, 0, by simp [fZ, fC, okB, h1, h2, h3, h4], .inl (by simp [fZ, okB, h1, h2, h3, h4]), Below.refl _ _⟩
  · obtain ⟨i0, hi, hz0, hz1, hz2⟩ := info_parts infoI'
    obtain ⟨j0, hj, hy0, hy1, hy2⟩ := info_parts infoS
    have hok : okB r c e m = true := by simp [okB, h1, h2, h3, h4]
    have hin := ok_in hok
    obtain ⟨R, rfl⟩ : ∃ R : Nat, r = R := ⟨r.toNat, by omega⟩
    obtain ⟨D, rfl⟩ : ∃ D : Nat, c = D := ⟨c.toNat, by omega⟩
    have HZ := Lib.hid (show fZ R D e m = gridG (gradF R D e m) (fun _ => D) R by simp [fZ, hok])
    have HC := Lib.hid (show fC R D e m = 0 by simp [fC, hok])
    have HGR := Lib.hid (fun (i k : Nat) => show gradF R D e m (i, k) = lineF e ((min (R : Int) D - 1) / 2) m (deepF i k R D) from rfl)
    obtain ⟨b1, b2, b3, b4⟩ := hin
    clear hok
    have HGG := Lib.hid (show gridG (gradF R D e m) (fun _ => D) R = gridG (gradF R D e m) (fun _ => D) R from rfl)
    go_enter Try.func21, Try.ntmps21
    go_wp2_with (first | (go_at_call 66; refine call_same (within_c _ _ _ _) ?_) | (go_at_call 67; refine call_same (isLeast_c _ _) ?_))
    clear h1 h2 h3 h4
    go_loopw [11, 40] (fun v i wr => ∃ k : Nat, k ≤ R ∧ i = .int .i64 k ∧ OwnG w.heap.size wr.heap.size wr v (gridG (gradF R D e m) (fun _ => D) k) ∧ Below w.heap.size w wr) (fun _ i _ => R - (intOf i).toNat)
    case atStart => exact ⟨0, Nat.zero_le _, rfl, OwnG.start (World.ownsRow_made w #[] 0 (Nat.le_refl _) (Nat.zero_le _) rfl) (by simp) (Nat.le_refl _), (Below.refl _ _).alloc (Nat.le_refl _) _⟩
    case round =>
      obtain ⟨k, hk, rfl, hown, hbl⟩ := hrel
      have HO := Lib.hid hown
      have HL := Lib.hid hbl
      by_cases hlt : k < R
      · have HE := Lib.hid (gridG_succ (gradF R D e m) (fun _ => D) k)
        have HLN := Lib.hid (gridG_len (gradF R D e m) (fun _ => D) k)
        clear hown hbl
        obtain ⟨wo, hwo⟩ : ∃ wo : World, wo = wr := ⟨_, rfl⟩
        rw [← hwo] at HO HL ⊢
        clear hwo
        go_wp2_with fail
        go_loopw [13, 45] (fun v i wi => ∃ q : Nat, q ≤ D ∧ i = .int .i64 q ∧ OwnI wo.heap.size wi v (rowG (gradF R D e m) k q) ∧ Below wo.heap.size wo wi) (fun _ i _ => D - (intOf i).toNat)
        case atStart => exact ⟨0, Nat.zero_le _, rfl, ⟨World.ownsRow_made wo #[] 0 (Nat.le_refl _) (Nat.zero_le _) rfl, by simp⟩, (Below.refl _ _).alloc (Nat.le_refl _) _⟩
        case round =>
          obtain ⟨q, hql, rfl, hown, hbl⟩ := hrel
          have HO3 := Lib.hid hown
          have HL3 := Lib.hid hbl
          have HE2 := Lib.hid (rowG_succ (gradF R D e m) k q)
          have HN2 := Lib.hid (rowG_len (gradF R D e m) k q)
          clear hown hbl
          by_cases hct : q < D
          · have hdp := deepF_bd (i := k) (k := q) (r := R) (c := D) (by omega) (by omega) (by omega)
            have HG1 := Lib.hid (HGR.out k q)
            have HM4 := Lib.hid (show min (k : Int) (min (R - 1 - k) (min q (D - 1 - q))) = deepF k q R D from rfl)
            have hm0 : 0 ≤ min (k : Int) (min (R - 1 - k) (min q (D - 1 - q))) ∧ min (k : Int) (min (R - 1 - k) (min q (D - 1 - q))) ≤ 10 := hdp
            have hm4 : ∀ (ts : Array TypeId) (t : TypeId) (x y z u : Int) (w : World), (Builtin.min_ ts t #[.int .i64 x, .int .i64 y, .int .i64 z, .int .i64 u]).run Try.prog w = .ok (.int .i64 (min x (min y (min z u)))) w := min4
            go_wp2_with fail
            clear hm4
            refine call_same (blend_c _ _ _ _ _ (by omega) (by omega) (by omega) (by omega)) ?_
            rw [HM4.out, ← HG1.out]
            go_wp2_with (at_builtin; refine wpList_append_own _ rfl _ _ 32 rfl wo.heap.size 2 i0 (.int .i64 0) 1 8 Try.underlying32 hi hz0 hz1 hz2 rfl (by decide) _ _ _ rfl (HO3.out.1.alloc _) ⟨wr.heap.size, 0, none⟩ 1 1 [.int .i64 (gradF R D e m (k, q))] rfl rfl (own_new1 _ _ _) ?c2 ?c3 ?c4 ?c5 ?_)
            case c2 => (first | rfl | (intro u hu; simp at hu; subst hu; rfl))
            case c3 => have := HN2.out; unfold maxLen; omega
            case c4 => have := HN2.out; omega
            case c5 => have := HL3.out.size; simp; omega
            · intro v' w4 hown' hgrow hnil
              have hb1 : Below wo.heap.size wo w4 := below_grown (HL3.out.alloc HL3.out.size _) (by have := HL3.out.size; simp; omega) hgrow fun q hq => HO3.out.lt q hq
              have HX := Lib.hid (show OwnI wo.heap.size w4 v' (rowG (gradF R D e m) k (q + 1)) by rw [HE2.out]; exact OwnI.snoc hown' hnil)
              have HY := Lib.hid hb1
              clear hown' hgrow hnil hb1
              go_wp2
              go_roundw
              case rel => exact ⟨q + 1, by omega, by go_num, HX.out, HY.out⟩
              case measure => simp [intOf]; omega
          · obtain rfl : q = D := by omega
            obtain ⟨br, cr', rfl, hbr0, hbr1, hnu⟩ := HO3.out.form
            have hrc : RowC wr br (rowG (gradF R q e m) k q).length (nth (rowG (gradF R q e m) k q)) := own_rowC HO3.out
            obtain ⟨rr, cc, hown, hnn, hrows, hdist, hv⟩ := HO.out.below (Nat.le_refl _) HL3.out
            have HROW := Lib.hid (And.intro hrows (And.intro hdist (And.intro hv hrc)))
            have HOW := Lib.hid hown
            clear hrc hrows hdist hv hown hnu hnn
            go_wp2_with (at_builtin; refine wpList_append_own _ rfl _ _ 22 rfl w.heap.size 32 j0 (.slice none 0 0) 1 24 Try.underlying22 hj hy0 hy1 hy2 rfl (by decide) _ _ _ rfl (HOW.out.alloc _) ⟨wr.heap.size, 0, none⟩ 1 1 [.slice (some ⟨br, 0, none⟩) (rowG (gradF R q e m) k q).length cr'] rfl rfl (own_new1 _ _ _) ?d2 ?d3 ?d4 ?d5 ?_)
            case d2 => (first | rfl | (intro u hu; simp at hu; subst hu; rfl))
            case d3 => have := HLN.out; unfold maxLen; omega
            case d4 => have := HLN.out; omega
            case d5 => have := HL.out.size; have := HL3.out.size; simp; omega
            · intro v' w4 hown' hgrow hnil
              have hsz1 := HL.out.size
              have hsz2 := HL3.out.size
              have hb1 : Below w.heap.size w w4 := below_grown ((below_next HL.out HL3.out).alloc (by omega) _) (by simp; omega) hgrow fun q hq => (HOW.out.lt q hq).1
              have HX := Lib.hid (show OwnG w.heap.size w4.heap.size w4 v' (gridG (gradF R q e m) (fun _ => q) (k + 1)) by
                rw [HE.out]
                exact own_push HOW.out HROW.out.1 HROW.out.2.1 HROW.out.2.2.1 hbr0 (by omega) hbr1 (by rw [rowG_len]; omega) HROW.out.2.2.2 (by have h9 := hown'; rwa [HLN.out] at h9 ⊢) hgrow hnil)
              have HY := Lib.hid hb1
              clear hown' hgrow hnil hb1
              go_wp2
              go_roundw
              case rel => exact ⟨k + 1, by omega, by go_num, HX.out, HY.out⟩
              case measure => simp [intOf]; omega
      · obtain rfl : k = R := by omega
        clear hown
        go_wp2
        go_ret2
        obtain ⟨a', cap', rfl, hr⟩ := HO.out.gridA
        exact ⟨a', cap', by rw [HZ.out, HC.out]; rfl, by rw [HZ.out]; exact hr, HL.out⟩
set_option maxRecDepth 100000 in
theorem s_c (r c e m : Int) (w : World) :
    Calls Try.prog 20 #[.int .i64 r, .int .i64 c, .int .i64 e, .int .i64 m] w fun e' w' => ∃ a' cap', e' = .returned (.tuple #[.slice a' (fZ r c e m).length cap', .int .i64 (fC r c e m)]) ∧ (GridA w.heap.size w'.heap.size w' a' (fZ r c e m) ∧ Below w.heap.size w w') := by
  rcases and4 (inB r 1 10) (inB c 1 10) (inB e 1 200) (inB m 1 200) with h1 | ⟨h1, h2⟩ | ⟨h1, h2, h3⟩ | ⟨h1, h2, h3, h4⟩ | ⟨h1, h2, h3, h4⟩
  · go_enter Try.func20, Try.ntmps20
    go_wp2_with (first | (go_at_call 61; refine call_same (l00In_c _ _ _ _) ?_) | (go_at_call 62; refine call_same (l08Thick_c _ _) ?_) | (go_at_call 63; refine call_same (l00Min_c _ _ _) ?_))
    go_ret2
    exact ⟨none, 0, by simp [fZ, fC, okB, h1], .inl (by simp [fZ, okB, h1]), Below.refl _ _⟩
  · go_enter Try.func20, Try.ntmps20
    go_wp2_with (first | (go_at_call 61; refine call_same (l00In_c _ _ _ _) ?_) | (go_at_call 62; refine call_same (l08Thick_c _ _) ?_) | (go_at_call 63; refine call_same (l00Min_c _ _ _) ?_))
    go_ret2
    exact ⟨none, 0, by simp [fZ, fC, okB, h1, h2], .inl (by simp [fZ, okB, h1, h2]), Below.refl _ _⟩
  · go_enter Try.func20, Try.ntmps20
    go_wp2_with (first | (go_at_call 61; refine call_same (l00In_c _ _ _ _) ?_) | (go_at_call 62; refine call_same (l08Thick_c _ _) ?_) | (go_at_call 63; refine call_same (l00Min_c _ _ _) ?_))
    go_ret2
    exact ⟨none, 0, by simp [fZ, fC, okB, h1, h2, h3], .inl (by simp [fZ, okB, h1, h2, h3]), Below.refl _ _⟩
  · go_enter Try.func20, Try.ntmps20
    go_wp2_with (first | (go_at_call 61; refine call_same (l00In_c _ _ _ _) ?_) | (go_at_call 62; refine call_same (l08Thick_c _ _) ?_) | (go_at_call 63; refine call_same (l00Min_c _ _ _) ?_))
    go_ret2
    exact ⟨none, 0, by simp [fZ, fC, okB, h1, h2, h3, h4], .inl (by simp [fZ, okB, h1, h2, h3, h4]), Below.refl _ _⟩
  · obtain ⟨i0, hi, hz0, hz1, hz2⟩ := info_parts infoI'
    obtain ⟨j0, hj, hy0, hy1, hy2⟩ := info_parts infoS
    have hok : okB r c e m = true := by simp [okB, h1, h2, h3, h4]
    have hin := ok_in hok
    obtain ⟨R, rfl⟩ : ∃ R : Nat, r = R := ⟨r.toNat, by omega⟩
    obtain ⟨D, rfl⟩ : ∃ D : Nat, c = D := ⟨c.toNat, by omega⟩
    have HZ := Lib.hid (show fZ R D e m = gridG (gradF R D e m) (fun _ => D) R by simp [fZ, hok])
    have HC := Lib.hid (show fC R D e m = 0 by simp [fC, hok])
    have HGR := Lib.hid (fun (i k : Nat) => show gradF R D e m (i, k) = lineF e ((min (R : Int) D - 1) / 2) m (deepF i k R D) from rfl)
    obtain ⟨b1, b2, b3, b4⟩ := hin
    clear hok
    have HGG := Lib.hid (show gridG (gradF R D e m) (fun _ => D) R = gridG (gradF R D e m) (fun _ => D) R from rfl)
    go_enter Try.func20, Try.ntmps20
    go_wp2_with (first | (go_at_call 61; refine call_same (l00In_c _ _ _ _) ?_) | (go_at_call 62; refine call_same (l08Thick_c _ _) ?_) | (go_at_call 63; refine call_same (l00Min_c _ _ _) ?_))
    clear h1 h2 h3 h4
    go_loopw [11, 12] (fun v i wr => ∃ k : Nat, k ≤ R ∧ i = .int .i64 k ∧ OwnG w.heap.size wr.heap.size wr v (gridG (gradF R D e m) (fun _ => D) k) ∧ Below w.heap.size w wr) (fun _ i _ => R - (intOf i).toNat)
    case atStart => exact ⟨0, Nat.zero_le _, rfl, OwnG.start (World.ownsRow_made w #[] 0 (Nat.le_refl _) (Nat.zero_le _) rfl) (by simp) (Nat.le_refl _), (Below.refl _ _).alloc (Nat.le_refl _) _⟩
    case round =>
      obtain ⟨k, hk, rfl, hown, hbl⟩ := hrel
      have HO := Lib.hid hown
      have HL := Lib.hid hbl
      by_cases hlt : k < R
      · have HE := Lib.hid (gridG_succ (gradF R D e m) (fun _ => D) k)
        have HLN := Lib.hid (gridG_len (gradF R D e m) (fun _ => D) k)
        clear hown hbl
        obtain ⟨wo, hwo⟩ : ∃ wo : World, wo = wr := ⟨_, rfl⟩
        rw [← hwo] at HO HL ⊢
        clear hwo
        go_wp2_with fail
        go_loopw [13, 14] (fun v i wi => ∃ q : Nat, q ≤ D ∧ i = .int .i64 q ∧ OwnI wo.heap.size wi v (rowG (gradF R D e m) k q) ∧ Below wo.heap.size wo wi) (fun _ i _ => D - (intOf i).toNat)
        case atStart => exact ⟨0, Nat.zero_le _, rfl, ⟨World.ownsRow_made wo #[] 0 (Nat.le_refl _) (Nat.zero_le _) rfl, by simp⟩, (Below.refl _ _).alloc (Nat.le_refl _) _⟩
        case round =>
          obtain ⟨q, hql, rfl, hown, hbl⟩ := hrel
          have HO3 := Lib.hid hown
          have HL3 := Lib.hid hbl
          have HE2 := Lib.hid (rowG_succ (gradF R D e m) k q)
          have HN2 := Lib.hid (rowG_len (gradF R D e m) k q)
          clear hown hbl
          by_cases hct : q < D
          · have hdp := deepF_bd (i := k) (k := q) (r := R) (c := D) (by omega) (by omega) (by omega)
            have HG1 := Lib.hid (HGR.out k q)
            by_cases hp : 0 < (min (R : Int) D - 1) / 2
            · go_wp2_with (first | (go_at_call 65; refine call_same (l08Deep_c _ _ _ _ _ (by omega) (by omega) (by omega) (by omega)) ?_))
              refine call_same (l01Line_c _ _ _ _ _ (by omega) (by omega) (by omega) (by omega)) ?_
              rw [← HG1.out]
              go_wp2_with (at_builtin; refine wpList_append_own _ rfl _ _ 32 rfl wo.heap.size 2 i0 (.int .i64 0) 1 8 Try.underlying32 hi hz0 hz1 hz2 rfl (by decide) _ _ _ rfl (HO3.out.1.alloc _) ⟨wr.heap.size, 0, none⟩ 1 1 [.int .i64 (gradF R D e m (k, q))] rfl rfl (own_new1 _ _ _) ?c2 ?c3 ?c4 ?c5 ?_)
              case c2 => (first | rfl | (intro u hu; simp at hu; subst hu; rfl))
              case c3 => have := HN2.out; unfold maxLen; omega
              case c4 => have := HN2.out; omega
              case c5 => have := HL3.out.size; simp; omega
              · intro v' w4 hown' hgrow hnil
                have hb1 : Below wo.heap.size wo w4 := below_grown (HL3.out.alloc HL3.out.size _) (by have := HL3.out.size; simp; omega) hgrow fun q hq => HO3.out.lt q hq
                have HX := Lib.hid (show OwnI wo.heap.size w4 v' (rowG (gradF R D e m) k (q + 1)) by rw [HE2.out]; exact OwnI.snoc hown' hnil)
                have HY := Lib.hid hb1
                clear hown' hgrow hnil hb1
                go_wp2
                go_roundw
                case rel => exact ⟨q + 1, by omega, by go_num, HX.out, HY.out⟩
                case measure => simp [intOf]; omega
            · have HG2 := Lib.hid (show e = gradF R D e m (k, q) by rw [HG1.out]; unfold lineF; rw [if_pos (.inr (Int.not_lt.1 hp))])
              go_wp2_with (at_builtin; refine wpList_append_own _ rfl _ _ 32 rfl wo.heap.size 2 i0 (.int .i64 0) 1 8 Try.underlying32 hi hz0 hz1 hz2 rfl (by decide) _ _ _ rfl (HO3.out.1.alloc _) ⟨wr.heap.size, 0, none⟩ 1 1 [.int .i64 e] rfl rfl (own_new1 _ _ _) ?e2 ?e3 ?e4 ?e5 ?_)
              case e2 => (first | rfl | (intro u hu; simp at hu; subst hu; rfl))
              case e3 => have := HN2.out; unfold maxLen; omega
              case e4 => have := HN2.out; omega
              case e5 => have := HL3.out.size; simp; omega
              · intro v' w4 hown' hgrow hnil
                have hb1 : Below wo.heap.size wo w4 := below_grown (HL3.out.alloc HL3.out.size _) (by have := HL3.out.size; simp; omega) hgrow fun q hq => HO3.out.lt q hq
                have HX := Lib.hid (show OwnI wo.heap.size w4 v' (rowG (gradF R D e m) k (q + 1)) by rw [HE2.out, ← HG2.out]; exact OwnI.snoc hown' hnil)
                have HY := Lib.hid hb1
                clear hown' hgrow hnil hb1
                go_wp2
                go_roundw
                case rel => exact ⟨q + 1, by omega, by go_num, HX.out, HY.out⟩
                case measure => simp [intOf]; omega
          · obtain rfl : q = D := by omega
            obtain ⟨br, cr', rfl, hbr0, hbr1, hnu⟩ := HO3.out.form
            have hrc : RowC wr br (rowG (gradF R q e m) k q).length (nth (rowG (gradF R q e m) k q)) := own_rowC HO3.out
            obtain ⟨rr, cc, hown, hnn, hrows, hdist, hv⟩ := HO.out.below (Nat.le_refl _) HL3.out
            have HROW := Lib.hid (And.intro hrows (And.intro hdist (And.intro hv hrc)))
            have HOW := Lib.hid hown
            clear hrc hrows hdist hv hown hnu hnn
            go_wp2_with (at_builtin; refine wpList_append_own _ rfl _ _ 22 rfl w.heap.size 32 j0 (.slice none 0 0) 1 24 Try.underlying22 hj hy0 hy1 hy2 rfl (by decide) _ _ _ rfl (HOW.out.alloc _) ⟨wr.heap.size, 0, none⟩ 1 1 [.slice (some ⟨br, 0, none⟩) (rowG (gradF R q e m) k q).length cr'] rfl rfl (own_new1 _ _ _) ?d2 ?d3 ?d4 ?d5 ?_)
            case d2 => (first | rfl | (intro u hu; simp at hu; subst hu; rfl))
            case d3 => have := HLN.out; unfold maxLen; omega
            case d4 => have := HLN.out; omega
            case d5 => have := HL.out.size; have := HL3.out.size; simp; omega
            · intro v' w4 hown' hgrow hnil
              have hsz1 := HL.out.size
              have hsz2 := HL3.out.size
              have hb1 : Below w.heap.size w w4 := below_grown ((below_next HL.out HL3.out).alloc (by omega) _) (by simp; omega) hgrow fun q hq => (HOW.out.lt q hq).1
              have HX := Lib.hid (show OwnG w.heap.size w4.heap.size w4 v' (gridG (gradF R q e m) (fun _ => q) (k + 1)) by
                rw [HE.out]
                exact own_push HOW.out HROW.out.1 HROW.out.2.1 HROW.out.2.2.1 hbr0 (by omega) hbr1 (by rw [rowG_len]; omega) HROW.out.2.2.2 (by have h9 := hown'; rwa [HLN.out] at h9 ⊢) hgrow hnil)
              have HY := Lib.hid hb1
              clear hown' hgrow hnil hb1
              go_wp2
              go_roundw
              case rel => exact ⟨k + 1, by omega, by go_num, HX.out, HY.out⟩
              case measure => simp [intOf]; omega
      · obtain rfl : k = R := by omega
        clear hown
        go_wp2
        go_ret2
        obtain ⟨a', cap', rfl, hr⟩ := HO.out.gridA
        exact ⟨a', cap', by rw [HZ.out, HC.out]; rfl, by rw [HZ.out]; exact hr, HL.out⟩
set_option maxRecDepth 100000 in
set_option maxHeartbeats 1000000 in
theorem walk (m0 : Int) (m1 : Int) (m2 : Int) (m3 : Int) (w : World) (_ : (Lit.int .i64 m0).wf = true) (_ : (Lit.int .i64 m1).wf = true) (_ : (Lit.int .i64 m2).wf = true) (_ : (Lit.int .i64 m3).wf = true) :
    Calls Try.prog 4 #[.int .i64 m0, .int .i64 m1, .int .i64 m2, .int .i64 m3] w fun e w' => e = .returned (.bool true) ∧ Below w.heap.size w w' := by
  have hZ := f_small m0 m1 m2 m3
  have HZ := Lib.hid hZ
  clear hZ
  go_enter Try.func4, Try.ntmps4
  go_wp2_with fail
  refine (s_c m0 m1 m2 m3 _).mono ?_
  rintro e2 w2 ⟨a2, c2, rfl, r2, b2⟩
  have HA2 := Lib.hid b2
  have HW2 := Lib.hid r2.grid
  clear r2 b2
  have HB2 := Lib.hid (Below.refl w2.heap.size w2)
  have HA3 := HA2
  have HB3 := HB2
  have HC2 := Lib.hid (Nat.le_refl w2.heap.size)
  go_wp2_with fail
  refine (i_c m0 m1 m2 m3 _).mono ?_
  rintro e4 w4 ⟨a4, c4, rfl, r4, b4⟩
  have HA4 := Lib.hid (below_next HA2.out b4)
  have HB4 := Lib.hid (below_next HB2.out b4)
  have HC4 := Lib.hid (Nat.le_trans HC2.out b4.size)
  have HG4 := Lib.hid r4
  have HD4 := Lib.hid (Nat.le_refl w4.heap.size)
  clear r4 b4
  go_wp2_with fail
  refine call_below (eqInt64SS_c a4 a2 _ _ (fZ m0 m1 m2 m3) _ HG4.out.grid (HW2.out.below HB4.out) HZ.out) ?_
  intro w5 b5
  have HA5 := Lib.hid (below_next HA4.out b5)
  have HB5 := Lib.hid (below_next HB4.out b5)
  have HG5 := Lib.hid (HG4.out.below HD4.out b5)
  have HC5 := Lib.hid (Nat.le_trans HC4.out b5.size)
  have HD5 := Lib.hid (Nat.le_trans HD4.out b5.size)
  clear b5
  go_wp2_with fail
  refine call_pred (markInt64SS_c _ _ a4 _ (fZ m0 m1 m2 m3) 1 _ HG5.out HZ.out (by omega) (by omega)) ?_
  rintro w10 ⟨r10, md10⟩
  have HA10 := Lib.hid (HA5.out.trans (md10.below.mono HA3.out.size))
  have HB10 := Lib.hid (HB5.out.trans (md10.below.mono HB3.out.size))
  have HC10 := Lib.hid (Nat.le_trans HC5.out (Nat.le_of_eq md10.size.symm))
  have HD10 := Lib.hid (Nat.le_trans HD5.out (Nat.le_of_eq md10.size.symm))
  have HG10 := Lib.hid r10
  clear r10 md10
  go_wp2_with fail
  refine call_same (heldInt64SS_c a4 _ 1 (fZ m0 m1 m2 m3) _ HG10.out.grid HZ.out (by omega) (by omega)) ?_
  go_wp2_with fail
  refine (i_c m0 m1 m2 m3 _).mono ?_
  rintro e12 w12 ⟨a12, c12, rfl, r12, b12⟩
  have HA12 := Lib.hid (below_next HA10.out b12)
  have HB12 := Lib.hid (below_next HB10.out b12)
  have HG12 := Lib.hid (HG10.out.below HD10.out b12)
  have HC12 := Lib.hid (Nat.le_trans HC10.out b12.size)
  have HD12 := Lib.hid (Nat.le_trans HD10.out b12.size)
  have HH12 := Lib.hid r12.grid
  clear r12 b12
  go_wp2_with fail
  refine call_below (eqInt64SS_c a12 a2 _ _ (fZ m0 m1 m2 m3) _ HH12.out (HW2.out.below HB12.out) HZ.out) ?_
  intro w13 b13
  have HA13 := Lib.hid (below_next HA12.out b13)
  have HB13 := Lib.hid (below_next HB12.out b13)
  have HG13 := Lib.hid (HG12.out.below HD12.out b13)
  have HC13 := Lib.hid (Nat.le_trans HC12.out b13.size)
  have HD13 := Lib.hid (Nat.le_trans HD12.out b13.size)
  clear b13
  go_wp2_with fail
  refine call_same (heldInt64SS_c a4 _ 1 (fZ m0 m1 m2 m3) _ HG13.out.grid HZ.out (by omega) (by omega)) ?_
  go_wp2
  go_ret
  exact ⟨rfl, HA13.out⟩

theorem own : ownKnob Try.prog.godebug = none := by kernel_rfl
theorem laidOut : laidOutB Try.prog = true := by kernel_rfl
set_option maxRecDepth 100000 in
theorem lifted (os : Os) (started : os.Started) (H : Type) (enc : TypeId × Value → H) :
    ReturnsInHanded {} Try.checked os 4 .any (Rows.fnExactGradedPlateSpec.pre6 enc Try.prog Try.f4 Rows.fnExactGradedPlateRow.domain false) (Rows.fnExactGradedPlateSpec.post enc Try.prog Try.f4 false true false false) := by
  refine returnsInHanded_of_change (C := Try.checked) own started (by kernel_rfl) Try.func4
    (ChangeSpec.witness6 (enc := enc) (C := Try.checked) false ⟨#[], #[.int .i64 0, .int .i64 0, .int .i64 0, .int .i64 0], []⟩ 8 (by kernel_rfl) (by kernel_rfl) (by kernel_rfl) (by kernel_rfl)) ?_
  intro W base args ds gs before hval0 hW hcnd _
  have hval : ∀ (j : Nat) t v, Try.f4.params[j]? = some t → args[j]? = some v → Value.okWide Try.prog W .any base t v := hval0
  have hW' := hW
  obtain ⟨p, q, hA0, hV, rfl, hfz, hnd⟩ := hW
  have hA : DataW.TrodAll enc Try.prog W 0 (fun _ => true) true Try.f4.params.toList args.toList ds p := hA0
  rw [Try.params4] at hA hval
  obtain ⟨v0, vs0, d0, ds0, p0, q0, hargs, rfl, rfl, h0, r0⟩ := trodAll_cons hA
  obtain ⟨v1, vs1, d1, ds1, p1, q1, rfl, rfl, rfl, h1, r1⟩ := trodAll_cons r0
  obtain ⟨v2, vs2, d2, ds2, p2, q2, rfl, rfl, rfl, h2, r2⟩ := trodAll_cons r1
  obtain ⟨v3, vs3, d3, ds3, p3, q3, rfl, rfl, rfl, h3, r3⟩ := trodAll_cons r2
  obtain ⟨rfl, rfl, rfl⟩ := trodAll_nil r3
  obtain rfl : args = #[v0, v1, v2, v3] := by cases args; simp_all
  obtain ⟨rfl, rfl⟩ := trodVars_none hV
  have k0 := h0
  have lt0 : ∀ x ∈ p0, x.block < W.heap.size := by obtain ⟨m, hm⟩ := k0; exact DataW.trod_lt m _ _ _ hm
  obtain ⟨a0, rfl, rfl, rfl, w0⟩ := open_int Try.underlying2 (hval 0 2 v0 rfl rfl) h0
  have k1 := h1
  have lt1 : ∀ x ∈ p1, x.block < W.heap.size := by obtain ⟨m, hm⟩ := k1; exact DataW.trod_lt m _ _ _ hm
  obtain ⟨a1, rfl, rfl, rfl, w1⟩ := open_int Try.underlying2 (hval 1 2 v1 rfl rfl) h1
  have k2 := h2
  have lt2 : ∀ x ∈ p2, x.block < W.heap.size := by obtain ⟨m, hm⟩ := k2; exact DataW.trod_lt m _ _ _ hm
  obtain ⟨a2, rfl, rfl, rfl, w2⟩ := open_int Try.underlying2 (hval 2 2 v2 rfl rfl) h2
  have k3 := h3
  have lt3 : ∀ x ∈ p3, x.block < W.heap.size := by obtain ⟨m, hm⟩ := k3; exact DataW.trod_lt m _ _ _ hm
  obtain ⟨a3, rfl, rfl, rfl, w3⟩ := open_int Try.underlying2 (hval 3 2 v3 rfl rfl) h3
  clear hA0 hval0
  refine (walk a0 a1 a2 a3 W w0 w1 w2 w3).mono fun e W' ⟨he, bel⟩ => ?_
  subst he
  exact ⟨_, rfl, _, _, _, [], _, [], hW', trodAll_mk1 (shut_bool Try.underlying4 _), (trodAll_cons_mk (Below.trod laidOut (by kernel_rfl) (of_decide_eq_true (by kernel_rfl)) k0 bel lt0) (trodAll_cons_mk (Below.trod laidOut (by kernel_rfl) (of_decide_eq_true (by kernel_rfl)) k1 bel lt1) (trodAll_cons_mk (Below.trod laidOut (by kernel_rfl) (of_decide_eq_true (by kernel_rfl)) k2 bel lt2) (trodAll_cons_mk (Below.trod laidOut (by kernel_rfl) (of_decide_eq_true (by kernel_rfl)) k3 bel lt3) trodAll_mk0)))), rfl, bel.frame _, fun h => by cases h⟩

theorem over : Rows.fnExactGradedPlateRow.holds Try.pinned (OpenSpec.ofChange Rows.fnExactGradedPlateSpec) :=
  OpenClaim.holds_of_wide 4 Try.f4 rfl rfl rfl rfl rfl rfl rfl ⟨rfl, rfl, rfl, rfl, rfl⟩ rfl rfl rfl rfl rfl (by kernel_rfl) Try.func4 (by kernel_rfl)
    (of_decide_eq_true (by kernel_rfl)) (by unfold Func.isWrapper; first | (rw [if_pos (by decide +kernel)]; kernel_rfl) | (rw [if_neg (by decide +kernel)]; exact ⟨rfl, rfl⟩))
    (fun os started H enc _ => lifted os started H enc)

/-- THE STATEMENT. -/
theorem proved : Rows.FnExactGradedPlateSaid := over
#print axioms proved
end Go.Proofs.Ytejcglenjhkhhaa.lawGradedPlate
