/- The program's PlateGap returns what the reference's returns, for all arguments. No condition. -/
import Derived.Test.YthkjnemlklndfaaRows
import Derived.Test.YthkjnemlklndfaaPlaces
import Derived.Test.YthkjnemlklndfaaPlate
import Derived.Test.YthkjnemlklndfaaNeckList
import Derived.OpenShut
import Derived.ChangeOld
import Derived.Lib.SmallJoins
namespace Go.Proofs.Ythkjnemlklndfaa.lawPlateGap
open Go.ChangeShapes Go.WideShapes Go.ChangeAt Go.RowKit
set_option linter.unusedVariables false

/-- The gap over a list of places. -/
def gapL (x y : List (List Int)) (l : List (Nat × Nat)) : Int := l.foldl (fun m p => max m (distF (atG x p) (atG y p))) 0
theorem gapL_snoc (x y : List (List Int)) (l : List (Nat × Nat)) (p : Nat × Nat) : gapL x y (l ++ [p]) = max (gapL x y l) (distF (atG x p) (atG y p)) := by simp [gapL]
theorem gapL_take {x y : List (List Int)} {l : List (Nat × Nat)} {j : Nat} (h : j < l.length) : gapL x y (l.take (j + 1)) = max (gapL x y (l.take j)) (distF (atG x (l.getD j (0, 0))) (atG y (l.getD j (0, 0)))) := by
  rw [List.take_succ_eq_append_getElem h, gapL_snoc]
  simp [List.getD_eq_getElem?_getD, h]
/-- Two grids of one size. -/
def sameB (x y : List (List Int)) : Bool := decide ((x.length : Int) = y.length) && decide (((nthL x 0).length : Int) = (nthL y 0).length)
def fF (x y : List (List Int)) : Int × Int := if gridB 1 200 x && gridB 1 200 y then (if sameB x y then (gapL x y (plTo x x.length), 0) else (0, 7)) else (0, 1)

theorem sameSize_c (a b : Option Addr) (ca cb : Nat) (x y : List (List Int)) (w : World) (h1 : Grid w a x) (h2 : Grid w b y) (s1 : Small x) (s2 : Small y) (p1 : 0 < x.length) (p2 : 0 < y.length) :
    Calls Try.prog 102 #[.slice a x.length ca, .slice b y.length cb] w fun e w' => e = .returned (.bool (sameB x y)) ∧ Drawn w w' := by
  obtain ⟨b1, o1, rfl, hb1, ar, cr, hc1, -⟩ := h1.pos p1
  obtain ⟨b2, o2, rfl, hb2, br, dr, hc2, -⟩ := h2.pos p2
  rw [Nat.add_zero] at hc1 hc2
  have l1 := s1.len
  have l2 := s2.len
  have r1 := s1.row p1
  have r2 := s2.row p2
  have i1 : (0 : Int) < x.length := by omega
  have i2 : (0 : Int) < y.length := by omega
  clear h1 h2 s1 s2
  by_cases e1 : (x.length : Int) = y.length
  · have e1' : ((x.length : Int) == y.length) = true := by simpa using e1
    have d1 : decide ((x.length : Int) = y.length) = true := decide_eq_true e1
    by_cases e2 : ((nthL x 0).length : Int) = (nthL y 0).length
    · have e2' : (((nthL x 0).length : Int) == (nthL y 0).length) = true := by simpa using e2
      have HF := Lib.hid (show sameB x y = true by unfold sameB; rw [d1, decide_eq_true e2]; rfl)
      have HE := Lib.hid e1
      clear d1 e1 e2
      go_enter Try.func102, Try.ntmps102
      go_wp2_with fail
      go_quiet (fail)
      go_wp2
      go_ret
      exact ⟨by rw [HF.out]; rfl, ⟨_, rfl⟩⟩
    · have e2' : (((nthL x 0).length : Int) == (nthL y 0).length) = false := by simpa using e2
      have HF := Lib.hid (show sameB x y = false by unfold sameB; rw [d1, decide_eq_false e2]; rfl)
      clear d1 e1 e2
      go_enter Try.func102, Try.ntmps102
      go_wp2_with fail
      go_quiet (fail)
      go_wp2
      go_ret
      exact ⟨by rw [HF.out]; rfl, ⟨_, rfl⟩⟩
  · have e1' : ((x.length : Int) == y.length) = false := by simpa using e1
    have HF := Lib.hid (show sameB x y = false by unfold sameB; rw [decide_eq_false e1]; rfl)
    clear e1
    go_enter Try.func102, Try.ntmps102
    go_wp2_with fail
    go_quiet (fail)
    go_wp2
    go_ret
    exact ⟨by rw [HF.out]; rfl, ⟨_, rfl⟩⟩

theorem keep2 {w1 w2 : World} {b : Nat} {v0 v1 : Value} (d : w1.cell? ⟨b, 0, none⟩ = some v0 ∧ w1.cell? ⟨b, 1, none⟩ = some v1) (h : Below w1.heap.size w1 w2) :
    w2.cell? ⟨b, 0, none⟩ = some v0 ∧ w2.cell? ⟨b, 1, none⟩ = some v1 ∧ Below w1.heap.size w1 w2 := by
  have hb := World.block_lt_of_cell? w1 _ d.1
  exact ⟨(h.cell (p := ⟨b, 0, none⟩) hb).trans d.1, (h.cell (p := ⟨b, 1, none⟩) hb).trans d.2, h⟩
theorem sameB_true {x y : List (List Int)} (h : sameB x y = true) : x.length = y.length ∧ (nthL x 0).length = (nthL y 0).length := by
  unfold sameB at h
  rw [Bool.and_eq_true] at h
  have h1 := of_decide_eq_true h.1
  have h2 := of_decide_eq_true h.2
  omega
theorem place_in {x y : List (List Int)} (hx : gridB 1 200 x = true) (hy : gridB 1 200 y = true) (hs : sameB x y = true) {j : Nat} (hj : j < (plTo x x.length).length) :
    (((plTo x x.length).getD j (0, 0)).1 < x.length ∧ ((plTo x x.length).getD j (0, 0)).2 < (nthL x ((plTo x x.length).getD j (0, 0)).1).length) ∧
    (((plTo x x.length).getD j (0, 0)).1 < y.length ∧ ((plTo x x.length).getD j (0, 0)).2 < (nthL y ((plTo x x.length).getD j (0, 0)).1).length) := by
  have hm : (plTo x x.length).getD j (0, 0) ∈ plTo x x.length := by
    rw [show (plTo x x.length).getD j (0, 0) = (plTo x x.length)[j] by simp [List.getD_eq_getElem?_getD, hj]]
    exact List.getElem_mem hj
  have h1 := plTo_in (Nat.le_refl _) hm
  have h2 := sameB_true hs
  have gx := gridB_true hx
  have gy := gridB_true hy
  have e1 := gx.same _ h1.1
  have e2 := gy.same _ (by omega : ((plTo x x.length).getD j (0, 0)).1 < y.length)
  exact ⟨h1, by omega, by omega⟩

theorem i_c (a b : Option Addr) (ca cb : Nat) (x y : List (List Int)) (w : World) (h1 : Grid w a x) (h2 : Grid w b y) (s1 : Small x) (s2 : Small y) :
    Calls Try.prog 51 #[.slice a x.length ca, .slice b y.length cb] w fun e w' => e = .returned (.tuple #[.int .i64 (fF x y).1, .int .i64 (fF x y).2]) ∧ Below w.heap.size w w' := by
  cases hx : gridB 1 200 x
  · go_enter Try.func51, Try.ntmps51
    go_wp2_with fail
    refine call_same (validPlate_c _ _ x _ h1 s1) ?_
    rw [hx]
    go_wp2
    go_ret2
    exact ⟨by simp [fF, hx], Below.refl _ _⟩
  cases hy : gridB 1 200 y
  · go_enter Try.func51, Try.ntmps51
    go_wp2_with fail
    refine call_same (validPlate_c _ _ x _ h1 s1) ?_
    rw [hx]
    go_wp2_with fail
    refine call_same (validPlate_c _ _ y _ h2 s2) ?_
    rw [hy]
    go_wp2
    go_ret2
    exact ⟨by simp [fF, hx, hy], Below.refl _ _⟩
  have px := (gridB_true hx).rows.1
  have py := (gridB_true hy).rows.1
  cases hsm : sameB x y
  · have HF := Lib.hid (show fF x y = (0, 7) by simp [fF, hx, hy, hsm])
    go_enter Try.func51, Try.ntmps51
    go_wp2_with fail
    refine call_same (validPlate_c _ _ x _ h1 s1) ?_
    rw [hx]
    go_wp2_with fail
    refine call_same (validPlate_c _ _ y _ h2 s2) ?_
    rw [hy]
    go_wp2_with fail
    refine call_pred (sameSize_c _ _ _ _ x y _ h1 h2 s1 s2 px py) ?_
    rw [hsm]
    intro w1 hw1
    go_wp2
    go_ret2
    exact ⟨by rw [HF.out]; rfl, hw1.below⟩
  have HF := Lib.hid (show fF x y = (gapL x y (plTo x x.length), 0) by simp [fF, hx, hy, hsm])
  have HP := Lib.hid (fun (j : Nat) (hj : j < (plTo x x.length).length) => place_in hx hy hsm hj)
  have HX := Lib.hid (gridB_true hx).range
  have HY := Lib.hid (gridB_true hy).range
  have hlen := plTo_len x x.length
  have hsum := s1
  unfold Small at hsum
  go_enter Try.func51, Try.ntmps51
  go_wp2_with fail
  refine call_same (validPlate_c _ _ x _ h1 s1) ?_
  rw [hx]
  go_wp2_with fail
  refine call_same (validPlate_c _ _ y _ h2 s2) ?_
  rw [hy]
  go_wp2_with fail
  refine call_pred (sameSize_c _ _ _ _ x y _ h1 h2 s1 s2 px py) ?_
  rw [hsm]
  intro w1 hw1
  go_wp2_with fail
  refine (places_c _ _ x _ (h1.below hw1.below) s1).mono ?_
  rintro e w2 ⟨v, rfl, hown, hnn, hb2⟩
  obtain ⟨bp, cp, rfl, -, hbp, hcell⟩ := own_form hown hnn
  have hB2 := below_next hw1.below hb2
  have hll : (plTo x x.length).length ≤ 1048576 := by omega
  have HC := Lib.hid hcell
  have HT := Lib.hid (fun j (hj : j < (plTo x x.length).length) => gapL_take (x := x) (y := y) hj)
  have HE := Lib.hid (show gapL x y ((plTo x x.length).take (plTo x x.length).length) = gapL x y (plTo x x.length) by rw [List.take_length])
  have HG := Lib.hid (And.intro (h1.below hB2) (h2.below hB2))
  have HB2 := Lib.hid hB2
  have h00 : gapL x y ((plTo x x.length).take 0) = 0 := by simp [gapL]
  clear hown hnn hcell hw1 hb2 hB2 h1 h2 hlen hsum px py hx hy hsm
  generalize plTo x x.length = L at HF HP HC HT HE hll h00 ⊢
  go_wp2
  go_loopw [6, 24] (fun m i wr => ∃ j : Nat, j ≤ L.length ∧ i = .int .i64 j ∧ m = .int .i64 (gapL x y (L.take j)) ∧ Below w2.heap.size w2 wr) (fun _ i _ => L.length - (intOf i).toNat)
  case atStart => exact ⟨0, Nat.zero_le _, rfl, by rw [h00], Below.refl _ _⟩
  case round =>
    clear h00
    obtain ⟨j, hj, rfl, rfl, hbl⟩ := hrel
    have HL := Lib.hid hbl
    by_cases hlt : j < L.length
    · have hT := HT.out j hlt
      have hP := HP.out j hlt
      have hC := HC.out j hlt
      generalize L.getD j (0, 0) = p at hT hP hC
      have hvx := HX.out p.1 hP.1.1 p.2 hP.1.2
      have hvy := HY.out p.1 hP.2.1 p.2 hP.2.2
      rw [show nth (nthL x p.1) p.2 = atG x p from rfl] at hvx
      rw [show nth (nthL y p.1) p.2 = atG y p from rfl] at hvy
      have c0 := (hbl.cell (p := ⟨bp, j * 2, none⟩) hbp).trans hC.1
      have c1 := (hbl.cell (p := ⟨bp, j * 2 + 1, none⟩) hbp).trans hC.2
      have HPP := Lib.hid hP
      have HTT := Lib.hid hT
      clear hbl hT hP hC
      generalize gapL x y (L.take j) = m at HTT ⊢
      have hd := distF_bd (a := atG x p) (b := atG y p) (A := 200) (by omega) (by omega)
      go_wp2_with fail
      have HA := Lib.hid (show Below wr.heap.size wr (wr.alloc (.cells #[.int .i64 p.1, .int .i64 p.2] 82)) from (Below.refl _ _).alloc (Nat.le_refl _) _)
      have e0 : (wr.alloc (.cells #[.int .i64 p.1, .int .i64 p.2] 82)).cell? ⟨wr.heap.size, 0, none⟩ = some (.int .i64 p.1) := by go_cell
      have e1 : (wr.alloc (.cells #[.int .i64 p.1, .int .i64 p.2] 82)).cell? ⟨wr.heap.size, 1, none⟩ = some (.int .i64 p.2) := by go_cell
      generalize wr.alloc (.cells #[.int .i64 p.1, .int .i64 p.2] 82) = wA at HA e0 e1 ⊢
      have HQ := Lib.hid (And.intro e0 e1)
      have HGX := Lib.hid (show Grid wA a x ∧ Small x ∧ p.1 < x.length ∧ p.2 < (nthL x p.1).length from ⟨(HG.out.1.below HL.out).below HA.out, s1, HPP.out.1.1, HPP.out.1.2⟩)
      have HGY := Lib.hid (show Grid wA b y ∧ Small y ∧ p.1 < y.length ∧ p.2 < (nthL y p.1).length from ⟨(HG.out.2.below HL.out).below HA.out, s2, HPP.out.2.1, HPP.out.2.2⟩)
      clear c0 c1
      go_region_held3 (fun w' => w'.cell? ⟨wr.heap.size, 0, none⟩ = some (.int .i64 p.1) ∧ w'.cell? ⟨wr.heap.size, 1, none⟩ = some (.int .i64 p.2) ∧ Below wA.heap.size wA w')
        (first | exact keep2 HQ.out (Below.refl _ _).drew | exact keep2 HQ.out (below_next (Below.refl _ _).drew hb3) | exact keep2 HQ.out (below_next (below_next (Below.refl _ _).drew hb3) hb4) | go_keep)
        (first | (go_at_call 85; refine call_below (of_c _ _ _ p _ ?_ ?_ ?_ ?_) ?_; (first | exact HGX.out.1.below (Below.refl _ _).drew | exact HGY.out.1.below (Below.refl _ _).drew | exact HGX.out.1.below (below_next (Below.refl _ _).drew hb3) | exact HGY.out.1.below (below_next (Below.refl _ _).drew hb3)); (first | exact HGX.out.2.1 | exact HGY.out.2.1); (first | exact HGX.out.2.2.1 | exact HGY.out.2.2.1); (first | exact HGX.out.2.2.2 | exact HGY.out.2.2.2); (first | (have hx := hb3; clear hx; intro w4 hb4) | intro w3 hb3)) | (go_at_call 103; refine call_same (distance_c _ _ _ (by omega) (by omega)) ?_))
      go_wp2
      go_roundw
      case rel => exact ⟨j + 1, by omega, by go_num, by rw [HTT.out], below_next HL.out (below_next HA.out (below_next (below_next (Below.refl _ _).drew hb3) hb4))⟩
      case measure => simp [intOf]; omega
    · obtain rfl : j = L.length := by omega
      go_wp2
      go_ret2
      exact ⟨by rw [HF.out, ← HE.out]; rfl, below_next HB2.out HL.out⟩

theorem s_c (a b : Option Addr) (ca cb : Nat) (x y : List (List Int)) (w : World) (h1 : Grid w a x) (h2 : Grid w b y) (s1 : Small x) (s2 : Small y) :
    Calls Try.prog 50 #[.slice a x.length ca, .slice b y.length cb] w fun e w' => e = .returned (.tuple #[.int .i64 (fF x y).1, .int .i64 (fF x y).2]) ∧ Below w.heap.size w w' := by
  cases hx : gridB 1 200 x
  · go_enter Try.func50, Try.ntmps50
    go_wp2_with fail
    refine call_below (l08Ok_c _ _ x _ h1 s1) ?_
    rw [hx]
    intro w1 hb1
    go_wp2
    go_ret2
    exact ⟨by simp [fF, hx], hb1⟩
  cases hy : gridB 1 200 y
  · go_enter Try.func50, Try.ntmps50
    go_wp2_with fail
    refine call_below (l08Ok_c _ _ x _ h1 s1) ?_
    rw [hx]
    intro w1 hb1
    go_wp2_with fail
    refine call_below (l08Ok_c _ _ y _ (h2.below hb1) s2) ?_
    rw [hy]
    intro w2 hb2
    go_wp2
    go_ret2
    exact ⟨by simp [fF, hx, hy], below_next hb1 hb2⟩
  have px := (gridB_true hx).rows.1
  have py := (gridB_true hy).rows.1
  have l1 := s1.len
  have l2 := s2.len
  have r1 := s1.row px
  have r2 := s2.row py
  have i1 : (0 : Int) < x.length := by omega
  have i2 : (0 : Int) < y.length := by omega
  by_cases e1 : (x.length : Int) = y.length
  rotate_left
  · have e1' : ((x.length : Int) == y.length) = false := by simpa using e1
    have e1n : ((x.length : Int) != y.length) = true := by simpa using e1
    have d1 : decide ((x.length : Int) = y.length) = false := decide_eq_false e1
    have HF := Lib.hid (show fF x y = (0, 7) by simp [fF, hx, hy, sameB, d1])
    clear e1
    go_enter Try.func50, Try.ntmps50
    go_wp2_with fail
    refine call_below (l08Ok_c _ _ x _ h1 s1) ?_
    rw [hx]
    intro w1 hb1
    go_wp2_with fail
    refine call_below (l08Ok_c _ _ y _ (h2.below hb1) s2) ?_
    rw [hy]
    intro w2 hb2
    have hB := below_next hb1 hb2
    obtain ⟨b1, o1, rfl, hq1, ar1, cr1, hc1, -⟩ := (h1.below hB).pos px
    obtain ⟨b2, o2, rfl, hq2, ar2, cr2, hc2, -⟩ := (h2.below hB).pos py
    rw [Nat.add_zero] at hc1 hc2
    have HB := Lib.hid hB
    clear hb1 hb2 hB
    go_wp2_with fail
    go_quiet (fail)
    go_wp2
    go_ret2
    exact ⟨by rw [HF.out]; rfl, below_drewN HB.out _⟩
  have e1' : ((x.length : Int) == y.length) = true := by simpa using e1
  have e1n : ((x.length : Int) != y.length) = false := by simpa using e1
  have d1 : decide ((x.length : Int) = y.length) = true := decide_eq_true e1
  by_cases e2 : ((nthL x 0).length : Int) = (nthL y 0).length
  rotate_left
  · have e2' : (((nthL x 0).length : Int) == (nthL y 0).length) = false := by simpa using e2
    have e2n : (((nthL x 0).length : Int) != (nthL y 0).length) = true := by simpa using e2
    have d2 : decide (((nthL x 0).length : Int) = (nthL y 0).length) = false := decide_eq_false e2
    have HF := Lib.hid (show fF x y = (0, 7) by simp [fF, hx, hy, sameB, d1, d2])
    clear e1 e2
    go_enter Try.func50, Try.ntmps50
    go_wp2_with fail
    refine call_below (l08Ok_c _ _ x _ h1 s1) ?_
    rw [hx]
    intro w1 hb1
    go_wp2_with fail
    refine call_below (l08Ok_c _ _ y _ (h2.below hb1) s2) ?_
    rw [hy]
    intro w2 hb2
    have hB := below_next hb1 hb2
    obtain ⟨b1, o1, rfl, hq1, ar1, cr1, hc1, -⟩ := (h1.below hB).pos px
    obtain ⟨b2, o2, rfl, hq2, ar2, cr2, hc2, -⟩ := (h2.below hB).pos py
    rw [Nat.add_zero] at hc1 hc2
    have HB := Lib.hid hB
    clear hb1 hb2 hB
    go_wp2_with fail
    go_quiet (fail)
    go_wp2
    go_ret2
    exact ⟨by rw [HF.out]; rfl, below_drewN HB.out _⟩
  · have e2' : (((nthL x 0).length : Int) == (nthL y 0).length) = true := by simpa using e2
    have e2n : (((nthL x 0).length : Int) != (nthL y 0).length) = false := by simpa using e2
    have d2 : decide (((nthL x 0).length : Int) = (nthL y 0).length) = true := decide_eq_true e2
    have hsm : sameB x y = true := by unfold sameB; rw [d1, d2]; rfl
    have HF := Lib.hid (show fF x y = (gapL x y (plTo x x.length), 0) by simp [fF, hx, hy, hsm])
    have HXY := Lib.hid (And.intro h1 h2)
    have HR := Lib.hid (show ∀ k, k < x.length → k < y.length ∧ (nthL x k).length = (nthL y k).length ∧ ∀ c, c < (nthL x k).length → (1 ≤ nth (nthL x k) c ∧ nth (nthL x k) c ≤ 200) ∧ (1 ≤ nth (nthL y k) c ∧ nth (nthL y k) c ≤ 200) from by
      intro k hk
      have gx := gridB_true hx
      have gy := gridB_true hy
      have hky : k < y.length := by omega
      have q1 := gx.same k hk
      have q2 := gy.same k hky
      exact ⟨hky, by omega, fun c hc => ⟨gx.range k hk c hc, gy.range k hky c (by omega)⟩⟩)
    clear e1 e2
    go_enter Try.func50, Try.ntmps50
    go_wp2_with fail
    refine call_below (l08Ok_c _ _ x _ h1 s1) ?_
    rw [hx]
    intro w1 hb1
    go_wp2_with fail
    refine call_below (l08Ok_c _ _ y _ (h2.below hb1) s2) ?_
    rw [hy]
    intro w2 hb2
    have hB := below_next hb1 hb2
    obtain ⟨b1, o1, rfl, hq1, ar1, cr1, hc1, -⟩ := (h1.below hB).pos px
    obtain ⟨b2, o2, rfl, hq2, ar2, cr2, hc2, -⟩ := (h2.below hB).pos py
    rw [Nat.add_zero] at hc1 hc2
    have HB := Lib.hid hB
    clear hb1 hb2 hB
    go_wp2_with fail
    go_quiet (fail)
    go_wp2
    clear h1 h2 hc1 hc2
    go_loopw [6, 7] (fun m i wr => ∃ k : Nat, k ≤ x.length ∧ i = .int .i64 k ∧ m = .int .i64 (gapL x y (plTo x k)) ∧ Below w.heap.size w wr) (fun _ i _ => x.length - (intOf i).toNat)
    case atStart => exact ⟨0, Nat.zero_le _, rfl, rfl, below_drewN HB.out _⟩
    case round =>
      obtain ⟨k, hk, rfl, rfl, hbl⟩ := hrel
      obtain ⟨wo, hwo⟩ : ∃ wo : World, wo = wr := ⟨_, rfl⟩
      rw [← hwo] at hbl ⊢
      clear hwo
      by_cases hlt : k < x.length
      · have HL := Lib.hid hbl
        have rk := s1.row hlt
        clear hbl
        go_wp2_with fail
        go_loopw [6, 8] (fun m i wr => ∃ c : Nat, c ≤ (nthL x k).length ∧ i = .int .i64 c ∧ m = .int .i64 (gapL x y (plTo x k ++ rowPl k c)) ∧ Below w.heap.size w wr) (fun _ i _ => (nthL x k).length - (intOf i).toNat)
        case atStart => exact ⟨0, Nat.zero_le _, rfl, by simp [rowPl], HL.out⟩
        case round =>
          obtain ⟨c, hcl, rfl, rfl, hbl⟩ := hrel
          have HL2 := Lib.hid hbl
          obtain ⟨hky, hrl, hrng⟩ := HR.out k hlt
          obtain ⟨akx, ckx, hx1, hn1⟩ := (HXY.out.1.below hbl).at_ hlt
          obtain ⟨aky, cky, hy1, hn2⟩ := (HXY.out.2.below hbl).at_ hky
          have j0 : (0 : Int) ≤ (k : Int) := by omega
          have j1 : (k : Int) < x.length := by omega
          have j2 : (k : Int) < y.length := by omega
          by_cases hct : c < (nthL x k).length
          · obtain ⟨bx, ox, rfl, hbx, hcx⟩ := hn1.pos hct
            obtain ⟨by_, oy, rfl, hby, hcy⟩ := hn2.pos (by omega : c < (nthL y k).length)
            have hr := hrng c hct
            have hs := gapL_snoc x y (plTo x k ++ rowPl k c) (k, c)
            rw [show atG x (k, c) = nth (nthL x k) c from rfl, show atG y (k, c) = nth (nthL y k) c from rfl, List.append_assoc, ← rowPl_succ] at hs
            have HS := Lib.hid hs
            have q1 := IntWalk.i64_in (nth (nthL x k) c - nth (nthL y k) c) (by omega)
            have j3 : (0 : Int) ≤ (c : Int) := by omega
            have j4 : (c : Int) < (nthL x k).length := by omega
            have j5 : (c : Int) < (nthL y k).length := by omega
            have ry := s2.row hky
            generalize gapL x y (plTo x k ++ rowPl k c) = m at HS ⊢
            clear hbl hs hrng hn1 hn2
            go_wp2_with fail
            go_quiet (first | (go_at_call 101; exact quiet_at (l08Abs_c _ _ _ (by omega) (by omega))) | (go_at_call 100; exact quiet_at (l00Max_c _ _ _)))
            go_wp2
            go_roundw
            case rel => exact ⟨c + 1, by omega, by go_num, by rw [HS.out], below_drewN HL2.out _⟩
            case measure => simp [intOf]; omega
          · obtain rfl : c = (nthL x k).length := by omega
            clear hbl hrng hn1 hn2
            go_wp2
            go_roundw
            case rel => exact ⟨k + 1, by omega, by go_num, rfl, HL2.out⟩
            case measure => simp [intOf]; omega
      · obtain rfl : k = x.length := by omega
        go_wp2
        go_ret2
        exact ⟨by rw [HF.out]; rfl, hbl⟩
theorem i_d (a : Option Addr) (ca : Nat) (x : List (List Int)) (b : Option Addr) (cb : Nat) (y : List (List Int)) (w : World) (h1 : Grid w a x) (s1 : Small x) (h2 : Grid w b y) (s2 : Small y) :
    Calls Try.prog 51 #[.slice a x.length ca, .slice b y.length cb] w fun e w' => e = .returned (.tuple #[.int .i64 (fF x y).1, .int .i64 (fF x y).2]) ∧ Below w.heap.size w w' := i_c a b ca cb x y w h1 h2 s1 s2
theorem s_d (a : Option Addr) (ca : Nat) (x : List (List Int)) (b : Option Addr) (cb : Nat) (y : List (List Int)) (w : World) (h1 : Grid w a x) (s1 : Small x) (h2 : Grid w b y) (s2 : Small y) :
    Calls Try.prog 50 #[.slice a x.length ca, .slice b y.length cb] w fun e w' => e = .returned (.tuple #[.int .i64 (fF x y).1, .int .i64 (fF x y).2]) ∧ Below w.heap.size w w' := s_c a b ca cb x y w h1 h2 s1 s2
theorem walk (a0 : Option Addr) (cap0 : Nat) (z0 : List (List Int)) (a1 : Option Addr) (cap1 : Nat) (z1 : List (List Int)) (w : World) (h0 : Grid w a0 z0) (hm0 : z0.length ≤ maxLen) (hr0 : ∀ j, j < z0.length → (nthL z0 j).length ≤ maxLen) (h1 : Grid w a1 z1) (hm1 : z1.length ≤ maxLen) (hr1 : ∀ j, j < z1.length → (nthL z1 j).length ≤ maxLen) :
    Calls Try.prog 13 #[.slice a0 z0.length cap0, .slice a1 z1.length cap1] w fun e w' => e = .returned (.bool true) ∧ Below w.heap.size w w' := by
  by_cases hn0 : ((z0.length + sumL z0 z0.length : Nat) : Int) ≤ 1048576
  rotate_left
  · have HN0 := Lib.hid hn0
    clear hn0
    go_enter Try.func13, Try.ntmps13
    go_wp2_with fail
    refine call_same (szInt64SS_c a0 cap0 z0 _ _ h0 hm0 hr0 ?_ ?_) ?_
    ·  omega
    ·  omega
    rw [szF_no]
    rotate_left
    · have := HN0.out; omega
    go_wp2
    go_ret
    exact ⟨rfl, Below.refl _ _⟩
  have hS0 : Small z0 := by unfold Small; omega
  have HN0 := Lib.hid hn0
  have hq0 : (z0.length : Int) + (sumL z0 z0.length : Int) ≤ 1048576 := by omega
  by_cases hn1 : ((z1.length + sumL z1 z1.length : Nat) : Int) ≤ 1048576 - ((z0.length + sumL z0 z0.length : Nat) : Int)
  rotate_left
  · have HN1 := Lib.hid hn1
    clear hn1
    go_enter Try.func13, Try.ntmps13
    go_wp2_with fail
    refine call_same (szInt64SS_c a0 cap0 z0 _ _ h0 hm0 hr0 ?_ ?_) ?_
    · have := HN0.out; omega
    · have := HN0.out; omega
    rw [szF_yes]
    rotate_left
    · have := HN0.out; have := HN1.out; omega
    go_wp2_with fail
    refine call_same (szInt64SS_c a1 cap1 z1 _ _ h1 hm1 hr1 ?_ ?_) ?_
    · have := HN0.out; omega
    · have := HN0.out; omega
    rw [szF_no]
    rotate_left
    · have := HN0.out; have := HN1.out; omega
    go_wp2
    go_ret
    exact ⟨rfl, Below.refl _ _⟩
  have hS1 : Small z1 := by unfold Small; omega
  have HN1 := Lib.hid hn1
  have hq1 : (z1.length : Int) + (sumL z1 z1.length : Int) ≤ 1048576 - ((z0.length : Int) + (sumL z0 z0.length : Int)) := by omega
  clear hn0 hn1
  go_enter Try.func13, Try.ntmps13
  go_wp2_with fail
  refine call_same (szInt64SS_c a0 cap0 z0 _ _ h0 hm0 hr0 ?_ ?_) ?_
  · have := HN0.out; have := HN1.out; omega
  · have := HN0.out; have := HN1.out; omega
  rw [szF_yes]
  rotate_left
  · have := HN0.out; have := HN1.out; omega
  go_wp2_with fail
  refine call_same (szInt64SS_c a1 cap1 z1 _ _ h1 hm1 hr1 ?_ ?_) ?_
  · have := HN0.out; have := HN1.out; omega
  · have := HN0.out; have := HN1.out; omega
  rw [szF_yes]
  rotate_left
  · have := HN0.out; have := HN1.out; omega
  go_wp2_with fail
  refine call_pred (toInt64SS_c a0 cap0 z0 _ h0 hS0) ?_
  rintro w1 ⟨r1, b1⟩
  have H1 := below_next (Below.refl _ _) b1
  have S0_1 := Laid.grid r1
  clear r1
  go_wp2_with fail
  refine call_pred (toInt64SS_c a1 cap1 z1 _ (h1.below H1) hS1) ?_
  rintro w2 ⟨r2, b2⟩
  have H2 := below_next H1 b2
  have S0_2 := S0_1.below b2
  clear S0_1
  have S1_2 := Laid.grid r2
  clear r2
  go_wp2_with fail
  refine call_below (s_d _ _ z0 _ _ z1 _ S0_2 hS0 S1_2 hS1) ?_
  intro w3 b3
  have H3 := below_next H2 b3
  have S0_3 := S0_2.below b3
  clear S0_2
  have S1_3 := S1_2.below b3
  clear S1_2
  clear S0_3 S1_3
  go_wp2_with fail
  refine call_pred (toInt64SS_c a0 cap0 z0 _ (h0.below H3) hS0) ?_
  rintro w4 ⟨r4, b4⟩
  have H4 := below_next H3 b4
  have X0_4 := Laid.grid r4
  clear r4
  go_wp2_with fail
  refine call_pred (toInt64SS_c a1 cap1 z1 _ (h1.below H4) hS1) ?_
  rintro w5 ⟨r5, b5⟩
  have H5 := below_next H4 b5
  have X0_5 := X0_4.below b5
  clear X0_4
  have X1_5 := Laid.grid r5
  clear r5
  go_wp2_with fail
  refine call_below (i_d _ _ z0 _ _ z1 _ X0_5 hS0 X1_5 hS1) ?_
  intro w6 b6
  have H6 := below_next H5 b6
  have X0_6 := X0_5.below b6
  clear X0_5
  have X1_6 := X1_5.below b6
  clear X1_5
  go_wp2_with fail
  refine call_pred (toInt64SS_c a0 cap0 z0 _ (h0.below H6) hS0) ?_
  rintro w7 ⟨r7, b7⟩
  have H7 := below_next H6 b7
  have X0_7 := X0_6.below b7
  clear X0_6
  have X1_7 := X1_6.below b7
  clear X1_6
  have Y0_7 := Laid.grid r7
  clear r7
  go_wp2_with fail
  refine call_below (eqInt64SS_c _ _ _ _ z0 _ X0_7 Y0_7 hS0) ?_
  intro w8 b8
  have H8 := below_next H7 b8
  have X0_8 := X0_7.below b8
  clear X0_7
  have X1_8 := X1_7.below b8
  clear X1_7
  have Y0_8 := Y0_7.below b8
  clear Y0_7
  clear X0_8 Y0_8
  go_wp2_with fail
  refine call_pred (toInt64SS_c a1 cap1 z1 _ (h1.below H8) hS1) ?_
  rintro w9 ⟨r9, b9⟩
  have H9 := below_next H8 b9
  have X1_9 := X1_8.below b9
  clear X1_8
  have Y1_9 := Laid.grid r9
  clear r9
  go_wp2_with fail
  refine call_below (eqInt64SS_c _ _ _ _ z1 _ X1_9 Y1_9 hS1) ?_
  intro w10 b10
  have H10 := below_next H9 b10
  have X1_10 := X1_9.below b10
  clear X1_9
  have Y1_10 := Y1_9.below b10
  clear Y1_9
  clear X1_10 Y1_10
  go_wp2
  go_ret
  exact ⟨rfl, H10⟩

theorem own : ownKnob Try.prog.godebug = none := by kernel_rfl
theorem laidOut : laidOutB Try.prog = true := by kernel_rfl
set_option maxRecDepth 100000 in
theorem lifted (os : Os) (started : os.Started) (H : Type) (enc : TypeId × Value → H) :
    ReturnsInHanded {} Try.checked os 13 .any (Rows.fnExactPlateGapSpec.pre6 enc Try.prog Try.f13 Rows.fnExactPlateGapRow.domain false) (Rows.fnExactPlateGapSpec.post enc Try.prog Try.f13 false true false false) := by
  refine returnsInHanded_of_change (C := Try.checked) own started (by kernel_rfl) Try.func13
    (ChangeSpec.witness6 (enc := enc) (C := Try.checked) false ⟨#[], #[.slice none 0 0, .slice none 0 0], []⟩ 8 (by kernel_rfl) (by kernel_rfl) (by kernel_rfl) (by kernel_rfl)) ?_
  intro W base args ds gs before hval0 hW hcnd _
  have hval : ∀ (j : Nat) t v, Try.f13.params[j]? = some t → args[j]? = some v → Value.okWide Try.prog W .any base t v := hval0
  have hW' := hW
  obtain ⟨p, q, hA0, hV, rfl, hfz, hnd⟩ := hW
  have hA : DataW.TrodAll enc Try.prog W 0 (fun _ => true) true Try.f13.params.toList args.toList ds p := hA0
  rw [Try.params13] at hA hval
  obtain ⟨v0, vs0, d0, ds0, p0, q0, hargs, rfl, rfl, h0, r0⟩ := trodAll_cons hA
  obtain ⟨v1, vs1, d1, ds1, p1, q1, rfl, rfl, rfl, h1, r1⟩ := trodAll_cons r0
  obtain ⟨rfl, rfl, rfl⟩ := trodAll_nil r1
  obtain rfl : args = #[v0, v1] := by cases args; simp_all
  obtain ⟨rfl, rfl⟩ := trodVars_none hV
  have k0 := h0
  have lt0 : ∀ x ∈ p0, x.block < W.heap.size := by obtain ⟨m, hm⟩ := k0; exact DataW.trod_lt m _ _ _ hm
  obtain ⟨a0, len0, cap0, rfl⟩ := okWide_slice Try.underlying29 (hval 0 29 v0 rfl rfl)
  obtain ⟨z0, rfl, w0, m0, f0⟩ : ∃ g : List (List Int), g.length = len0 ∧ Grid W a0 g ∧ g.length ≤ maxLen ∧ ∀ j, j < g.length → (nthL g j).length ≤ maxLen := by
    obtain ⟨fuel, hf⟩ := h0
    exact grid_open Try.underlying29 Try.underlying34 Try.underlying2 (by kernel_rfl) (by kernel_rfl) hf
  have k1 := h1
  have lt1 : ∀ x ∈ p1, x.block < W.heap.size := by obtain ⟨m, hm⟩ := k1; exact DataW.trod_lt m _ _ _ hm
  obtain ⟨a1, len1, cap1, rfl⟩ := okWide_slice Try.underlying29 (hval 1 29 v1 rfl rfl)
  obtain ⟨z1, rfl, w1, m1, f1⟩ : ∃ g : List (List Int), g.length = len1 ∧ Grid W a1 g ∧ g.length ≤ maxLen ∧ ∀ j, j < g.length → (nthL g j).length ≤ maxLen := by
    obtain ⟨fuel, hf⟩ := h1
    exact grid_open Try.underlying29 Try.underlying34 Try.underlying2 (by kernel_rfl) (by kernel_rfl) hf
  clear hA0 hval0
  refine (walk a0 cap0 z0 a1 cap1 z1 W w0 m0 f0 w1 m1 f1).mono fun e W' ⟨he, bel⟩ => ?_
  subst he
  exact ⟨_, rfl, _, _, _, [], _, [], hW', trodAll_mk1 (shut_bool Try.underlying4 _), (trodAll_cons_mk (Below.trod laidOut (by kernel_rfl) (of_decide_eq_true (by kernel_rfl)) k0 bel lt0) (trodAll_cons_mk (Below.trod laidOut (by kernel_rfl) (of_decide_eq_true (by kernel_rfl)) k1 bel lt1) trodAll_mk0)), rfl, bel.frame _, fun h => by cases h⟩

theorem over : Rows.fnExactPlateGapRow.holds Try.pinned (OpenSpec.ofChange Rows.fnExactPlateGapSpec) :=
  OpenClaim.holds_of_wide 13 Try.f13 rfl rfl rfl rfl rfl rfl rfl ⟨rfl, rfl, rfl, rfl, rfl⟩ rfl rfl rfl rfl rfl (by kernel_rfl) Try.func13 (by kernel_rfl)
    (of_decide_eq_true (by kernel_rfl)) (by unfold Func.isWrapper; first | (rw [if_pos (by decide +kernel)]; kernel_rfl) | (rw [if_neg (by decide +kernel)]; exact ⟨rfl, rfl⟩))
    (fun os started H enc _ => lifted os started H enc)

/-- THE STATEMENT. -/
theorem proved : Rows.FnExactPlateGapSaid := over
#print axioms proved
end Go.Proofs.Ythkjnemlklndfaa.lawPlateGap
