/- The highest place, and the gap along the edge: what the program's functions answer. -/
import Derived.Test.YtlenihncfhemkaaSteep
import Derived.Test.YtlenihncfhemkaaArch
import Derived.Test.YtlenihncfhemkaaHeights
namespace Go.Proofs.Ytlenihncfhemkaa
open Go.RowKit Go.ChangeShapes Go.WideShapes
set_option linter.unusedVariables false

/-- p is a place of the grid, and none of these is higher. -/
def TopOf (g : List (List Int)) (l : List (Nat × Nat)) (p : Nat × Nat) : Prop := (p.1 < g.length ∧ p.2 < (nthL g p.1).length) ∧ ∀ q ∈ l, atG g q ≤ atG g p
theorem TopOf.stay {g : List (List Int)} {L : List (Nat × Nat)} {p : Nat × Nat} {j : Nat} (h : TopOf g (L.take j) p) (hj : j < L.length) (hle : atG g (L.getD j (0, 0)) ≤ atG g p) : TopOf g (L.take (j + 1)) p := by
  refine ⟨h.1, fun q hq => ?_⟩
  rw [List.take_succ_eq_append_getElem hj, List.mem_append] at hq
  rcases hq with hq | hq
  · exact h.2 q hq
  · simp at hq
    subst hq
    simpa [List.getD_eq_getElem?_getD, hj] using hle
theorem TopOf.move {g : List (List Int)} {L : List (Nat × Nat)} {p : Nat × Nat} {j : Nat} (h : TopOf g (L.take j) p) (hj : j < L.length) (hin : (L.getD j (0, 0)).1 < g.length ∧ (L.getD j (0, 0)).2 < (nthL g (L.getD j (0, 0)).1).length) (hlt : atG g p < atG g (L.getD j (0, 0))) : TopOf g (L.take (j + 1)) (L.getD j (0, 0)) := by
  refine ⟨hin, fun q hq => ?_⟩
  rw [List.take_succ_eq_append_getElem hj, List.mem_append] at hq
  rcases hq with hq | hq
  · have := h.2 q hq; omega
  · simp at hq
    subst hq
    simp [List.getD_eq_getElem?_getD, hj]
theorem highestOf_c (a : Option Addr) (cap : Nat) (g : List (List Int)) (w : World) (h : Grid w a g) (hs : Small g) (hv : gridB 0 1000 g = true) :
    Calls Try.prog 6 #[.slice a g.length cap] w fun e w' => ∃ p : Nat × Nat, e = .returned (.tuple #[.int .i64 p.1, .int .i64 p.2, .int .i64 0]) ∧ TopOf g (plTo g g.length) p ∧ Below w.heap.size w w' := by
  have ok := gridB_true hv
  have hll := ok.places
  have h0 := ok.rows
  have h00 := ok.cols
  have HTP := Lib.hid (show TopOf g ((plTo g g.length).take 0) (0, 0) from ⟨⟨by simp; omega, by simp; omega⟩, fun q hq => by simp at hq⟩)
  have HP := Lib.hid (fun j (hj : j < (plTo g g.length).length) => place_ok hj)
  have HSTAY := Lib.hid (fun j p (h : TopOf g ((plTo g g.length).take j) p) (hj : j < (plTo g g.length).length) => h.stay hj)
  have HMOVE := Lib.hid (fun j p (h : TopOf g ((plTo g g.length).take j) p) (hj : j < (plTo g g.length).length) => h.move hj)
  have HE := Lib.hid (show (plTo g g.length).take (plTo g g.length).length = plTo g g.length by rw [List.take_length])
  have HVA := Lib.hid (validArch_c a cap g w h hs)
  rw [hv] at HVA
  clear ok hv
  have HA0 := Lib.hid (show Below w.heap.size w (w.alloc (.cells #[.int .i64 0, .int .i64 0] 43)) from (Below.refl _ _).alloc (Nat.le_refl _) _)
  go_enter Try.func6, Try.ntmps6
  go_wp2_with fail
  refine call_same HVA.out ?_
  go_wp2_with fail
  refine (places_c _ _ g _ (h.below HA0.out) hs).mono ?_
  rintro e w2 ⟨v, rfl, hown, hnn, hb2⟩
  obtain ⟨bp, cp, rfl, hbp0, hbp, hcell⟩ := own_form hown hnn
  have HC := Lib.hid hcell
  have HG := Lib.hid ((h.below HA0.out).below hb2)
  have HB2 := Lib.hid (below_from hb2)
  have HBX := Lib.hid (show (w2.cell? ⟨w.heap.size, 0, none⟩ = some (.int .i64 ((0 : Nat) : Int)) ∧ w2.cell? ⟨w.heap.size, 1, none⟩ = some (.int .i64 ((0 : Nat) : Int))) ∧ w2.frozen? ⟨w.heap.size, 0, none⟩ = false ∧ w2.frozen? ⟨w.heap.size, 1, none⟩ = false from
    ⟨⟨by rw [box_cell hb2]; go_cell, by rw [box_cell hb2]; go_cell⟩, by rw [hb2.frozen (p := ⟨w.heap.size, 0, none⟩) (by simp)]; go_cell, by rw [hb2.frozen (p := ⟨w.heap.size, 1, none⟩) (by simp)]; go_cell⟩)
  have hz2 : w.heap.size < w2.heap.size := World.block_lt_of_cell? _ _ HBX.out.1.1
  have hpz : bp ≠ w.heap.size := by simp at hbp0; omega
  have HW := Lib.hid h
  clear hown hnn hcell hb2 hbp0 h HVA HA0
  generalize hL : plTo g g.length = L at HP HTP HSTAY HMOVE HE HC hll ⊢
  have HLQ := Lib.hid hL
  clear hL
  go_wp2
  go_loopw [15] (fun i wr => ∃ (j : Nat) (p : Nat × Nat), j ≤ L.length ∧ i = .int .i64 j ∧ TopOf g (L.take j) p ∧ ((wr.cell? ⟨w.heap.size, 0, none⟩ = some (.int .i64 p.1) ∧ wr.cell? ⟨w.heap.size, 1, none⟩ = some (.int .i64 p.2)) ∧ wr.frozen? ⟨w.heap.size, 0, none⟩ = false ∧ wr.frozen? ⟨w.heap.size, 1, none⟩ = false) ∧ (∀ o, wr.cell? ⟨bp, o, none⟩ = w2.cell? ⟨bp, o, none⟩) ∧ w2.heap.size ≤ wr.heap.size ∧ Below w.heap.size w wr) (fun i _ => L.length - (intOf i).toNat)
  case atStart => exact ⟨0, (0, 0), Nat.zero_le _, rfl, HTP.out, HBX.out, fun _ => rfl, Nat.le_refl _, HB2.out⟩
  case round =>
    clear HTP HBX HB2
    obtain ⟨j, p, hj, rfl, htop, ⟨⟨d0, d1⟩, k0, k1⟩, hkeep, hszw, hbl⟩ := hrel
    have HTOP := Lib.hid htop
    have HL := Lib.hid hbl
    have HK := Lib.hid hkeep
    have hpp := htop.1
    have HBX := Lib.hid (And.intro (And.intro d0 d1) (And.intro k0 k1))
    have hblt : bp < wr.heap.size := by omega
    by_cases hlt : j < L.length
    · have hP := HP.out j hlt
      have hC := HC.out j hlt
      have HST := Lib.hid (fun hle => HSTAY.out j p HTOP.out hlt hle)
      have HMV := Lib.hid (fun hin hlt' => HMOVE.out j p HTOP.out hlt hin hlt')
      generalize L.getD j (0, 0) = q at hP hC HST HMV
      have c0 := (HK.out (j * 2)).trans hC.1
      have c1 := (HK.out (j * 2 + 1)).trans hC.2
      have HPP := Lib.hid hpp
      have HQQ := Lib.hid hP
      clear hbl hP hC htop hkeep hpp
      go_wp2_with fail
      have hbw : w.heap.size < wr.heap.size := World.block_lt_of_cell? _ _ d0
      have HA := Lib.hid (show Below wr.heap.size wr (wr.alloc (.cells #[.int .i64 q.1, .int .i64 q.2] 43)) from (Below.refl _ _).alloc (Nat.le_refl _) _)
      have e0 : (wr.alloc (.cells #[.int .i64 q.1, .int .i64 q.2] 43)).cell? ⟨wr.heap.size, 0, none⟩ = some (.int .i64 q.1) := by go_cell
      have e1 : (wr.alloc (.cells #[.int .i64 q.1, .int .i64 q.2] 43)).cell? ⟨wr.heap.size, 1, none⟩ = some (.int .i64 q.2) := by go_cell
      have hpc2 := keepP ⟨d0, d1⟩ HA.out
      generalize wr.alloc (.cells #[.int .i64 q.1, .int .i64 q.2] 43) = wA at HA e0 e1 hpc2 ⊢
      have HQ := Lib.hid (And.intro hpc2 (And.intro e0 e1))
      have HGX := Lib.hid (show Grid wA a g from (HW.out.below HL.out).below HA.out)
      clear c0 c1 hpc2 e0 e1 d0 d1 k0 k1
      go_region_held3 (fun w' => w'.cell? ⟨w.heap.size, 0, none⟩ = some (.int .i64 p.1) ∧ w'.cell? ⟨w.heap.size, 1, none⟩ = some (.int .i64 p.2) ∧ w'.cell? ⟨wr.heap.size, 0, none⟩ = some (.int .i64 q.1) ∧ w'.cell? ⟨wr.heap.size, 1, none⟩ = some (.int .i64 q.2) ∧ Below wA.heap.size wA w')
        (first | exact keepPQ HQ.out (Below.refl _ _).drew | exact keepPQ HQ.out (below_next (Below.refl _ _).drew hb4) | exact keepPQ HQ.out (below_next (below_next (Below.refl _ _).drew hb4) hb5) | go_keep)
        (first | (go_at_call 22; refine call_below (of_c _ _ _ _ _ ?_ hs ?_ ?_) ?_; (first | exact HGX.out.below (Below.refl _ _).drew | exact HGX.out.below (below_next (Below.refl _ _).drew hb4)); (first | exact HPP.out.1 | exact HQQ.out.1); (first | exact HPP.out.2 | exact HQQ.out.2); (first | (have hx := hb4; clear hx; intro w5 hb5) | intro w4 hb4)))
      have HWX := Lib.hid (show Below wr.heap.size wr w5 from below_next HA.out (below_next (below_next (Below.refl _ _).drew hb4) hb5))
      obtain ⟨-, -, q0, q1, -⟩ := keepPQ HQ.out (below_next (below_next (Below.refl _ _).drew hb4) hb5)
      have f0 := (HWX.out.frozen (p := ⟨w.heap.size, 0, none⟩) hbw).trans HBX.out.2.1
      have f1 := (HWX.out.frozen (p := ⟨w.heap.size, 1, none⟩) hbw).trans HBX.out.2.2
      have g0 := (HWX.out.cell (p := ⟨w.heap.size, 0, none⟩) hbw).trans HBX.out.1.1
      have g1 := (HWX.out.cell (p := ⟨w.heap.size, 1, none⟩) hbw).trans HBX.out.1.2
      have HN := Lib.hid (below_next HL.out HWX.out)
      have HK5 := Lib.hid (fun o => (HWX.out.cell (p := ⟨bp, o, none⟩) hblt).trans (HK.out o))
      have hz5 : w2.heap.size ≤ w5.heap.size := Nat.le_trans hszw HWX.out.size
      have hnw : wr.heap.size ≠ w.heap.size := by omega
      clear hb4 hb5 HQ HGX HA
      by_cases hgt : atG g p < atG g q
      · have d : decide (atG g p < atG g q) = true := decide_eq_true hgt
        have HT2 := Lib.hid (HMV.out HQQ.out hgt)
        rw [d]
        go_wp2
        go_roundw
        case rel =>
          refine ⟨j + 1, q, hlt, by go_num, HT2.out, ⟨⟨?_, ?_⟩, by simpa using f0, by simpa using f1⟩, fun o => ?_, by simpa using hz5, (HN.out.setCell (Nat.le_refl _) _).setCell (Nat.le_refl _) _⟩
          · exact (World.cell?_setCell_other _ _ _ _ (by simp)).trans (World.cell?_setCell_same _ _ _ g0)
          · exact World.cell?_setCell_same _ _ _ ((World.cell?_setCell_other _ _ _ _ (by simp)).trans g1)
          · exact (World.cell?_setCell_other _ _ _ _ (fun e => hpz (congrArg Addr.block e).symm)).trans ((World.cell?_setCell_other _ _ _ _ (fun e => hpz (congrArg Addr.block e).symm)).trans (HK5.out o))
        case measure => simp [intOf]; omega
      · have d : decide (atG g p < atG g q) = false := decide_eq_false hgt
        have HT2 := Lib.hid (HST.out (by omega))
        rw [d]
        go_wp2
        go_roundw
        case rel => exact ⟨j + 1, p, hlt, by go_num, HT2.out, ⟨⟨g0, g1⟩, f0, f1⟩, HK5.out, hz5, HN.out⟩
        case measure => simp [intOf]; omega
    · obtain rfl : j = L.length := by omega
      have HTE := Lib.hid (show TopOf g L p by have := HTOP.out; rw [HE.out] at this; exact this)
      clear hbl htop hkeep
      go_wp2_with fail
      go_quiet (fail)
      go_wp2
      go_returns
      exact ⟨p, rfl, by rw [HLQ.out]; exact HTE.out, below_drewN HL.out _⟩
end Go.Proofs.Ytlenihncfhemkaa
