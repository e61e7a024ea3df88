/- The gap along the edge: that it is not below 0. -/
import Derived.Test.YtlenihncfhemkaaSteep
import Derived.Test.YtlenihncfhemkaaArch
import Derived.Test.YtlenihncfhemkaaHeights
namespace Go.Proofs.Ytlenihncfhemkaa
open Go.RowKit Go.ChangeShapes Go.WideShapes
set_option linter.unusedVariables false

theorem keepPB {w1 w2 : World} {b : Nat} {v0 v1 : Value} (d : w1.cell? ⟨b, 0, none⟩ = some v0 ∧ w1.cell? ⟨b, 1, none⟩ = some v1) (h : Below w1.heap.size w1 w2) : w2.cell? ⟨b, 0, none⟩ = some v0 ∧ w2.cell? ⟨b, 1, none⟩ = some v1 ∧ Below w1.heap.size w1 w2 :=
  ⟨(h.cell (World.block_lt_of_cell? w1 _ d.1)).trans d.1, (h.cell (World.block_lt_of_cell? w1 _ d.2)).trans d.2, h⟩
theorem channelGap_c (a : Option Addr) (cap : Nat) (g : List (List Int)) (w : World) (h : Grid w a g) (hs : Small g) (hv : gridB 0 1000 g = true) :
    Calls Try.prog 8 #[.slice a g.length cap] w fun e w' => ∃ x : Int, e = .returned (.tuple #[.int .i64 x, .int .i64 0]) ∧ 0 ≤ x ∧ Below w.heap.size w w' := by
  have ok := gridB_true hv
  have hll := ok.places
  have hg1 := ok.rows
  have hg2 := ok.cols
  have hr00 := ok.range 0 (by omega) 0 (by omega)
  have HP := Lib.hid (fun j (hj : j < (plTo g g.length).length) => place_ok hj)
  have HV := Lib.hid (fun (p : Nat × Nat) (hp : p.1 < g.length ∧ p.2 < (nthL g p.1).length) => ok.at_ hp)
  have HLE := Lib.hid (fun j (hj : j < g.length) => ok.len hj)
  have HVA := Lib.hid (validArch_c a cap g w h hs)
  rw [hv] at HVA
  have HG0 := Lib.hid h
  clear ok hv
  obtain ⟨b, o, rfl, hb, ar, cr, hc0, hnu⟩ := h.pos (j := 0) (by omega)
  obtain ⟨b2, o2, rfl, _, hc2⟩ := hnu.pos (j := 0) (by omega)
  have hc0' : w.cell? ⟨b, o, none⟩ = some (.slice (some ⟨b2, o2, none⟩) (nthL g 0).length cr) := hc0
  have hc2' : w.cell? ⟨b2, o2, none⟩ = some (.int .i64 (nth (nthL g 0) 0)) := hc2
  generalize nth (nthL g 0) 0 = x0 at hc2' hr00
  have q1 : (0 : Int) < (g.length : Int) := by omega
  have q2 : (0 : Int) < ((nthL g 0).length : Int) := by omega
  have q3 : 0 < g.length := by omega
  have q4 : 0 < (nthL g 0).length := by omega
  clear hc0 hc2 hnu hb
  go_enter Try.func8, Try.ntmps8
  go_wp2_with fail
  refine call_same HVA.out ?_
  go_wp2_with fail
  go_quiet (fail)
  clear hc0' hc2' q1 q2 q3 q4
  go_wp2_with fail
  have HWD := Lib.hid (below_drewN (Below.refl w.heap.size w) nq)
  refine (places_c _ _ g _ (HG0.out.below HWD.out) hs).mono ?_
  rintro e w2 ⟨v, rfl, hown, hnn, hb2⟩
  obtain ⟨bp, cp, rfl, -, hbp, hcell⟩ := own_form hown hnn
  have HC := Lib.hid hcell
  have HG := Lib.hid ((HG0.out.below HWD.out).below hb2)
  have HB2 := Lib.hid (below_next HWD.out hb2)
  clear hown hnn hcell hb2 HVA
  generalize plTo g g.length = L at HP HC hll ⊢
  go_wp2
  go_loopw [4, 5, 24] (fun lo hi i wr => ∃ (j : Nat) (l u : Int), j ≤ L.length ∧ i = .int .i64 j ∧ lo = .int .i64 l ∧ hi = .int .i64 u ∧ (0 ≤ l ∧ l ≤ u ∧ u ≤ 1000) ∧ Below w2.heap.size w2 wr) (fun _ _ i _ => L.length - (intOf i).toNat)
  case atStart => exact ⟨0, x0, x0, Nat.zero_le _, rfl, rfl, rfl, by omega, Below.refl _ _⟩
  case round =>
    obtain ⟨j, l, u, hj, rfl, rfl, rfl, hlu, hbl⟩ := hrel
    have HL := Lib.hid hbl
    by_cases hlt : j < L.length
    · have hP := HP.out j hlt
      have hC := HC.out j hlt
      generalize L.getD j (0, 0) = p at hP hC
      have c0 := (hbl.cell (p := ⟨bp, j * 2, none⟩) hbp).trans hC.1
      have c1 := (hbl.cell (p := ⟨bp, j * 2 + 1, none⟩) hbp).trans hC.2
      have HPP := Lib.hid hP
      have hvp := HV.out p hP
      have hp2 : p.2 < 1048576 := by have := (HLE.out p.1 hP.1).2; omega
      clear hbl hP hC
      go_wp2_with fail
      refine call_below (edge_c _ _ g p _ ((HG.out.below HL.out).below ((Below.refl _ _).alloc (Nat.le_refl _) _)) hs HPP.out.1 hp2) ?_
      intro w3 hb3
      have HPC := Lib.hid (show w3.cell? ⟨wr.heap.size, 0, none⟩ = some (.int .i64 p.1) ∧ w3.cell? ⟨wr.heap.size, 1, none⟩ = some (.int .i64 p.2) from ⟨by rw [box_cell hb3]; go_cell, by rw [box_cell hb3]; go_cell⟩)
      have HL3 := Lib.hid (below_next HL.out (below_from hb3))
      have HG3 := Lib.hid (HG.out.below HL3.out)
      clear hb3 c0 c1
      obtain ⟨d0, d1⟩ := HPC.out
      generalize wr.heap.size = bP at HPC d0 d1 ⊢
      cases hE : edgeB g p
      · go_wp2
        go_roundw
        case rel => exact ⟨j + 1, l, u, hlt, by go_num, rfl, rfl, hlu, HL3.out⟩
        case measure => simp [intOf]; omega
      · obtain ⟨x, hx⟩ : ∃ x : Int, atG g p = x := ⟨_, rfl⟩
        rw [hx] at hvp
        have HX := Lib.hid hx
        have HOF := Lib.hid (fun w' (hb' : Below w3.heap.size w3 w') => of_c _ cap g p _ (HG3.out.below hb') hs HPP.out.1 HPP.out.2)
        rw [hx] at HOF
        clear hx hp2
        go_wp2_with fail
        go_region_held3 (fun w' => w'.cell? ⟨bP, 0, none⟩ = some (.int .i64 p.1) ∧ w'.cell? ⟨bP, 1, none⟩ = some (.int .i64 p.2) ∧ Below w3.heap.size w3 w')
          (first | exact keepPB HPC.out (Below.refl _ _).drew | exact keepPB HPC.out (below_next (Below.refl _ _).drew hb4) | exact keepPB HPC.out (below_next (below_next (Below.refl _ _).drew hb4) hb5) | go_keep)
          (first | (go_at_call 22; refine call_below (HOF.out _ ?_) ?_; (first | exact (Below.refl _ _).drew | exact below_next (Below.refl _ _).drew hb4); (first | (have hx := hb4; clear hx; intro w5 hb5) | intro w4 hb4)))
        all_goals
          go_wp2
          go_roundw
          case rel => exact ⟨j + 1, min l x, max u x, hlt, by go_num, by congr 1 <;> omega, by congr 1 <;> omega, by omega, below_next HL3.out (below_next (below_next (Below.refl _ _).drew hb4) hb5)⟩
          case measure => simp [intOf]; omega
    · obtain rfl : j = L.length := by omega
      clear hbl
      go_wp2
      go_returns
      exact ⟨_, rfl, by omega, below_next HB2.out HL.out⟩
end Go.Proofs.Ytlenihncfhemkaa
