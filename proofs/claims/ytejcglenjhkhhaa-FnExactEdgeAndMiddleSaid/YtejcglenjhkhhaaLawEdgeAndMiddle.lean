/- The program's EdgeAndMiddle returns what the reference's returns, for all arguments. No condition. -/
import Derived.Test.YtejcglenjhkhhaaRows
import Derived.Test.YtejcglenjhkhhaaChosen
import Derived.Test.YtejcglenjhkhhaaSteep
import Derived.StillTailTactics
import Derived.OpenShut
import Derived.ChangeOld
import Derived.Lib.SmallJoins
namespace Go.Proofs.Ytejcglenjhkhhaa.lawEdgeAndMiddle
open Go.ChangeShapes Go.WideShapes Go.ChangeAt Go.RowKit
set_option linter.unusedVariables false

/-- Two numbers of a block that may be written. -/
def TwoI (w : World) (b : Nat) (x y : Int) : Prop := (w.cell? ⟨b, 0, none⟩ = some (.int .i64 x) ∧ w.cell? ⟨b, 1, none⟩ = some (.int .i64 y)) ∧ w.frozen? ⟨b, 0, none⟩ = false ∧ w.frozen? ⟨b, 1, none⟩ = false
theorem TwoI.below {w w' : World} {b : Nat} {x y : Int} (h : TwoI w b x y) (hb : Below w.heap.size w w') : TwoI w' b x y := by
  have hlt := World.block_lt_of_cell? w _ h.1.1
  exact ⟨⟨(hb.cell (p := ⟨b, 0, none⟩) hlt).trans h.1.1, (hb.cell (p := ⟨b, 1, none⟩) hlt).trans h.1.2⟩, (hb.frozen (p := ⟨b, 0, none⟩) hlt).trans h.2.1, (hb.frozen (p := ⟨b, 1, none⟩) hlt).trans h.2.2⟩
theorem TwoI.set0 {w : World} {b : Nat} {x y : Int} (h : TwoI w b x y) (u : Int) : TwoI (w.setCell ⟨b, 0, none⟩ (.int .i64 u)) b u y :=
  ⟨⟨World.cell?_setCell_same _ _ _ h.1.1, (World.cell?_setCell_other _ _ _ _ (by simp)).trans h.1.2⟩, by simpa using h.2.1, by simpa using h.2.2⟩
theorem TwoI.set1 {w : World} {b : Nat} {x y : Int} (h : TwoI w b x y) (u : Int) : TwoI (w.setCell ⟨b, 1, none⟩ (.int .i64 u)) b x u :=
  ⟨⟨(World.cell?_setCell_other _ _ _ _ (by simp)).trans h.1.1, World.cell?_setCell_same _ _ _ h.1.2⟩, by simpa using h.2.1, by simpa using h.2.2⟩
theorem TwoI.other {w : World} {b b' o : Nat} {x y : Int} (h : TwoI w b x y) (hne : b ≠ b') (u : Value) : TwoI (w.setCell ⟨b', o, none⟩ u) b x y :=
  ⟨⟨(World.cell?_setCell_other _ _ _ _ (by simp)).trans h.1.1, (World.cell?_setCell_other _ _ _ _ (by simp)).trans h.1.2⟩, by simpa using h.2.1, by simpa using h.2.2⟩
/-- The sum and the number of the places at the edge, and of all others. -/
def eS (g : List (List Int)) (l : List (Nat × Nat)) : Int := sumP g (l.filter fun p => edgeB g p)
def mS (g : List (List Int)) (l : List (Nat × Nat)) : Int := sumP g (l.filter fun p => !edgeB g p)
def eN (g : List (List Int)) (l : List (Nat × Nat)) : Int := ((l.filter fun p => edgeB g p).length : Int)
def mN (g : List (List Int)) (l : List (Nat × Nat)) : Int := ((l.filter fun p => !edgeB g p).length : Int)
theorem em_edge {g : List (List Int)} {l : List (Nat × Nat)} {p : Nat × Nat} (h : edgeB g p = true) : eS g (l ++ [p]) = eS g l + atG g p ∧ mS g (l ++ [p]) = mS g l ∧ eN g (l ++ [p]) = eN g l + 1 ∧ mN g (l ++ [p]) = mN g l := by
  simp [eS, mS, eN, mN, List.filter_append, h, sumP]
theorem em_mid {g : List (List Int)} {l : List (Nat × Nat)} {p : Nat × Nat} (h : edgeB g p = false) : eS g (l ++ [p]) = eS g l ∧ mS g (l ++ [p]) = mS g l + atG g p ∧ eN g (l ++ [p]) = eN g l ∧ mN g (l ++ [p]) = mN g l + 1 := by
  simp [eS, mS, eN, mN, List.filter_append, h, sumP]
theorem em_bd {g : List (List Int)} {l : List (Nat × Nat)} (h : ∀ p ∈ l, 0 ≤ atG g p ∧ atG g p ≤ 1000) (hl : l.length ≤ 110) : (0 ≤ eS g l ∧ eS g l ≤ 110000) ∧ (0 ≤ mS g l ∧ mS g l ≤ 110000) ∧ (0 ≤ eN g l ∧ eN g l ≤ 110) ∧ (0 ≤ mN g l ∧ mN g l ≤ 110) := by
  have a1 := sumP_bd (g := g) (l := l.filter fun p => edgeB g p) fun p hp => h p (List.mem_filter.1 hp).1
  have a2 := sumP_bd (g := g) (l := l.filter fun p => !edgeB g p) fun p hp => h p (List.mem_filter.1 hp).1
  have b1 := List.length_filter_le (fun p => edgeB g p) l
  have b2 := List.length_filter_le (fun p => !edgeB g p) l
  unfold eS mS eN mN
  omega
theorem em_take {g : List (List Int)} {l : List (Nat × Nat)} {j : Nat} (h : j < l.length) : l.take (j + 1) = l.take j ++ [l.getD j (0, 0)] := by
  rw [List.take_succ_eq_append_getElem h]
  simp [List.getD_eq_getElem?_getD, h]
def fF (g : List (List Int)) : Int × Int × Int := if gridB 1 200 g then (if mN g (plTo g g.length) = 0 then (0, 0, 6) else (rdiv (eS g (plTo g g.length)) (eN g (plTo g g.length)), rdiv (mS g (plTo g g.length)) (mN g (plTo g g.length)), 0)) else (0, 0, 1)
theorem eN_pos {g : List (List Int)} (h : 1 ≤ g.length ∧ 1 ≤ (nthL g 0).length) : 1 ≤ eN g (plTo g g.length) := by
  have hm : ((0, 0) : Nat × Nat) ∈ (plTo g g.length).filter fun p => edgeB g p := by
    refine List.mem_filter.2 ⟨?_, by simp [edgeB]⟩
    have hq : ∀ k, 1 ≤ k → ((0, 0) : Nat × Nat) ∈ plTo g k := by
      intro k hk
      induction k with
      | zero => omega
      | succ k ih =>
        simp only [plTo, List.mem_append]
        by_cases h0 : k = 0
        · subst h0
          refine .inr ?_
          simp only [rowPl, List.mem_map, List.mem_range]
          exact ⟨0, by omega, rfl⟩
        · exact .inl (ih (by omega))
    exact hq _ h.1
  have := List.length_pos_of_mem hm
  unfold eN; omega
set_option maxRecDepth 100000 in
set_option maxHeartbeats 4000000 in
theorem i_c (a : Option Addr) (cap : Nat) (g : List (List Int)) (w : World) (h : Grid w a g) (hs : Small g) :
    Calls Try.prog 36 #[.slice a g.length cap] w fun e w' => e = .returned (.tuple #[.int .i64 (fF g).1, .int .i64 (fF g).2.1, .int .i64 (fF g).2.2]) ∧ Below w.heap.size w w' := by
  cases h1 : gridB 1 200 g
  · go_enter Try.func36, Try.ntmps36
    go_wp2_with fail
    refine call_same (validPlate_c _ _ g _ h hs) ?_
    rw [h1]
    go_wp2
    go_ret3
    exact ⟨by simp [fF, h1], Below.refl _ _⟩
  · have ok := gridB_true h1
    have hll := ok.places
    have HFA := Lib.hid (fun (hz : mN g (plTo g g.length) = 0) => show fF g = (0, 0, 6) by simp [fF, h1, hz])
    have HFB := Lib.hid (fun (hz : ¬ mN g (plTo g g.length) = 0) => show fF g = (rdiv (eS g (plTo g g.length)) (eN g (plTo g g.length)), rdiv (mS g (plTo g g.length)) (mN g (plTo g g.length)), 0) by simp [fF, h1, hz])
    have HP := Lib.hid (fun j (hj : j < (plTo g g.length).length) => place_ok hj)
    have HV := Lib.hid (fun (p : Nat × Nat) (hp : p.1 < g.length ∧ p.2 < (nthL g p.1).length) => ok.at_ hp)
    have HLE := Lib.hid (fun j (hj : j < g.length) => ok.len hj)
    have HBD := Lib.hid (fun j => em_bd (g := g) (l := (plTo g g.length).take j) (fun p hp => by have := ok.at_ (plTo_in (Nat.le_refl _) (List.mem_of_mem_take hp)); omega) (by rw [List.length_take]; omega))
    have HT := Lib.hid (fun j (hj : j < (plTo g g.length).length) => em_take (g := g) hj)
    have HE := Lib.hid (show (plTo g g.length).take (plTo g g.length).length = plTo g g.length by rw [List.take_length])
    have HPOS := Lib.hid (eN_pos ⟨ok.rows.1, ok.cols.1⟩)
    clear ok
    go_enter Try.func36, Try.ntmps36
    go_wp2_with fail
    refine call_same (validPlate_c _ _ g _ h hs) ?_
    rw [h1]
    clear h1
    go_wp2_with fail
    have HA0 := Lib.hid (show Below w.heap.size w ((w.alloc (.cells #[.int .i64 0, .int .i64 0] 81)).alloc (.cells #[.int .i64 0, .int .i64 0] 81)) from ((Below.refl _ _).alloc (Nat.le_refl _) _).alloc (by simp) _)
    have HS0 := Lib.hid (show TwoI ((w.alloc (.cells #[.int .i64 0, .int .i64 0] 81)).alloc (.cells #[.int .i64 0, .int .i64 0] 81)) w.heap.size 0 0 from ⟨⟨by go_cell, by go_cell⟩, by go_cell, by go_cell⟩)
    have HC0 := Lib.hid (show TwoI ((w.alloc (.cells #[.int .i64 0, .int .i64 0] 81)).alloc (.cells #[.int .i64 0, .int .i64 0] 81)) (w.heap.size + 1) 0 0 from ⟨⟨by go_cell, by go_cell⟩, by go_cell, by go_cell⟩)
    have hz0 := Lib.hid (show ((w.alloc (.cells #[.int .i64 0, .int .i64 0] 81)).alloc (.cells #[.int .i64 0, .int .i64 0] 81)).heap.size = w.heap.size + 2 by simp)
    refine (places_c _ _ g _ (h.below HA0.out) hs).mono ?_
    rintro e w2 ⟨v, rfl, hown, hnn, hb2⟩
    obtain ⟨bp, cp, cur, rfl, hblk, hcell⟩ := own_form2 hown hnn
    have HNE := Lib.hid (show bp ≠ w.heap.size ∧ bp ≠ w.heap.size + 1 from by
      have h1 := (hown.lt bp rfl).1
      rw [hz0.out] at h1
      omega)
    have HC := Lib.hid hcell
    have HG := Lib.hid h
    have HB2 := Lib.hid (below_next HA0.out hb2)
    have HS2 := Lib.hid (HS0.out.below hb2)
    have HN2 := Lib.hid (HC0.out.below hb2)
    have HBK := Lib.hid hblk
    have h00 : eS g ((plTo g g.length).take 0) = 0 ∧ mS g ((plTo g g.length).take 0) = 0 ∧ eN g ((plTo g g.length).take 0) = 0 ∧ mN g ((plTo g g.length).take 0) = 0 := by simp [eS, mS, eN, mN, sumP]
    have H00 := Lib.hid h00
    clear hown hnn hcell hb2 HS0 HC0 hblk h HA0 h00
    generalize plTo g g.length = L at HP HC HFA HFB HT HE HBD HPOS H00 hll ⊢
    go_wp2
    go_loopw [16] (fun i wr => ∃ j : Nat, j ≤ L.length ∧ i = .int .i64 j ∧ TwoI wr w.heap.size (eS g (L.take j)) (mS g (L.take j)) ∧ TwoI wr (w.heap.size + 1) (eN g (L.take j)) (mN g (L.take j)) ∧ Below w.heap.size w wr ∧ wr.heap[bp]? = some (.cells cur 67 (0, 0))) (fun i _ => L.length - (intOf i).toNat)
    case atStart => exact ⟨0, Nat.zero_le _, rfl, by rw [H00.out.1, H00.out.2.1]; exact HS2.out, by rw [H00.out.2.2.1, H00.out.2.2.2]; exact HN2.out, HB2.out, HBK.out⟩
    case round =>
      clear HS2 HN2 HBK
      obtain ⟨j, hj', rfl, hss, hcc, hbl, hblk⟩ := hrel
      have HS := Lib.hid hss
      have HN := Lib.hid hcc
      have HL := Lib.hid hbl
      have HBK := Lib.hid hblk
      have hbd := HBD.out j
      by_cases hlt : j < L.length
      · have hP := HP.out j hlt
        have hC := HC.out wr hblk j hlt
        have hT := HT.out j hlt
        generalize L.getD j (0, 0) = p at hT hP hC
        obtain ⟨c0, c1⟩ := hC
        have hvp := HV.out p hP
        have hp2 : p.2 < 1048576 := by have := (HLE.out p.1 hP.1).2; omega
        have HPP := Lib.hid hP
        have HTT := Lib.hid hT
        clear hbl hP hblk hss hcc hT
        go_wp2_with fail
        have HA := Lib.hid (show Below wr.heap.size wr (wr.alloc (.cells #[.int .i64 p.1, .int .i64 p.2] 67)) from (Below.refl _ _).alloc (Nat.le_refl _) _)
        refine call_below (edge_c _ _ g p _ ((HG.out.below HL.out).below HA.out) hs HPP.out.1 hp2) ?_
        intro w3 hb3
        have HPA := Lib.hid (show w3.cell? ⟨wr.heap.size, 0, none⟩ = some (.int .i64 p.1) ∧ w3.cell? ⟨wr.heap.size, 1, none⟩ = some (.int .i64 p.2) from ⟨by rw [box_cell hb3]; go_cell, by rw [box_cell hb3]; go_cell⟩)
        have HB3 := Lib.hid (below_from hb3)
        have HSA := Lib.hid (HS.out.below HB3.out)
        have HCA := Lib.hid (HN.out.below HB3.out)
        have HG3 := Lib.hid ((HG.out.below HL.out).below HB3.out)
        clear hb3 c0 c1
        generalize hbX : wr.heap.size = bX at HPA
        have HBX := Lib.hid hbX
        clear hbX
        cases hE : edgeB g p
        · have hem := em_mid (g := g) (l := L.take j) hE
          rw [← HTT.out] at hem
          have HEM := Lib.hid hem
          clear hem hE
          obtain ⟨s0, s1⟩ := HPA.out
          obtain ⟨⟨x0, x1⟩, xf0, xf1⟩ := HSA.out
          generalize eS g (L.take j) = ES at hbd HEM HSA x0
          generalize mS g (L.take j) = MS at hbd HEM HSA x1
          generalize eN g (L.take j) = EN at hbd HEM HCA
          generalize mN g (L.take j) = MN at hbd HEM HCA
          have q1 : IntKind.i64.wrap (MS + atG g p) = MS + atG g p := IntWalk.i64_in _ (by omega)
          go_wp2_with fail
          go_region_with (go_at_call 60; refine call_below (of_c _ _ g p _ (HG3.out.below (Below.refl _ _).drew) hs HPP.out.1 HPP.out.2) ?_; intro w4 hb4; have s4 := (HSA.out.below ((Below.refl _ _).drew)).below hb4; obtain ⟨⟨x4, x5⟩, x6, x7⟩ := s4)
          all_goals
            have hBB : Below w3.heap.size w3 w4 := below_next (Below.refl _ _).drew hb4
            have HSN := Lib.hid ((HSA.out.below hBB).set1 (MS + atG g p))
            have HCN := Lib.hid ((HCA.out.below hBB).other (b' := w.heap.size) (o := 1) (by omega) (.int .i64 (MS + atG g p)))
            have HBN := Lib.hid ((Below.heap_setCell w4 ⟨w.heap.size, 1, none⟩ (.int .i64 (MS + atG g p)) bp HNE.out.1).trans (blk_keep HBK.out (HB3.out.trans (hBB.mono HB3.out.size))))
            have HLN := Lib.hid ((below_next (below_next HL.out HB3.out) hBB).setCell (p := ⟨w.heap.size, 1, none⟩) (Nat.le_refl _) (.int .i64 (MS + atG g p)))
            clear hBB hb4 x0 x1 xf0 xf1 x4 x5 x6 x7 q1 s0 s1
            generalize w4.setCell ⟨w.heap.size, 1, none⟩ (.int .i64 (MS + atG g p)) = w5 at HSN HCN HBN HLN ⊢
            obtain ⟨⟨y0, y1⟩, yf0, yf1⟩ := HCN.out
            have HCM := Lib.hid (HCN.out.set1 (MN + 1))
            have HSM := Lib.hid (HSN.out.other (b' := w.heap.size + 1) (o := 1) (by omega) (.int .i64 (MN + 1)))
            have HBM := Lib.hid ((Below.heap_setCell w5 ⟨w.heap.size + 1, 1, none⟩ (.int .i64 (MN + 1)) bp HNE.out.2).trans HBN.out)
            have HLM := Lib.hid (HLN.out.setCell (p := ⟨w.heap.size + 1, 1, none⟩) (Nat.le_succ _) (.int .i64 (MN + 1)))
            go_wp2
            go_roundw
            case rel => exact ⟨j + 1, by omega, by go_num, by rw [HEM.out.1, HEM.out.2.1]; exact HSM.out, by rw [HEM.out.2.2.1, HEM.out.2.2.2]; exact HCM.out, HLM.out, HBM.out⟩
            case measure => simp [intOf]; omega
        · have hem := em_edge (g := g) (l := L.take j) hE
          rw [← HTT.out] at hem
          have HEM := Lib.hid hem
          clear hem hE
          obtain ⟨s0, s1⟩ := HPA.out
          obtain ⟨⟨x0, x1⟩, xf0, xf1⟩ := HSA.out
          generalize eS g (L.take j) = ES at hbd HEM HSA x0
          generalize mS g (L.take j) = MS at hbd HEM HSA x1
          generalize eN g (L.take j) = EN at hbd HEM HCA
          generalize mN g (L.take j) = MN at hbd HEM HCA
          have q1 : IntKind.i64.wrap (ES + atG g p) = ES + atG g p := IntWalk.i64_in _ (by omega)
          go_wp2_with fail
          go_region_with (go_at_call 60; refine call_below (of_c _ _ g p _ (HG3.out.below (Below.refl _ _).drew) hs HPP.out.1 HPP.out.2) ?_; intro w4 hb4; have s4 := (HSA.out.below ((Below.refl _ _).drew)).below hb4; obtain ⟨⟨x4, x5⟩, x6, x7⟩ := s4)
          all_goals
            have hBB : Below w3.heap.size w3 w4 := below_next (Below.refl _ _).drew hb4
            have HSN := Lib.hid ((HSA.out.below hBB).set0 (ES + atG g p))
            have HCN := Lib.hid ((HCA.out.below hBB).other (b' := w.heap.size) (o := 0) (by omega) (.int .i64 (ES + atG g p)))
            have HBN := Lib.hid ((Below.heap_setCell w4 ⟨w.heap.size, 0, none⟩ (.int .i64 (ES + atG g p)) bp HNE.out.1).trans (blk_keep HBK.out (HB3.out.trans (hBB.mono HB3.out.size))))
            have HLN := Lib.hid ((below_next (below_next HL.out HB3.out) hBB).setCell (p := ⟨w.heap.size, 0, none⟩) (Nat.le_refl _) (.int .i64 (ES + atG g p)))
            clear hBB hb4 x0 x1 xf0 xf1 x4 x5 x6 x7 q1 s0 s1
            generalize w4.setCell ⟨w.heap.size, 0, none⟩ (.int .i64 (ES + atG g p)) = w5 at HSN HCN HBN HLN ⊢
            obtain ⟨⟨y0, y1⟩, yf0, yf1⟩ := HCN.out
            have HCM := Lib.hid (HCN.out.set0 (EN + 1))
            have HSM := Lib.hid (HSN.out.other (b' := w.heap.size + 1) (o := 0) (by omega) (.int .i64 (EN + 1)))
            have HBM := Lib.hid ((Below.heap_setCell w5 ⟨w.heap.size + 1, 0, none⟩ (.int .i64 (EN + 1)) bp HNE.out.2).trans HBN.out)
            have HLM := Lib.hid (HLN.out.setCell (p := ⟨w.heap.size + 1, 0, none⟩) (Nat.le_succ _) (.int .i64 (EN + 1)))
            go_wp2
            go_roundw
            case rel => exact ⟨j + 1, by omega, by go_num, by rw [HEM.out.1, HEM.out.2.1]; exact HSM.out, by rw [HEM.out.2.2.1, HEM.out.2.2.2]; exact HCM.out, HLM.out, HBM.out⟩
            case measure => simp [intOf]; omega
      · obtain rfl : j = L.length := by omega
        rw [HE.out] at hss hcc hbd
        obtain ⟨⟨x0, x1⟩, -⟩ := hss
        obtain ⟨⟨y0, y1⟩, -⟩ := hcc
        clear hbl hblk
        by_cases hz : mN g L = 0
        · have HF := Lib.hid (HFA.out hz)
          have hzb : (mN g L == 0) = true := by simpa using hz
          have HZ := Lib.hid hz
          clear hz
          go_wp2
          go_ret3
          exact ⟨by rw [HF.out]; rfl, HL.out⟩
        · have HF := Lib.hid (HFB.out hz)
          have hzb : (mN g L == 0) = false := by simpa using hz
          have hpos := HPOS.out
          go_wp2_with fail
          go_quiet ((go_at_call 83; exact quiet_at (divRound_c _ _ _ (by omega) (by omega) (by omega) (by omega))))
          go_wp2
          go_ret3
          exact ⟨by rw [HF.out]; rfl, below_drewN HL.out _⟩
theorem l00Min_c (a b : Int) (w : World) : Calls Try.prog 63 #[.int .i64 a, .int .i64 b] w fun e w' => e = .returned (.int .i64 (min a b)) ∧ w = w' := by
  by_cases h : a < b
  all_goals
    go_enter Try.func63, Try.ntmps63
    go_wp2
    go_ret
    exact ⟨by simp; omega, rfl⟩
/-- How far a place is from the nearest edge. -/
def deepF (i k r c : Int) : Int := min i (min (r - 1 - i) (min k (c - 1 - k)))
theorem deepF_bd {i k r c : Int} (h1 : 0 ≤ i ∧ i < r) (h2 : 0 ≤ k ∧ k < c) (hr : r ≤ 10) : 0 ≤ deepF i k r c ∧ deepF i k r c ≤ 10 := by unfold deepF; omega
theorem l08Deep_c (i k r c : Int) (w : World) (h1 : 0 ≤ i ∧ i ≤ 10) (h2 : 0 ≤ k ∧ k ≤ 10) (h3 : 0 ≤ r ∧ r ≤ 10) (h4 : 0 ≤ c ∧ c ≤ 10) :
    Calls Try.prog 65 #[.int .i64 i, .int .i64 k, .int .i64 r, .int .i64 c] w fun e w' => e = .returned (.int .i64 (deepF i k r c)) ∧ w = w' := by
  have HF := Lib.hid (show deepF i k r c = min i (min (r - 1 - i) (min k (c - 1 - k))) from rfl)
  go_enter Try.func65, Try.ntmps65
  go_wp2_with (go_at_call 63; refine call_same (l00Min_c _ _ _) ?_)
  go_ret
  exact ⟨by rw [HF.out]; rfl, rfl⟩
theorem deep_edge {g : List (List Int)} {p : Nat × Nat} (h1 : p.1 < g.length) (h2 : p.2 < (nthL g p.1).length) (hs : (nthL g p.1).length = (nthL g 0).length) : edgeB g p = decide (¬ 0 < deepF p.1 p.2 g.length (nthL g p.1).length) := by
  unfold edgeB deepF
  rw [← hs, Bool.eq_iff_iff]
  simp only [Bool.or_eq_true, decide_eq_true_eq]
  omega

set_option maxRecDepth 100000 in
set_option maxHeartbeats 1000000 in
theorem s_c (a : Option Addr) (cap : Nat) (g : List (List Int)) (w : World) (h : Grid w a g) (hs : Small g) :
    Calls Try.prog 35 #[.slice a g.length cap] w fun e w' => e = .returned (.tuple #[.int .i64 (fF g).1, .int .i64 (fF g).2.1, .int .i64 (fF g).2.2]) ∧ Below w.heap.size w w' := by
  have hn := hs.len
  cases h1 : gridB 1 200 g
  · go_enter Try.func35, Try.ntmps35
    go_wp2_with fail
    refine call_below (l08Ok_c _ _ g _ h hs) ?_
    rw [h1]
    intro w1 hb1
    go_wp2
    go_ret3
    exact ⟨by simp [fF, h1], hb1⟩
  · have ok := gridB_true h1
    have hg := ok.rows
    have HFA := Lib.hid (fun (hz : mN g (plTo g g.length) = 0) => show fF g = (0, 0, 6) by simp [fF, h1, hz])
    have HFB := Lib.hid (fun (hz : ¬ mN g (plTo g g.length) = 0) => show fF g = (rdiv (eS g (plTo g g.length)) (eN g (plTo g g.length)), rdiv (mS g (plTo g g.length)) (mN g (plTo g g.length)), 0) by simp [fF, h1, hz])
    have HV := Lib.hid (fun (p : Nat × Nat) (hp : p.1 < g.length ∧ p.2 < (nthL g p.1).length) => ok.at_ hp)
    have HLE := Lib.hid (fun j (hj : j < g.length) => ok.len hj)
    have HSM := Lib.hid ok.same
    have HBD := Lib.hid (show ∀ k c, k < g.length → c ≤ (nthL g k).length → (0 ≤ eS g (plTo g k ++ rowPl k c) ∧ eS g (plTo g k ++ rowPl k c) ≤ 110000) ∧ (0 ≤ mS g (plTo g k ++ rowPl k c) ∧ mS g (plTo g k ++ rowPl k c) ≤ 110000) ∧ (0 ≤ eN g (plTo g k ++ rowPl k c) ∧ eN g (plTo g k ++ rowPl k c) ≤ 110) ∧ (0 ≤ mN g (plTo g k ++ rowPl k c) ∧ mN g (plTo g k ++ rowPl k c) ≤ 110) from fun k c hk hc =>
      em_bd (fun p hp => by have := ok.at_ (pre_in hk hc hp); omega) (by
        have h2 := sumL_le (m := 10) (fun j hj => (ok.len hj).2) k (by omega)
        have h3 := (ok.len hk).2
        rw [List.length_append, plTo_len, rowPl_len]
        omega))
    have HBE := Lib.hid (em_bd (g := g) (l := plTo g g.length) (fun p hp => by have := ok.at_ (plTo_in (Nat.le_refl _) hp); omega) (by have := ok.places; omega))
    have HPOS := Lib.hid (eN_pos ⟨ok.rows.1, ok.cols.1⟩)
    clear ok
    go_enter Try.func35, Try.ntmps35
    go_wp2_with fail
    refine call_below (l08Ok_c _ _ g _ h hs) ?_
    rw [h1]
    clear h1
    intro w1 hb1
    have HGW := Lib.hid h
    have HB1 := Lib.hid hb1
    have HA0 := Lib.hid (show Below w1.heap.size w1 ((w1.alloc (.cells #[.int .i64 0, .int .i64 0] 2)).alloc (.cells #[.int .i64 0, .int .i64 0] 2)) from ((Below.refl _ _).alloc (Nat.le_refl _) _).alloc (by simp) _)
    have HS0 := Lib.hid (show TwoI ((w1.alloc (.cells #[.int .i64 0, .int .i64 0] 2)).alloc (.cells #[.int .i64 0, .int .i64 0] 2)) w1.heap.size 0 0 from ⟨⟨by go_cell, by go_cell⟩, by go_cell, by go_cell⟩)
    have HC0 := Lib.hid (show TwoI ((w1.alloc (.cells #[.int .i64 0, .int .i64 0] 2)).alloc (.cells #[.int .i64 0, .int .i64 0] 2)) (w1.heap.size + 1) 0 0 from ⟨⟨by go_cell, by go_cell⟩, by go_cell, by go_cell⟩)
    clear h hb1
    go_wp2
    go_loopw [7] (fun i wr => ∃ k : Nat, k ≤ g.length ∧ i = .int .i64 k ∧ TwoI wr w1.heap.size (eS g (plTo g k)) (mS g (plTo g k)) ∧ TwoI wr (w1.heap.size + 1) (eN g (plTo g k)) (mN g (plTo g k)) ∧ Below w1.heap.size w1 wr) (fun i _ => g.length - (intOf i).toNat)
    case atStart => exact ⟨0, Nat.zero_le _, rfl, HS0.out, HC0.out, HA0.out⟩
    case round =>
      clear HS0 HC0 HA0
      obtain ⟨k, hk, rfl, hss, hcc, hbl⟩ := hrel
      have HS := Lib.hid hss
      have HN := Lib.hid hcc
      have HL := Lib.hid hbl
      by_cases hlt : k < g.length
      · have hrl := HLE.out k hlt
        have hrow := hs.row hlt
        obtain ⟨b, o, rfl, hb, ar, cr, hc, hnu⟩ := (HGW.out.below (below_next HB1.out hbl)).pos hlt
        clear hss hcc hbl hnu
        obtain ⟨wo, hwo⟩ : ∃ wo : World, wo = wr := ⟨_, rfl⟩
        rw [← hwo] at HS HN HL hc hb ⊢
        clear hwo
        go_wp2_with fail
        clear hc
        go_loopw [8] (fun i wr => ∃ c : Nat, c ≤ (nthL g k).length ∧ i = .int .i64 c ∧ TwoI wr w1.heap.size (eS g (plTo g k ++ rowPl k c)) (mS g (plTo g k ++ rowPl k c)) ∧ TwoI wr (w1.heap.size + 1) (eN g (plTo g k ++ rowPl k c)) (mN g (plTo g k ++ rowPl k c)) ∧ Below w1.heap.size w1 wr) (fun i _ => (nthL g k).length - (intOf i).toNat)
        case atStart => exact ⟨0, Nat.zero_le _, rfl, by simpa [rowPl] using HS.out, by simpa [rowPl] using HN.out, HL.out⟩
        case round =>
          obtain ⟨c, hcl, rfl, hss, hcc, hbl⟩ := hrel
          have HS2 := Lib.hid hss
          have HN2 := Lib.hid hcc
          have HL2 := Lib.hid hbl
          have hbd := HBD.out k c hlt hcl
          obtain ⟨ak, ck, hc, hnu⟩ := (HGW.out.below (below_next HB1.out hbl)).at_ hlt
          clear hbl
          by_cases hct : c < (nthL g k).length
          · obtain ⟨b2, o2, rfl, hb2, hc2⟩ := hnu.pos hct
            rw [show nth (nthL g k) c = atG g (k, c) from rfl] at hc2
            have hv := HV.out (k, c) ⟨hlt, hct⟩
            have hde := deep_edge (g := g) (p := (k, c)) hlt hct (HSM.out k hlt)
            have HDE := Lib.hid hde
            have j0 : (0 : Int) ≤ (k : Int) := by omega
            have j1 : (k : Int) < g.length := by omega
            have j2 : (0 : Int) ≤ (c : Int) := by omega
            have j3 : (c : Int) < (nthL g k).length := by omega
            clear hnu hde
            cases hE : edgeB g (k, c)
            · have hdp : decide (0 < deepF k c g.length (nthL g k).length) = true := by
                have e1 := HDE.out.symm.trans hE
                simpa using e1
              have hem := em_mid (g := g) (l := plTo g k ++ rowPl k c) hE
              rw [List.append_assoc, ← rowPl_succ] at hem
              have HEM := Lib.hid hem
              clear hem hE
              obtain ⟨⟨x0, x1⟩, xf0, xf1⟩ := hss
              generalize eS g (plTo g k ++ rowPl k c) = ES at hbd HEM HS2 x0
              generalize mS g (plTo g k ++ rowPl k c) = MS at hbd HEM HS2 x1
              generalize eN g (plTo g k ++ rowPl k c) = EN at hbd HEM HN2 hcc
              generalize mN g (plTo g k ++ rowPl k c) = MN at hbd HEM HN2 hcc
              have q1 : IntKind.i64.wrap (MS + atG g (k, c)) = MS + atG g (k, c) := IntWalk.i64_in _ (by omega)
              have xd0 : wr.drew.cell? ⟨w1.heap.size, 1, none⟩ = some (.int .i64 MS) := x1
              have xdf : wr.drew.frozen? ⟨w1.heap.size, 1, none⟩ = false := xf1
              have HSD := Lib.hid (HS2.out.below (Below.refl _ _).drew)
              have HND := Lib.hid (HN2.out.below (Below.refl _ _).drew)
              have HLD := Lib.hid (show Below w1.heap.size w1 wr.drew from below_next HL2.out (Below.refl _ _).drew)
              have hzero : (0 : Int) ≤ 0 := by omega
              go_wp2_with (go_at_call 65; refine call_same (l08Deep_c _ _ _ _ _ (by omega) (by omega) (by omega) (by omega)) ?_)
              go_still_tail 13, (by kernel_rfl)
              try refine wpStill_nil ?_
              change wpList _ _ _ _ _ wr.drew
              clear x0 x1 xf0 xf1 hc hc2 hcc hdp
              generalize wr.drew = wd at xd0 xdf HSD HND HLD ⊢
              have HSN := Lib.hid (HSD.out.set1 (MS + atG g (k, c)))
              have HCN := Lib.hid (HND.out.other (b' := w1.heap.size) (o := 1) (by omega) (.int .i64 (MS + atG g (k, c))))
              have HLN := Lib.hid (HLD.out.setCell (p := ⟨w1.heap.size, 1, none⟩) (Nat.le_refl _) (.int .i64 (MS + atG g (k, c))))
              obtain ⟨⟨y0, y1⟩, yf0, yf1⟩ := HCN.out
              have HCM := Lib.hid (HCN.out.set1 (MN + 1))
              have HSM2 := Lib.hid (HSN.out.other (b' := w1.heap.size + 1) (o := 1) (by omega) (.int .i64 (MN + 1)))
              have HLM := Lib.hid (HLN.out.setCell (p := ⟨w1.heap.size + 1, 1, none⟩) (Nat.le_succ _) (.int .i64 (MN + 1)))
              go_wp2
              go_roundw
              case rel => exact ⟨c + 1, by omega, by go_num, by rw [HEM.out.1, HEM.out.2.1]; exact HSM2.out, by rw [HEM.out.2.2.1, HEM.out.2.2.2]; exact HCM.out, HLM.out⟩
              case measure => simp [intOf]; omega
            · have hdp : decide (0 < deepF k c g.length (nthL g k).length) = false := by
                have e1 := HDE.out.symm.trans hE
                simpa using e1
              have hem := em_edge (g := g) (l := plTo g k ++ rowPl k c) hE
              rw [List.append_assoc, ← rowPl_succ] at hem
              have HEM := Lib.hid hem
              clear hem hE
              obtain ⟨⟨x0, x1⟩, xf0, xf1⟩ := hss
              generalize eS g (plTo g k ++ rowPl k c) = ES at hbd HEM HS2 x0
              generalize mS g (plTo g k ++ rowPl k c) = MS at hbd HEM HS2 x1
              generalize eN g (plTo g k ++ rowPl k c) = EN at hbd HEM HN2 hcc
              generalize mN g (plTo g k ++ rowPl k c) = MN at hbd HEM HN2 hcc
              have q1 : IntKind.i64.wrap (ES + atG g (k, c)) = ES + atG g (k, c) := IntWalk.i64_in _ (by omega)
              have xd0 : wr.drew.cell? ⟨w1.heap.size, 0, none⟩ = some (.int .i64 ES) := x0
              have xdf : wr.drew.frozen? ⟨w1.heap.size, 0, none⟩ = false := xf0
              have HSD := Lib.hid (HS2.out.below (Below.refl _ _).drew)
              have HND := Lib.hid (HN2.out.below (Below.refl _ _).drew)
              have HLD := Lib.hid (show Below w1.heap.size w1 wr.drew from below_next HL2.out (Below.refl _ _).drew)
              have hzero : (0 : Int) ≤ 0 := by omega
              go_wp2_with (go_at_call 65; refine call_same (l08Deep_c _ _ _ _ _ (by omega) (by omega) (by omega) (by omega)) ?_)
              go_still_tail 13, (by kernel_rfl)
              try refine wpStill_nil ?_
              change wpList _ _ _ _ _ wr.drew
              clear x0 x1 xf0 xf1 hc hc2 hcc hdp
              generalize wr.drew = wd at xd0 xdf HSD HND HLD ⊢
              have HSN := Lib.hid (HSD.out.set0 (ES + atG g (k, c)))
              have HCN := Lib.hid (HND.out.other (b' := w1.heap.size) (o := 0) (by omega) (.int .i64 (ES + atG g (k, c))))
              have HLN := Lib.hid (HLD.out.setCell (p := ⟨w1.heap.size, 0, none⟩) (Nat.le_refl _) (.int .i64 (ES + atG g (k, c))))
              obtain ⟨⟨y0, y1⟩, yf0, yf1⟩ := HCN.out
              have HCM := Lib.hid (HCN.out.set0 (EN + 1))
              have HSM2 := Lib.hid (HSN.out.other (b' := w1.heap.size + 1) (o := 0) (by omega) (.int .i64 (EN + 1)))
              have HLM := Lib.hid (HLN.out.setCell (p := ⟨w1.heap.size + 1, 0, none⟩) (Nat.le_succ _) (.int .i64 (EN + 1)))
              go_wp2
              go_roundw
              case rel => exact ⟨c + 1, by omega, by go_num, by rw [HEM.out.1, HEM.out.2.1]; exact HSM2.out, by rw [HEM.out.2.2.1, HEM.out.2.2.2]; exact HCM.out, HLM.out⟩
              case measure => simp [intOf]; omega
          · obtain rfl : c = (nthL g k).length := by omega
            clear hnu hss hcc
            go_wp2
            go_roundw
            case rel => exact ⟨k + 1, by omega, by go_num, HS2.out, HN2.out, HL2.out⟩
            case measure => simp [intOf]; omega
      · obtain rfl : k = g.length := by omega
        have hbd := HBE.out
        obtain ⟨⟨x0, x1⟩, -⟩ := hss
        obtain ⟨⟨y0, y1⟩, -⟩ := hcc
        clear hbl
        generalize plTo g g.length = L at HFA HFB HPOS hbd HBE HS HN x0 x1 y0 y1
        by_cases hz : mN g L = 0
        · have HF := Lib.hid (HFA.out hz)
          have hzb : (mN g L == 0) = true := by simpa using hz
          have HZ := Lib.hid hz
          clear hz
          go_wp2
          go_ret3
          exact ⟨by rw [HF.out]; rfl, below_next HB1.out HL.out⟩
        · have HF := Lib.hid (HFB.out hz)
          have hzb : (mN g L == 0) = false := by simpa using hz
          have hpos := HPOS.out
          go_wp2_with fail
          go_quiet ((go_at_call 81; exact quiet_at (l01Div_c _ _ _ (by omega) (by omega) (by omega) (by omega))))
          go_wp2
          go_ret3
          exact ⟨by rw [HF.out]; rfl, below_next HB1.out (below_drewN HL.out _)⟩
theorem walk (a0 : Option Addr) (cap0 : Nat) (z0 : List (List Int)) (w : World) (h0 : Grid w a0 z0) (hm0 : z0.length ≤ maxLen) (hr0 : ∀ j, j < z0.length → (nthL z0 j).length ≤ maxLen) :
    Calls Try.prog 9 #[.slice a0 z0.length cap0] w fun e w' => e = .returned (.bool true) ∧ Below w.heap.size w w' := by
  by_cases hn0 : ((z0.length + sumL z0 z0.length : Nat) : Int) ≤ 1048576
  rotate_left
  · have HN0 := Lib.hid hn0
    clear hn0
    go_enter Try.func9, Try.ntmps9
    go_wp2_with fail
    refine call_same (szInt64SS_c a0 cap0 z0 _ _ h0 hm0 hr0 ?_ ?_) ?_
    ·  omega
    ·  omega
    rw [szF_no]
    rotate_left
    · have := HN0.out; omega
    go_wp2
    go_ret
    exact ⟨rfl, Below.refl _ _⟩
  have hS0 : Small z0 := by unfold Small; omega
  have HN0 := Lib.hid hn0
  have hq0 : (z0.length : Int) + (sumL z0 z0.length : Int) ≤ 1048576 := by omega
  clear hn0
  go_enter Try.func9, Try.ntmps9
  go_wp2_with fail
  refine call_same (szInt64SS_c a0 cap0 z0 _ _ h0 hm0 hr0 ?_ ?_) ?_
  · have := HN0.out; omega
  · have := HN0.out; omega
  rw [szF_yes]
  rotate_left
  · have := HN0.out; omega
  go_wp2_with fail
  refine call_pred (toInt64SS_c a0 cap0 z0 _ h0 hS0) ?_
  rintro w1 ⟨r1, b1⟩
  have H1 := below_next (Below.refl _ _) b1
  have S0_1 := Laid.grid r1
  clear r1
  go_wp2_with fail
  refine call_below (s_c _ _ z0 _ S0_1 hS0) ?_
  intro w2 b2
  have H2 := below_next H1 b2
  have S0_2 := S0_1.below b2
  clear S0_1
  clear S0_2
  go_wp2_with fail
  refine call_pred (toInt64SS_c a0 cap0 z0 _ (h0.below H2) hS0) ?_
  rintro w3 ⟨r3, b3⟩
  have H3 := below_next H2 b3
  have X0_3 := Laid.grid r3
  clear r3
  go_wp2_with fail
  refine call_below (i_c _ _ z0 _ X0_3 hS0) ?_
  intro w4 b4
  have H4 := below_next H3 b4
  have X0_4 := X0_3.below b4
  clear X0_3
  go_wp2_with fail
  refine call_pred (toInt64SS_c a0 cap0 z0 _ (h0.below H4) hS0) ?_
  rintro w5 ⟨r5, b5⟩
  have H5 := below_next H4 b5
  have X0_5 := X0_4.below b5
  clear X0_4
  have Y0_5 := Laid.grid r5
  clear r5
  go_wp2_with fail
  refine call_below (eqInt64SS_c _ _ _ _ z0 _ X0_5 Y0_5 hS0) ?_
  intro w6 b6
  have H6 := below_next H5 b6
  have X0_6 := X0_5.below b6
  clear X0_5
  have Y0_6 := Y0_5.below b6
  clear Y0_5
  clear X0_6 Y0_6
  go_wp2
  go_ret
  exact ⟨rfl, H6⟩

theorem own : ownKnob Try.prog.godebug = none := by kernel_rfl
theorem laidOut : laidOutB Try.prog = true := by kernel_rfl
set_option maxRecDepth 100000 in
theorem lifted (os : Os) (started : os.Started) (H : Type) (enc : TypeId × Value → H) :
    ReturnsInHanded {} Try.checked os 9 .any (Rows.fnExactEdgeAndMiddleSpec.pre6 enc Try.prog Try.f9 Rows.fnExactEdgeAndMiddleRow.domain false) (Rows.fnExactEdgeAndMiddleSpec.post enc Try.prog Try.f9 false true false false) := by
  refine returnsInHanded_of_change (C := Try.checked) own started (by kernel_rfl) Try.func9
    (ChangeSpec.witness6 (enc := enc) (C := Try.checked) false ⟨#[], #[.slice none 0 0], []⟩ 8 (by kernel_rfl) (by kernel_rfl) (by kernel_rfl) (by kernel_rfl)) ?_
  intro W base args ds gs before hval0 hW hcnd _
  have hval : ∀ (j : Nat) t v, Try.f9.params[j]? = some t → args[j]? = some v → Value.okWide Try.prog W .any base t v := hval0
  have hW' := hW
  obtain ⟨p, q, hA0, hV, rfl, hfz, hnd⟩ := hW
  have hA : DataW.TrodAll enc Try.prog W 0 (fun _ => true) true Try.f9.params.toList args.toList ds p := hA0
  rw [Try.params9] at hA hval
  obtain ⟨v0, vs0, d0, ds0, p0, q0, hargs, rfl, rfl, h0, r0⟩ := trodAll_cons hA
  obtain ⟨rfl, rfl, rfl⟩ := trodAll_nil r0
  obtain rfl : args = #[v0] := by cases args; simp_all
  obtain ⟨rfl, rfl⟩ := trodVars_none hV
  have k0 := h0
  have lt0 : ∀ x ∈ p0, x.block < W.heap.size := by obtain ⟨m, hm⟩ := k0; exact DataW.trod_lt m _ _ _ hm
  obtain ⟨a0, len0, cap0, rfl⟩ := okWide_slice Try.underlying22 (hval 0 22 v0 rfl rfl)
  obtain ⟨z0, rfl, w0, m0, f0⟩ : ∃ g : List (List Int), g.length = len0 ∧ Grid W a0 g ∧ g.length ≤ maxLen ∧ ∀ j, j < g.length → (nthL g j).length ≤ maxLen := by
    obtain ⟨fuel, hf⟩ := h0
    exact grid_open Try.underlying22 Try.underlying32 Try.underlying2 (by kernel_rfl) (by kernel_rfl) hf
  clear hA0 hval0
  refine (walk a0 cap0 z0 W w0 m0 f0).mono fun e W' ⟨he, bel⟩ => ?_
  subst he
  exact ⟨_, rfl, _, _, _, [], _, [], hW', trodAll_mk1 (shut_bool Try.underlying4 _), (trodAll_cons_mk (Below.trod laidOut (by kernel_rfl) (of_decide_eq_true (by kernel_rfl)) k0 bel lt0) trodAll_mk0), rfl, bel.frame _, fun h => by cases h⟩

theorem over : Rows.fnExactEdgeAndMiddleRow.holds Try.pinned (OpenSpec.ofChange Rows.fnExactEdgeAndMiddleSpec) :=
  OpenClaim.holds_of_wide 9 Try.f9 rfl rfl rfl rfl rfl rfl rfl ⟨rfl, rfl, rfl, rfl, rfl⟩ rfl rfl rfl rfl rfl (by kernel_rfl) Try.func9 (by kernel_rfl)
    (of_decide_eq_true (by kernel_rfl)) (by unfold Func.isWrapper; first | (rw [if_pos (by decide +kernel)]; kernel_rfl) | (rw [if_neg (by decide +kernel)]; exact ⟨rfl, rfl⟩))
    (fun os started H enc _ => lifted os started H enc)

/-- THE STATEMENT. -/
theorem proved : Rows.FnExactEdgeAndMiddleSaid := over
#print axioms proved
end Go.Proofs.Ytejcglenjhkhhaa.lawEdgeAndMiddle
