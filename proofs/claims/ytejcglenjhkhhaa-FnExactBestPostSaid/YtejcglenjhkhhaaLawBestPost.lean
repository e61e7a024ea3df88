/- The program's BestPost returns what the reference's returns, for all arguments. No condition. -/
import Derived.Test.YtejcglenjhkhhaaRows
import Derived.Test.YtejcglenjhkhhaaChosen
import Derived.Test.YtejcglenjhkhhaaSteep
import Derived.OpenShut
import Derived.ChangeOld
import Derived.Lib.SmallJoins
namespace Go.Proofs.Ytejcglenjhkhhaa.lawBestPost
open Go.ChangeShapes Go.WideShapes Go.ChangeAt Go.RowKit
set_option linter.unusedVariables false

def rowR (r : List Int) : Bool := inB r.length 1 8 && r.all (inB · 0 1000)
/-- Whether rings are as stated. -/
def ringB (g : List (List Int)) : Bool := g.all rowR && inB g.length 1 8
theorem rowR_true {r : List Int} (h : rowR r = true) : (1 ≤ r.length ∧ r.length ≤ 8) ∧ ∀ i, i < r.length → 0 ≤ nth r i ∧ nth r i ≤ 1000 := by
  simp only [rowR, Bool.and_eq_true] at h
  have h1 := inB_true h.1
  exact ⟨by omega, fun i hi => inB_true (all_nth h.2 hi)⟩
theorem ring_rows {g : List (List Int)} (h : ringB g = true) : (1 ≤ g.length ∧ g.length ≤ 8) ∧ ∀ j, j < g.length → rowR (nthL g j) = true := by
  simp only [ringB, Bool.and_eq_true] at h
  have h1 := inB_true h.2
  exact ⟨by omega, fun j hj => allL_nth h.1 hj⟩
theorem isPart_c (n : Int) (w : World) : Calls Try.prog 115 #[.int .i64 n] w fun e w' => e = .returned (.bool (inB n 0 1000)) ∧ w = w' := by
  go_enter Try.func115, Try.ntmps115
  go_wp2_with (go_at_call 66; refine call_same (within_c _ _ _ _) ?_)
  go_ret
  exact ⟨rfl, rfl⟩
theorem l12Way_c (n : Int) (w : World) : Calls Try.prog 56 #[.int .i64 n] w fun e w' => e = .returned (.bool (inB n 0 1000)) ∧ w = w' := by
  go_enter Try.func56, Try.ntmps56
  go_wp2_with (go_at_call 61; refine call_same (l00In_c _ _ _ _) ?_)
  go_ret
  exact ⟨rfl, rfl⟩
theorem areRings_c (a : Option Addr) (cap : Nat) (g : List (List Int)) (w : World) (h : Grid w a g) (hs : Small g) :
    Calls Try.prog 58 #[.slice a g.length cap] w fun e w' => e = .returned (.bool (ringB g)) ∧ w = w' := by
  have hn := hs.len
  go_enter Try.func58, Try.ntmps58
  go_wp2
  go_loop [9] (fun i => ∃ k : Nat, k ≤ g.length ∧ i = .int .i64 k ∧ NAll (fun j => rowR (nthL g j)) k) (fun i => g.length - (intOf i).toNat)
  case atStart => exact ⟨0, Nat.zero_le _, rfl, NAll.zero _⟩
  case round =>
    obtain ⟨k, hk, rfl, hall⟩ := hrel
    have HALL := Lib.hid hall
    clear hall
    by_cases hlt : k < g.length
    · obtain ⟨b, o, rfl, hb, ak, ck, hc, hnu⟩ := h.pos hlt
      have hlk := hs.row hlt
      cases hL : inB (nthL g k).length 1 8
      · have HF := Lib.hid (show ringB g = false by rw [ringB, allL_not (q := rowR) hlt (by rw [rowR, hL]; rfl)]; rfl)
        go_wp2_with fail
        refine call_same (within_c _ _ _ _) ?_
        rw [hL]
        go_wp2
        go_ret
        exact ⟨by rw [HF.out]; rfl, rfl⟩
      · have HL := Lib.hid hL
        have HNU := Lib.hid hnu
        clear hnu
        go_wp2_with fail
        refine call_same (within_c _ _ _ _) ?_
        rw [hL]
        clear hL
        go_wp2
        go_loop [19] (fun i => ∃ m : Nat, m ≤ (nthL g k).length ∧ i = .int .i64 m ∧ AllTo (inB · 0 1000) (nthL g k) m) (fun i => (nthL g k).length - (intOf i).toNat)
        case atStart => exact ⟨0, Nat.zero_le _, rfl, AllTo.zero _ _⟩
        case round =>
          obtain ⟨m, hm, rfl, hal⟩ := hrel
          have HAL := Lib.hid hal
          clear hal hc
          by_cases hml : m < (nthL g k).length
          · obtain ⟨b2, o2, rfl, _, hc2⟩ := HNU.out.pos hml
            cases hv : inB (nth (nthL g k) m) 0 1000
            · have HF := Lib.hid (show ringB g = false by rw [ringB, allL_not (q := rowR) hlt (by rw [rowR, all_not (p := (inB · 0 1000)) hml hv, Bool.and_false])]; rfl)
              go_wp2_with (go_at_call 115; refine call_same (isPart_c _ _) ?_)
              go_ret
              exact ⟨by rw [HF.out]; rfl, rfl⟩
            · go_wp2_with (go_at_call 115; refine call_same (isPart_c _ _) ?_)
              go_round
              case rel => exact ⟨m + 1, by omega, by go_num, HAL.out.step hv⟩
              case measure => simp [intOf]; omega
          · obtain rfl : m = (nthL g k).length := by omega
            go_wp2
            go_round
            case rel => exact ⟨k + 1, by omega, by go_num, HALL.out.step (by rw [rowR, HAL.out.all, HL.out]; rfl)⟩
            case measure => simp [intOf]; omega
    · obtain rfl : k = g.length := by omega
      have HF := Lib.hid (show ringB g = inB g.length 1 8 by rw [ringB, HALL.out.all]; rfl)
      go_wp2_with fail
      refine call_same (within_c _ _ _ _) ?_
      rw [← HF.out]
      go_wp2
      go_ret
      exact ⟨rfl, rfl⟩

/-- The greatest of some places, the first of them where several are. -/
def bestOf (g : List (List Int)) (l : List (Nat × Nat)) : Nat × Nat := l.foldl (fun b p => if atG g b < atG g p then p else b) (0, 0)
theorem best_snoc (g : List (List Int)) (l : List (Nat × Nat)) (p : Nat × Nat) : bestOf g (l ++ [p]) = if atG g (bestOf g l) < atG g p then p else bestOf g l := by rw [bestOf, List.foldl_append]; rfl
theorem best_take {g : List (List Int)} {l : List (Nat × Nat)} {j : Nat} (h : j < l.length) : bestOf g (l.take (j + 1)) = if atG g (bestOf g (l.take j)) < atG g (l.getD j (0, 0)) then l.getD j (0, 0) else bestOf g (l.take j) := by
  rw [List.take_succ_eq_append_getElem h, best_snoc, show l[j] = l.getD j (0, 0) by simp [List.getD_eq_getElem?_getD, h]]
theorem best_in {g : List (List Int)} {P : Nat × Nat → Prop} (h0 : P (0, 0)) : ∀ {l : List (Nat × Nat)} {b : Nat × Nat}, P b → (∀ p ∈ l, P p) → P (l.foldl (fun b p => if atG g b < atG g p then p else b) b)
  | [], b, hb, _ => hb
  | p :: l, b, hb, h => by
    rw [List.foldl_cons]
    refine best_in h0 ?_ fun q hq => h q (List.mem_cons_of_mem _ hq)
    split
    · exact h p (List.mem_cons_self ..)
    · exact hb
def fF (g : List (List Int)) : Int × Int × Int := if ringB g then ((((bestOf g (plTo g g.length)).1 : Nat) : Int), (((bestOf g (plTo g g.length)).2 : Nat) : Int), (0 : Int)) else (0, 0, 2)
/-- Two cells of a block that may be written. -/
def Two (w : World) (b : Nat) (p : Nat × Nat) : Prop := (w.cell? ⟨b, 0, none⟩ = some (.int .i64 p.1) ∧ w.cell? ⟨b, 1, none⟩ = some (.int .i64 p.2)) ∧ w.frozen? ⟨b, 0, none⟩ = false ∧ w.frozen? ⟨b, 1, none⟩ = false
theorem Two.below {w w' : World} {b : Nat} {p : Nat × Nat} (h : Two w b p) (hb : Below w.heap.size w w') : Two w' b p := by
  have hlt := World.block_lt_of_cell? w _ h.1.1
  exact ⟨keepP h.1 hb, (hb.frozen (p := ⟨b, 0, none⟩) hlt).trans h.2.1, (hb.frozen (p := ⟨b, 1, none⟩) hlt).trans h.2.2⟩
theorem Two.set {w : World} {b : Nat} {p q : Nat × Nat} (h : Two w b p) : Two ((w.setCell ⟨b, 0, none⟩ (.int .i64 q.1)).setCell ⟨b, 1, none⟩ (.int .i64 q.2)) b q := by
  refine ⟨⟨?_, ?_⟩, by simpa using h.2.1, by simpa using h.2.2⟩
  · rw [World.cell?_setCell_other _ _ _ _ (by simp)]
    exact World.cell?_setCell_same _ _ _ h.1.1
  · exact World.cell?_setCell_same _ _ _ ((World.cell?_setCell_other _ _ _ _ (by simp)).trans h.1.2)

set_option maxRecDepth 100000 in
theorem i_c (a : Option Addr) (cap : Nat) (g : List (List Int)) (w : World) (h : Grid w a g) (hs : Small g) :
    Calls Try.prog 18 #[.slice a g.length cap] w fun e w' => e = .returned (.tuple #[.int .i64 (fF g).1, .int .i64 (fF g).2.1, .int .i64 (fF g).2.2]) ∧ Below w.heap.size w w' := by
  cases h1 : ringB g
  · go_enter Try.func18, Try.ntmps18
    go_wp2_with fail
    refine call_same (areRings_c _ _ g _ h hs) ?_
    rw [h1]
    go_wp2
    go_ret3
    exact ⟨by simp [fF, h1], Below.refl _ _⟩
  · have HF := Lib.hid (show fF g = ((((bestOf g (plTo g g.length)).1 : Nat) : Int), (((bestOf g (plTo g g.length)).2 : Nat) : Int), (0 : Int)) by simp [fF, h1])
    have hrr := ring_rows h1
    have HP := Lib.hid (fun j (hj : j < (plTo g g.length).length) => place_ok hj)
    have HIN := Lib.hid (show ∀ j, (bestOf g ((plTo g g.length).take j)).1 < g.length ∧ (bestOf g ((plTo g g.length).take j)).2 < (nthL g (bestOf g ((plTo g g.length).take j)).1).length from fun j => by
      have h00 : (0 : Nat) < g.length ∧ 0 < (nthL g 0).length := ⟨hrr.1.1, (rowR_true (hrr.2 0 (by omega))).1.1⟩
      exact best_in (P := fun p => p.1 < g.length ∧ p.2 < (nthL g p.1).length) h00 h00 fun p hp => plTo_in (Nat.le_refl _) (List.mem_of_mem_take hp))
    have hll : (plTo g g.length).length ≤ 1048576 := by
      have hS := hs
      unfold Small at hS
      rw [plTo_len]; omega
    have HT := Lib.hid (fun j (hj : j < (plTo g g.length).length) => best_take (g := g) hj)
    have HE := Lib.hid (show bestOf g ((plTo g g.length).take (plTo g g.length).length) = bestOf g (plTo g g.length) by rw [List.take_length])
    have h00 : bestOf g ((plTo g g.length).take 0) = (0, 0) := by simp [bestOf]
    clear hrr
    go_enter Try.func18, Try.ntmps18
    go_wp2_with fail
    refine call_same (areRings_c _ _ g _ h hs) ?_
    rw [h1]
    clear h1
    go_wp2_with fail
    have HA0 := Lib.hid (show Below w.heap.size w (w.alloc (.cells #[.int .i64 0, .int .i64 0] 67)) from (Below.refl _ _).alloc (Nat.le_refl _) _)
    have HT0 := Lib.hid (show Two (w.alloc (.cells #[.int .i64 0, .int .i64 0] 67)) w.heap.size (0, 0) from ⟨⟨by go_cell, by go_cell⟩, by go_cell, by go_cell⟩)
    refine (places_c _ _ g _ (h.below HA0.out) hs).mono ?_
    rintro e w2 ⟨v, rfl, hown, hnn, hb2⟩
    obtain ⟨bp, cp, cur, rfl, hblk, hcell⟩ := own_form2 hown hnn
    have HNE := Lib.hid (show bp ≠ w.heap.size from by
      have := (hown.lt bp rfl).1
      simp at this; omega)
    have HC := Lib.hid hcell
    have HG := Lib.hid h
    have HB2 := Lib.hid (below_next HA0.out hb2)
    have HT2 := Lib.hid (HT0.out.below hb2)
    have HBK := Lib.hid hblk
    clear hown hnn hcell hb2 HT0 hblk h HA0
    generalize plTo g g.length = L at HP HC HF HT HE HIN hll h00 ⊢
    go_wp2
    go_loopw [15] (fun i wr => ∃ j : Nat, j ≤ L.length ∧ i = .int .i64 j ∧ Two wr w.heap.size (bestOf g (L.take j)) ∧ Below w.heap.size w wr ∧ wr.heap[bp]? = some (.cells cur 67 (0, 0))) (fun i _ => L.length - (intOf i).toNat)
    case atStart => exact ⟨0, Nat.zero_le _, rfl, by rw [h00]; exact HT2.out, HB2.out, HBK.out⟩
    case round =>
      clear HT2 HBK h00
      obtain ⟨j, hj', rfl, htwo, hbl, hblk⟩ := hrel
      have HW := Lib.hid htwo
      have HL := Lib.hid hbl
      have HBK := Lib.hid hblk
      by_cases hlt : j < L.length
      · have hP := HP.out j hlt
        have hC := HC.out wr hblk j hlt
        have hT := HT.out j hlt
        have hI := HIN.out j
        generalize L.getD j (0, 0) = p at hT hP hC
        generalize bestOf g (L.take j) = q at hT hI HW htwo
        obtain ⟨c0, c1⟩ := hC
        have HPP := Lib.hid hP
        have HQQ := Lib.hid hI
        have HTT := Lib.hid hT
        clear hbl hT hP hI hblk htwo
        have HA := Lib.hid (show Below wr.heap.size wr (wr.alloc (.cells #[.int .i64 p.1, .int .i64 p.2] 67)) from (Below.refl _ _).alloc (Nat.le_refl _) _)
        have e0 : (wr.alloc (.cells #[.int .i64 p.1, .int .i64 p.2] 67)).cell? ⟨wr.heap.size, 0, none⟩ = some (.int .i64 p.1) := by go_cell
        have e1 : (wr.alloc (.cells #[.int .i64 p.1, .int .i64 p.2] 67)).cell? ⟨wr.heap.size, 1, none⟩ = some (.int .i64 p.2) := by go_cell
        have HWA := Lib.hid (HW.out.below HA.out)
        have HQ := Lib.hid (And.intro HWA.out.1 (And.intro e0 e1))
        have HGX := Lib.hid ((HG.out.below HL.out).below HA.out)
        have HZ := Lib.hid HL.out.size
        clear e0 e1
        by_cases hless : atG g q < atG g p
        · have HU := Lib.hid (show bestOf g (L.take (j + 1)) = p by rw [HTT.out, if_pos hless])
          have hd : decide (atG g q < atG g p) = true := decide_eq_true hless
          go_wp2_with fail
          clear c0 c1
          generalize wr.alloc (.cells #[.int .i64 p.1, .int .i64 p.2] 67) = wA at HA HWA HQ HGX ⊢
          go_region_held3 (fun w' => w'.cell? ⟨w.heap.size, 0, none⟩ = some (.int .i64 q.1) ∧ w'.cell? ⟨w.heap.size, 1, none⟩ = some (.int .i64 q.2) ∧ w'.cell? ⟨wr.heap.size, 0, none⟩ = some (.int .i64 p.1) ∧ w'.cell? ⟨wr.heap.size, 1, none⟩ = some (.int .i64 p.2) ∧ Below wA.heap.size wA w')
            (first | exact keepPQ HQ.out (Below.refl _ _).drew | exact keepPQ HQ.out (below_next (Below.refl _ _).drew hb4) | exact keepPQ HQ.out (below_next (below_next (Below.refl _ _).drew hb4) hb5) | go_keep)
            (first | (go_at_call 60; refine call_below (of_c _ _ _ _ _ ?_ hs ?_ ?_) ?_; (first | exact HGX.out.below (Below.refl _ _).drew | exact HGX.out.below (below_next (Below.refl _ _).drew hb4)); (first | exact HPP.out.1 | exact HQQ.out.1); (first | exact HPP.out.2 | exact HQQ.out.2); (first | (have hx := hb4; clear hx; intro w5 hb5) | intro w4 hb4)))
          have HBX := Lib.hid (show Below wA.heap.size wA w5 from below_next (below_next (Below.refl _ _).drew hb4) hb5)
          have HWX := Lib.hid (HWA.out.below HBX.out)
          have f0 := HWX.out.2.1
          have f1 := HWX.out.2.2
          have HWN := Lib.hid (HWX.out.set (q := p))
          have HLN := Lib.hid (((below_next HL.out (below_next HA.out HBX.out)).setCell (p := ⟨w.heap.size, 0, none⟩) (Nat.le_refl _) (.int .i64 p.1)).setCell (p := ⟨w.heap.size, 1, none⟩) (Nat.le_refl _) (.int .i64 p.2))
          have HBN := Lib.hid (show ((w5.setCell ⟨w.heap.size, 0, none⟩ (.int .i64 p.1)).setCell ⟨w.heap.size, 1, none⟩ (.int .i64 p.2)).heap[bp]? = some (.cells cur 67 (0, 0)) from
            (Below.heap_setCell _ _ _ _ (HNE.out)).trans ((Below.heap_setCell _ _ _ _ (HNE.out)).trans (blk_keep HBK.out (below_next HA.out HBX.out))))
          clear hb4 hb5 hd hless
          go_wp2
          go_roundw
          case rel => exact ⟨j + 1, by omega, by go_num, by rw [HU.out]; exact HWN.out, HLN.out, HBN.out⟩
          case measure => simp [intOf]; omega
        · have HU := Lib.hid (show bestOf g (L.take (j + 1)) = q by rw [HTT.out, if_neg hless])
          have hd : decide (atG g q < atG g p) = false := decide_eq_false hless
          go_wp2_with fail
          clear c0 c1
          generalize wr.alloc (.cells #[.int .i64 p.1, .int .i64 p.2] 67) = wA at HA HWA HQ HGX ⊢
          go_region_held3 (fun w' => w'.cell? ⟨w.heap.size, 0, none⟩ = some (.int .i64 q.1) ∧ w'.cell? ⟨w.heap.size, 1, none⟩ = some (.int .i64 q.2) ∧ w'.cell? ⟨wr.heap.size, 0, none⟩ = some (.int .i64 p.1) ∧ w'.cell? ⟨wr.heap.size, 1, none⟩ = some (.int .i64 p.2) ∧ Below wA.heap.size wA w')
            (first | exact keepPQ HQ.out (Below.refl _ _).drew | exact keepPQ HQ.out (below_next (Below.refl _ _).drew hb4) | exact keepPQ HQ.out (below_next (below_next (Below.refl _ _).drew hb4) hb5) | go_keep)
            (first | (go_at_call 60; refine call_below (of_c _ _ _ _ _ ?_ hs ?_ ?_) ?_; (first | exact HGX.out.below (Below.refl _ _).drew | exact HGX.out.below (below_next (Below.refl _ _).drew hb4)); (first | exact HPP.out.1 | exact HQQ.out.1); (first | exact HPP.out.2 | exact HQQ.out.2); (first | (have hx := hb4; clear hx; intro w5 hb5) | intro w4 hb4)))
          have HBX := Lib.hid (show Below wA.heap.size wA w5 from below_next (below_next (Below.refl _ _).drew hb4) hb5)
          have HWN := Lib.hid (HWA.out.below HBX.out)
          have HLN := Lib.hid (below_next HL.out (below_next HA.out HBX.out))
          have HBN := Lib.hid (blk_keep HBK.out (below_next HA.out HBX.out))
          clear hb4 hb5 hd hless
          go_wp2
          go_roundw
          case rel => exact ⟨j + 1, by omega, by go_num, by rw [HU.out]; exact HWN.out, HLN.out, HBN.out⟩
          case measure => simp [intOf]; omega
      · obtain rfl : j = L.length := by omega
        rw [HE.out] at htwo
        obtain ⟨⟨d0, d1⟩, -⟩ := htwo
        clear hbl hblk
        go_wp2_with fail
        go_quiet (fail)
        go_wp2
        go_ret3
        exact ⟨by rw [HF.out]; rfl, below_drewN HL.out _⟩

set_option maxRecDepth 100000 in
theorem s_c (a : Option Addr) (cap : Nat) (g : List (List Int)) (w : World) (h : Grid w a g) (hs : Small g) :
    Calls Try.prog 16 #[.slice a g.length cap] w fun e w' => e = .returned (.tuple #[.int .i64 (fF g).1, .int .i64 (fF g).2.1, .int .i64 (fF g).2.2]) ∧ Below w.heap.size w w' := by
  have hn := hs.len
  have HBAD := Lib.hid (fun (hb : ringB g = false) => show fF g = (0, 0, 2) by simp [fF, hb])
  by_cases t1 : g.length < 1
  · have HF := Lib.hid (HBAD.out (by rw [ringB, show inB g.length 1 8 = false by simp [inB]; omega, Bool.and_false]))
    have d1 : decide ((g.length : Int) < 1) = true := decide_eq_true (by omega)
    clear t1
    go_enter Try.func16, Try.ntmps16
    go_wp2
    go_ret3
    exact ⟨by rw [HF.out]; rfl, Below.refl _ _⟩
  have d1 : decide ((g.length : Int) < 1) = false := decide_eq_false (by omega)
  by_cases t2 : 8 < g.length
  · have HF := Lib.hid (HBAD.out (by rw [ringB, show inB g.length 1 8 = false by simp [inB]; omega, Bool.and_false]))
    have d2 : decide ((8 : Int) < (g.length : Int)) = true := decide_eq_true (by omega)
    go_enter Try.func16, Try.ntmps16
    go_wp2
    go_ret3
    exact ⟨by rw [HF.out]; rfl, Below.refl _ _⟩
  have d2 : decide ((8 : Int) < (g.length : Int)) = false := decide_eq_false (by omega)
  have HGOOD := Lib.hid (fun (hb : g.all rowR = true) => show fF g = ((((bestOf g (plTo g g.length)).1 : Nat) : Int), (((bestOf g (plTo g g.length)).2 : Nat) : Int), (0 : Int)) by
    have : ringB g = true := by rw [ringB, hb, show inB g.length 1 8 = true by simp [inB]; omega]; rfl
    simp [fF, this])
  have HG := Lib.hid h
  have h00 : bestOf g [] = (0, 0) := rfl
  have H00 := Lib.hid h00
  clear h h00
  go_enter Try.func16, Try.ntmps16
  go_wp2
  clear d1 d2
  go_loopw [5, 6, 7] (fun x y i wr => ∃ k : Nat, k ≤ g.length ∧ i = .int .i64 k ∧ x = .int .i64 (bestOf g (plTo g k)).1 ∧ y = .int .i64 (bestOf g (plTo g k)).2 ∧ NAll (fun j => rowR (nthL g j)) k ∧ Drawn w wr) (fun _ _ i _ => g.length - (intOf i).toNat)
  case atStart => exact ⟨0, Nat.zero_le _, rfl, rfl, rfl, NAll.zero _, Drawn.refl _⟩
  case round =>
    obtain ⟨k, hk, rfl, rfl, rfl, hall, hdr⟩ := hrel
    have HALL := Lib.hid hall
    have HD := Lib.hid hdr
    clear hall
    by_cases hlt : k < g.length
    · obtain ⟨b, o, rfl, hb, ar, cr, hc, hnu⟩ := (HG.out.below hdr.below).pos hlt
      have hrow := hs.row hlt
      clear hnu hdr
      obtain ⟨wo, hwo⟩ : ∃ wo : World, wo = wr := ⟨_, rfl⟩
      rw [← hwo] at HD hc hb ⊢
      clear hwo
      generalize hB : bestOf g (plTo g k) = B
      have HBE := Lib.hid hB
      clear hB
      by_cases s1 : (nthL g k).length < 1
      · have HF := Lib.hid (HBAD.out (by rw [ringB, allL_not (q := rowR) hlt (by rw [rowR, show inB (nthL g k).length 1 8 = false by simp [inB]; omega]; rfl)]; rfl))
        have e1 : decide (((nthL g k).length : Int) < 1) = true := decide_eq_true (by omega)
        clear s1
        go_wp2
        go_ret3
        exact ⟨by rw [HF.out]; rfl, HD.out.below⟩
      have e1 : decide (((nthL g k).length : Int) < 1) = false := decide_eq_false (by omega)
      by_cases s2 : 8 < (nthL g k).length
      · have HF := Lib.hid (HBAD.out (by rw [ringB, allL_not (q := rowR) hlt (by rw [rowR, show inB (nthL g k).length 1 8 = false by simp [inB]; omega]; rfl)]; rfl))
        have e2 : decide ((8 : Int) < ((nthL g k).length : Int)) = true := decide_eq_true (by omega)
        go_wp2
        go_ret3
        exact ⟨by rw [HF.out]; rfl, HD.out.below⟩
      have e2 : decide ((8 : Int) < ((nthL g k).length : Int)) = false := decide_eq_false (by omega)
      have HLK := Lib.hid (show inB (nthL g k).length 1 8 = true by simp [inB]; omega)
      have HIN := Lib.hid (show ∀ c, c ≤ (nthL g k).length → (bestOf g (plTo g k ++ rowPl k c)).1 < g.length ∧ (bestOf g (plTo g k ++ rowPl k c)).2 < (nthL g (bestOf g (plTo g k ++ rowPl k c)).1).length from fun c hc => by
        have h00 : (0 : Nat) < g.length ∧ 0 < (nthL g 0).length := by
          refine ⟨by omega, ?_⟩
          by_cases hk0 : k = 0
          · rw [← hk0]; omega
          · have := (rowR_true (HALL.out 0 (by omega))).1.1
            omega
        exact best_in (P := fun p => p.1 < g.length ∧ p.2 < (nthL g p.1).length) h00 h00 fun p hp => pre_in hlt hc hp)
      go_wp2_with fail
      clear e1 e2 hc
      go_loopw [5, 6, 8] (fun x y i wr => ∃ c : Nat, c ≤ (nthL g k).length ∧ i = .int .i64 c ∧ x = .int .i64 (bestOf g (plTo g k ++ rowPl k c)).1 ∧ y = .int .i64 (bestOf g (plTo g k ++ rowPl k c)).2 ∧ AllTo (inB · 0 1000) (nthL g k) c ∧ Drawn w wr) (fun _ _ i _ => (nthL g k).length - (intOf i).toNat)
      case atStart => exact ⟨0, Nat.zero_le _, rfl, by simp [rowPl, HBE.out], by simp [rowPl, HBE.out], AllTo.zero _ _, HD.out⟩
      case round =>
        obtain ⟨c, hcl, rfl, rfl, rfl, hal, hdr⟩ := hrel
        have HAL := Lib.hid hal
        have HD2 := Lib.hid hdr
        clear hal
        have hin := HIN.out c hcl
        obtain ⟨ak, ck, hc, hnu⟩ := (HG.out.below hdr.below).at_ hlt
        by_cases hct : c < (nthL g k).length
        · obtain ⟨b2, o2, rfl, hb2, hc2⟩ := hnu.pos hct
          cases hv : inB (nth (nthL g k) c) 0 1000
          · have HF := Lib.hid (HBAD.out (by rw [ringB, allL_not (q := rowR) hlt (by rw [rowR, all_not (p := (inB · 0 1000)) hct hv, Bool.and_false])]; rfl))
            clear hdr hnu
            go_wp2_with fail
            refine call_same (l12Way_c _ _) ?_
            rw [hv]
            go_wp2
            go_ret3
            exact ⟨by rw [HF.out]; rfl, HD2.out.below⟩
          · have hsn := best_snoc g (plTo g k ++ rowPl k c) (k, c)
            rw [List.append_assoc, ← rowPl_succ] at hsn
            have HSN := Lib.hid hsn
            clear hsn
            generalize bestOf g (plTo g k ++ rowPl k c) = q at hin HSN ⊢
            obtain ⟨aq, cq, hcq, hnq⟩ := (HG.out.below hdr.below).at_ hin.1
            have hrq := hs.row hin.1
            obtain ⟨b3, o3, rfl, hb3, hc3⟩ := hnq.pos hin.2
            have HALN := Lib.hid (HAL.out.step hv)
            have j0 : (0 : Int) ≤ (k : Int) := by omega
            have j1 : (k : Int) < (g.length : Int) := by omega
            have j2 : (0 : Int) ≤ (c : Int) := by omega
            have j3 : (c : Int) < ((nthL g k).length : Int) := by omega
            have j4 : (0 : Int) ≤ (q.1 : Int) := by omega
            have j5 : (q.1 : Int) < (g.length : Int) := by omega
            have j6 : (0 : Int) ≤ (q.2 : Int) := by omega
            have j7 : (q.2 : Int) < ((nthL g q.1).length : Int) := by omega
            clear hdr hnu hnq
            by_cases hless : nth (nthL g q.1) q.2 < nth (nthL g k) c
            · have HU := Lib.hid (show bestOf g (plTo g k ++ rowPl k (c + 1)) = (k, c) by rw [HSN.out]; exact if_pos hless)
              have hd : decide (nth (nthL g q.1) q.2 < nth (nthL g k) c) = true := decide_eq_true hless
              go_wp2_with fail
              refine call_same (l12Way_c _ _) ?_
              rw [hv]
              clear hv
              go_wp2_with fail
              go_quiet (fail)
              go_wp2
              go_roundw
              case rel => exact ⟨c + 1, by omega, by go_num, by rw [HU.out], by rw [HU.out], HALN.out, HD2.out.step _⟩
              case measure => simp [intOf]; omega
            · have HU := Lib.hid (show bestOf g (plTo g k ++ rowPl k (c + 1)) = q by rw [HSN.out]; exact if_neg hless)
              have hd : decide (nth (nthL g q.1) q.2 < nth (nthL g k) c) = false := decide_eq_false hless
              go_wp2_with fail
              refine call_same (l12Way_c _ _) ?_
              rw [hv]
              clear hv
              go_wp2_with fail
              go_quiet (fail)
              go_wp2
              go_roundw
              case rel => exact ⟨c + 1, by omega, by go_num, by rw [HU.out], by rw [HU.out], HALN.out, HD2.out.step _⟩
              case measure => simp [intOf]; omega
        · obtain rfl : c = (nthL g k).length := by omega
          clear hdr hnu
          go_wp2
          go_roundw
          case rel => exact ⟨k + 1, by omega, by go_num, rfl, rfl, HALL.out.step (by rw [rowR, HAL.out.all, HLK.out]; rfl), HD2.out⟩
          case measure => simp [intOf]; omega
    · obtain rfl : k = g.length := by omega
      have HF := Lib.hid (HGOOD.out HALL.out.all)
      clear hdr
      go_wp2
      go_ret3
      exact ⟨by rw [HF.out]; rfl, HD.out.below⟩
theorem walk (a0 : Option Addr) (cap0 : Nat) (z0 : List (List Int)) (w : World) (h0 : Grid w a0 z0) (hm0 : z0.length ≤ maxLen) (hr0 : ∀ j, j < z0.length → (nthL z0 j).length ≤ maxLen) :
    Calls Try.prog 3 #[.slice a0 z0.length cap0] w fun e w' => e = .returned (.bool true) ∧ Below w.heap.size w w' := by
  by_cases hn0 : ((z0.length + sumL z0 z0.length : Nat) : Int) ≤ 1048576
  rotate_left
  · have HN0 := Lib.hid hn0
    clear hn0
    go_enter Try.func3, Try.ntmps3
    go_wp2_with fail
    refine call_same (szInt64SS_c a0 cap0 z0 _ _ h0 hm0 hr0 ?_ ?_) ?_
    ·  omega
    ·  omega
    rw [szF_no]
    rotate_left
    · have := HN0.out; omega
    go_wp2
    go_ret
    exact ⟨rfl, Below.refl _ _⟩
  have hS0 : Small z0 := by unfold Small; omega
  have HN0 := Lib.hid hn0
  have hq0 : (z0.length : Int) + (sumL z0 z0.length : Int) ≤ 1048576 := by omega
  clear hn0
  go_enter Try.func3, Try.ntmps3
  go_wp2_with fail
  refine call_same (szInt64SS_c a0 cap0 z0 _ _ h0 hm0 hr0 ?_ ?_) ?_
  · have := HN0.out; omega
  · have := HN0.out; omega
  rw [szF_yes]
  rotate_left
  · have := HN0.out; omega
  go_wp2_with fail
  refine call_pred (toInt64SS_c a0 cap0 z0 _ h0 hS0) ?_
  rintro w1 ⟨r1, b1⟩
  have H1 := below_next (Below.refl _ _) b1
  have S0_1 := Laid.grid r1
  clear r1
  go_wp2_with fail
  refine call_below (s_c _ _ z0 _ S0_1 hS0) ?_
  intro w2 b2
  have H2 := below_next H1 b2
  have S0_2 := S0_1.below b2
  clear S0_1
  clear S0_2
  go_wp2_with fail
  refine call_pred (toInt64SS_c a0 cap0 z0 _ (h0.below H2) hS0) ?_
  rintro w3 ⟨r3, b3⟩
  have H3 := below_next H2 b3
  have X0_3 := Laid.grid r3
  clear r3
  go_wp2_with fail
  refine call_below (i_c _ _ z0 _ X0_3 hS0) ?_
  intro w4 b4
  have H4 := below_next H3 b4
  have X0_4 := X0_3.below b4
  clear X0_3
  go_wp2_with fail
  refine call_pred (toInt64SS_c a0 cap0 z0 _ (h0.below H4) hS0) ?_
  rintro w5 ⟨r5, b5⟩
  have H5 := below_next H4 b5
  have X0_5 := X0_4.below b5
  clear X0_4
  have Y0_5 := Laid.grid r5
  clear r5
  go_wp2_with fail
  refine call_below (eqInt64SS_c _ _ _ _ z0 _ X0_5 Y0_5 hS0) ?_
  intro w6 b6
  have H6 := below_next H5 b6
  have X0_6 := X0_5.below b6
  clear X0_5
  have Y0_6 := Y0_5.below b6
  clear Y0_5
  clear X0_6 Y0_6
  go_wp2
  go_ret
  exact ⟨rfl, H6⟩

theorem own : ownKnob Try.prog.godebug = none := by kernel_rfl
theorem laidOut : laidOutB Try.prog = true := by kernel_rfl
set_option maxRecDepth 100000 in
theorem lifted (os : Os) (started : os.Started) (H : Type) (enc : TypeId × Value → H) :
    ReturnsInHanded {} Try.checked os 3 .any (Rows.fnExactBestPostSpec.pre6 enc Try.prog Try.f3 Rows.fnExactBestPostRow.domain false) (Rows.fnExactBestPostSpec.post enc Try.prog Try.f3 false true false false) := by
  refine returnsInHanded_of_change (C := Try.checked) own started (by kernel_rfl) Try.func3
    (ChangeSpec.witness6 (enc := enc) (C := Try.checked) false ⟨#[], #[.slice none 0 0], []⟩ 8 (by kernel_rfl) (by kernel_rfl) (by kernel_rfl) (by kernel_rfl)) ?_
  intro W base args ds gs before hval0 hW hcnd _
  have hval : ∀ (j : Nat) t v, Try.f3.params[j]? = some t → args[j]? = some v → Value.okWide Try.prog W .any base t v := hval0
  have hW' := hW
  obtain ⟨p, q, hA0, hV, rfl, hfz, hnd⟩ := hW
  have hA : DataW.TrodAll enc Try.prog W 0 (fun _ => true) true Try.f3.params.toList args.toList ds p := hA0
  rw [Try.params3] at hA hval
  obtain ⟨v0, vs0, d0, ds0, p0, q0, hargs, rfl, rfl, h0, r0⟩ := trodAll_cons hA
  obtain ⟨rfl, rfl, rfl⟩ := trodAll_nil r0
  obtain rfl : args = #[v0] := by cases args; simp_all
  obtain ⟨rfl, rfl⟩ := trodVars_none hV
  have k0 := h0
  have lt0 : ∀ x ∈ p0, x.block < W.heap.size := by obtain ⟨m, hm⟩ := k0; exact DataW.trod_lt m _ _ _ hm
  obtain ⟨a0, len0, cap0, rfl⟩ := okWide_slice Try.underlying22 (hval 0 22 v0 rfl rfl)
  obtain ⟨z0, rfl, w0, m0, f0⟩ : ∃ g : List (List Int), g.length = len0 ∧ Grid W a0 g ∧ g.length ≤ maxLen ∧ ∀ j, j < g.length → (nthL g j).length ≤ maxLen := by
    obtain ⟨fuel, hf⟩ := h0
    exact grid_open Try.underlying22 Try.underlying32 Try.underlying2 (by kernel_rfl) (by kernel_rfl) hf
  clear hA0 hval0
  refine (walk a0 cap0 z0 W w0 m0 f0).mono fun e W' ⟨he, bel⟩ => ?_
  subst he
  exact ⟨_, rfl, _, _, _, [], _, [], hW', trodAll_mk1 (shut_bool Try.underlying4 _), (trodAll_cons_mk (Below.trod laidOut (by kernel_rfl) (of_decide_eq_true (by kernel_rfl)) k0 bel lt0) trodAll_mk0), rfl, bel.frame _, fun h => by cases h⟩

theorem over : Rows.fnExactBestPostRow.holds Try.pinned (OpenSpec.ofChange Rows.fnExactBestPostSpec) :=
  OpenClaim.holds_of_wide 3 Try.f3 rfl rfl rfl rfl rfl rfl rfl ⟨rfl, rfl, rfl, rfl, rfl⟩ rfl rfl rfl rfl rfl (by kernel_rfl) Try.func3 (by kernel_rfl)
    (of_decide_eq_true (by kernel_rfl)) (by unfold Func.isWrapper; first | (rw [if_pos (by decide +kernel)]; kernel_rfl) | (rw [if_neg (by decide +kernel)]; exact ⟨rfl, rfl⟩))
    (fun os started H enc _ => lifted os started H enc)

/-- THE STATEMENT. -/
theorem proved : Rows.FnExactBestPostSaid := over
#print axioms proved
end Go.Proofs.Ytejcglenjhkhhaa.lawBestPost
