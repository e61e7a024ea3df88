/- The places of a grid that are chosen, each as a row of two numbers. -/
import Derived.Test.YtpklckpnhjhnhaaOwnG
import Derived.Test.YtpklckpnhjhnhaaNear
import Derived.Test.YtpklckpnhjhnhaaMass
namespace Go.Proofs.Ytpklckpnhjhnhaa
open Go.RowKit Go.ChangeShapes Go.WideShapes
set_option linter.unusedVariables false

/-- Places as rows of two numbers. -/
def pairsG (l : List (Nat × Nat)) : List (List Int) := l.map fun p => [(p.1 : Int), (p.2 : Int)]
def chosenG (g : List (List Int)) (E : Nat × Nat → Bool) : List (List Int) := pairsG ((plTo g g.length).filter E)
theorem pairs_snoc (l : List (Nat × Nat)) (p : Nat × Nat) : pairsG (l ++ [p]) = pairsG l ++ [[(p.1 : Int), (p.2 : Int)]] := by simp [pairsG]
theorem pairs_take {E : Nat × Nat → Bool} {L : List (Nat × Nat)} {j : Nat} (h : j < L.length) :
    (E (L.getD j (0, 0)) = false → pairsG ((L.take (j + 1)).filter E) = pairsG ((L.take j).filter E)) ∧
    (E (L.getD j (0, 0)) = true → pairsG ((L.take (j + 1)).filter E) = pairsG ((L.take j).filter E) ++ [[((L.getD j (0, 0)).1 : Int), ((L.getD j (0, 0)).2 : Int)]]) := by
  have e : L[j] = L.getD j (0, 0) := by simp [List.getD_eq_getElem?_getD, h]
  rw [List.take_succ_eq_append_getElem h, e, List.filter_append]
  generalize L.getD j (0, 0) = p
  constructor
  · intro hE; simp [hE]
  · intro hE; rw [← pairs_snoc]; simp [hE]
theorem pairs_len (E : Nat × Nat → Bool) (L : List (Nat × Nat)) (j : Nat) : (pairsG ((L.take j).filter E)).length ≤ j := by
  unfold pairsG
  rw [List.length_map]
  exact Nat.le_trans (List.length_filter_le _ _) (List.length_take_le _ _)
theorem pairs_sum (l : List (Nat × Nat)) : ∀ k, k ≤ (pairsG l).length → sumL (pairsG l) k ≤ 2 * k
  | 0, _ => by simp [sumL]
  | k + 1, h => by
    have h1 := pairs_sum l k (by omega)
    have h2 : (nthL (pairsG l) k).length = 2 := by
      have hk : k < l.length := Nat.lt_of_succ_le (by simpa [pairsG] using h)
      simp [nthL, pairsG, List.getD_eq_getElem?_getD, hk]
    simp only [sumL]
    omega
theorem chosen_small {lo hi : Int} {g : List (List Int)} (ok : GridOk lo hi g) (E : Nat × Nat → Bool) : Small (chosenG g E) := by
  have h1 : (chosenG g E).length ≤ 100 := by
    unfold chosenG pairsG
    rw [List.length_map]
    exact Nat.le_trans (List.length_filter_le _ _) ok.places
  have h2 := pairs_sum ((plTo g g.length).filter E) (chosenG g E).length (Nat.le_refl _)
  unfold Small
  have : sumL (chosenG g E) (chosenG g E).length ≤ 2 * (chosenG g E).length := h2
  omega
/-- A list of places that is not nil: its block whole. -/
theorem own_form2 {w : World} {B : Nat} {v : Value} {l : List (Nat × Nat)} (h : w.ownsRow B 51 2 v l.length (plCells l)) (hn : v ≠ .slice none 0 0) :
    ∃ b cap cur, v = .slice (some ⟨b, 0, none⟩) l.length cap ∧ w.heap[b]? = some (.cells cur 51 (0, 0)) ∧
      ∀ w' : World, w'.heap[b]? = some (.cells cur 51 (0, 0)) → ∀ j, j < l.length → w'.cell? ⟨b, j * 2, none⟩ = some (.int .i64 (l.getD j (0, 0)).1) ∧ w'.cell? ⟨b, j * 2 + 1, none⟩ = some (.int .i64 (l.getD j (0, 0)).2) := by
  rcases h.2 with ⟨rfl, _⟩ | ⟨b, cap, cur, rfl, hb, hh, _⟩
  · exact absurd rfl hn
  · refine ⟨b, cap, cur, rfl, hh, fun w' hw' j hj => ?_⟩
    obtain ⟨h1, h2⟩ := own_pl_cells h hj
    have e : w'.heap[b]? = w.heap[b]? := by rw [hw', hh]
    exact ⟨(World.cell?_of_block (w := w) e).trans h1, (World.cell?_of_block (w := w) e).trans h2⟩
theorem blk_lt {w : World} {b : Nat} {o : Obj} (h : w.heap[b]? = some o) : b < w.heap.size := by
  by_cases hb : b < w.heap.size
  · exact hb
  · rw [Array.getElem?_eq_none (by omega)] at h; cases h
theorem blk_keep {w w' : World} {b : Nat} {o : Obj} (h : w.heap[b]? = some o) (hb : Below w.heap.size w w') : w'.heap[b]? = some o := (hb.block b (blk_lt h)).trans h
theorem blk_grown {w w' : World} {B b n : Nat} {cur : Array Value} {o : Obj} {v : Value} {xs : List Value} (h : w.heap[b]? = some (.cells cur 51 (0, 0))) (hown : w.ownsRow B 26 1 v n xs) (hg : (w.alloc o).grownBy w' v.ownBlock) :
    w'.heap[b]? = some (.cells cur 51 (0, 0)) := by
  have hlt := blk_lt h
  refine (hg.block b (by simp; omega) (fun e => ?_)).trans ((((Below.refl w.heap.size w).alloc (Nat.le_refl _) o).block b hlt).trans h)
  rcases hown.2 with ⟨rfl, _⟩ | ⟨b', cap, cur', rfl, _, hh, _⟩
  · simp [Value.ownBlock] at e
  · simp only [Value.ownBlock, Option.some.injEq] at e
    subst e
    rw [hh] at h
    simp at h
/-- The program's chosen, with this closure: what it hands back are the places that the closure accepts. -/
theorem chosen_thin (a : Option Addr) (cap : Nat) (g : List (List Int)) (b0 b1 : Nat) (E : Nat × Nat → Bool) (w : World) (h : Grid w a g) (hs : Small g)
    (hF : ∀ (p : Nat × Nat) (W : World), p.1 < g.length → p.2 < (nthL g p.1).length → Below w.heap.size w W → Calls Try.prog 56 #[.agg #[.int .i64 p.1, .int .i64 p.2], .pointer (some ⟨b0, 0, none⟩), .pointer (some ⟨b1, 0, none⟩)] W fun e W' => e = .returned (.bool (E p)) ∧ Below W.heap.size W W') :
    Calls Try.prog 46 #[.slice a g.length cap, .func (.func 56) #[] #[.pointer (some ⟨b0, 0, none⟩), .pointer (some ⟨b1, 0, none⟩)]] w fun e w' => ∃ v, e = .returned v ∧ (OwnG w.heap.size w'.heap.size w' v (pairsG ((plTo g g.length).filter E)) ∧ Below w.heap.size w w') := by
  obtain ⟨j0, hj, hy0, hy1, hy2⟩ := info_parts infoS
  have hll : (plTo g g.length).length ≤ 1048576 := by
    have hS := hs
    unfold Small at hS
    rw [plTo_len]; omega
  have HF := Lib.hid hF
  have HP := Lib.hid (fun j (hj : j < (plTo g g.length).length) => place_ok hj)
  have HRES := Lib.hid (show chosenG g E = pairsG ((plTo g g.length).filter E) from rfl)
  rw [← HRES.out]
  clear hF
  go_enter Try.func46, Try.ntmps46
  go_wp2_with fail
  have HA0 := Lib.hid (show Below w.heap.size w (w.alloc (.cells #[] 26)) from (Below.refl _ _).alloc (Nat.le_refl _) _)
  have HO0 := Lib.hid (show OwnG w.heap.size (w.alloc (.cells #[] 26)).heap.size (w.alloc (.cells #[] 26)) (.slice (some ⟨w.heap.size, 0, none⟩) 0 0) [] from OwnG.start (World.ownsRow_made w #[] 0 (Nat.le_refl _) (Nat.zero_le _) rfl) (by simp) (Nat.le_refl _))
  refine (places_c _ _ g _ (h.below HA0.out) hs).mono ?_
  rintro e w2 ⟨v, rfl, hown, hnn, hb2⟩
  obtain ⟨bp, cp, cur, rfl, hblk, hcell⟩ := own_form2 hown hnn
  have HC := Lib.hid hcell
  have HB2 := Lib.hid (below_next HA0.out hb2)
  have HO2 := Lib.hid ((HO0.out.below (Nat.le_refl _) hb2).wide hb2.size)
  have HBK := Lib.hid hblk
  have HRS := Lib.hid (show chosenG g E = pairsG (((plTo g g.length).take (plTo g g.length).length).filter E) by rw [List.take_length]; rfl)
  have HST := Lib.hid (fun j (hj : j < (plTo g g.length).length) => pairs_take (E := E) hj)
  have HLN := Lib.hid (fun j => pairs_len E (plTo g g.length) j)
  clear hown hnn hcell hb2 HO0 HRES hblk
  generalize plTo g g.length = L at HP HC HRS HST HLN hll ⊢
  go_wp2
  go_loopw [5, 12] (fun v i wr => ∃ j : Nat, j ≤ L.length ∧ i = .int .i64 j ∧ OwnG w.heap.size wr.heap.size wr v (pairsG ((L.take j).filter E)) ∧ Below w.heap.size w wr ∧ wr.heap[bp]? = some (.cells cur 51 (0, 0))) (fun _ i _ => L.length - (intOf i).toNat)
  case atStart => exact ⟨0, Nat.zero_le _, rfl, by simpa [pairsG] using HO2.out, HB2.out, HBK.out⟩
  case round =>
    clear HO2 HBK
    obtain ⟨j, hj', rfl, hown, hbl, hblk⟩ := hrel
    have HO := Lib.hid hown
    have HL := Lib.hid hbl
    have HBK := Lib.hid hblk
    by_cases hlt : j < L.length
    · have hP := HP.out j hlt
      have hC := HC.out wr hblk j hlt
      have hT := HST.out j hlt
      have hN := HLN.out j
      generalize L.getD j (0, 0) = p at hT hP hC
      obtain ⟨c0, c1⟩ := hC
      have HPP := Lib.hid hP
      have HTT := Lib.hid hT
      have HN := Lib.hid hN
      clear hbl hT hP hown hN hblk
      go_wp2_with fail
      refine call_below (HF.out p _ HPP.out.1 HPP.out.2 (below_next HL.out ((Below.refl _ _).alloc (Nat.le_refl _) _))) ?_
      intro w3 hb3
      have HPC := Lib.hid (show w3.cell? ⟨wr.heap.size, 0, none⟩ = some (.int .i64 p.1) ∧ w3.cell? ⟨wr.heap.size, 1, none⟩ = some (.int .i64 p.2) from ⟨by rw [box_cell hb3]; go_cell, by rw [box_cell hb3]; go_cell⟩)
      have HL3 := Lib.hid (below_next HL.out (below_from hb3))
      have HO3 := Lib.hid (HO.out.below (Nat.le_refl _) (below_from hb3))
      have HS3 := Lib.hid (below_from hb3).size
      have HBK3 := Lib.hid (blk_keep HBK.out (below_from hb3))
      clear hb3 c0 c1
      cases hE : E p
      · have HU := Lib.hid (HTT.out.1 hE)
        clear hE
        go_wp2
        go_roundw
        case rel => exact ⟨j + 1, by omega, by go_num, by rw [HU.out]; exact HO3.out.wide HS3.out, HL3.out, HBK3.out⟩
        case measure => simp [intOf]; omega
      · have HU := Lib.hid (HTT.out.2 hE)
        obtain ⟨d0, d1⟩ := HPC.out
        clear hE
        go_wp2_with fail
        refine (pair_c p _).mono ?_
        rintro e w4 ⟨br, rfl, ⟨hbr0, hbr1⟩, hrc, hb4⟩
        obtain ⟨r, cc, hown, hnn, hrows, hdist, hv⟩ := (HO3.out.wide HS3.out).below (Nat.le_refl _) hb4
        have HROW := Lib.hid (And.intro hrows (And.intro hdist (And.intro hv hrc)))
        have HOW := Lib.hid hown
        have HL4 := Lib.hid (below_next HL3.out hb4)
        have HBK4 := Lib.hid (blk_keep HBK3.out hb4)
        have HZ3 := Lib.hid HL3.out.size
        clear hrows hdist hv hown hnn hb4 d0 d1 hrc
        go_wp2_with (at_builtin; refine wpList_append_own _ rfl _ _ 24 rfl w.heap.size 26 j0 (.slice none 0 0) 1 24 Try.underlying24 hj hy0 hy1 hy2 rfl (by decide) _ _ _ rfl (HOW.out.alloc _) ⟨w4.heap.size, 0, none⟩ 1 1 [.slice (some ⟨br, 0, none⟩) 2 2] rfl rfl (own_new1 _ _ _) ?d2 ?d3 ?d4 ?d5 ?_)
        case d2 => (first | rfl | (intro u hu; simp at hu; subst hu; rfl))
        case d3 => have := HN.out; unfold maxLen; omega
        case d4 => have := HN.out; omega
        case d5 => have := HL4.out.size; simp; omega
        · intro v' w5 hown' hgrow hnil
          have hz3 := HZ3.out
          have hz4 := HL4.out.size
          have HB5 := Lib.hid (show Below w.heap.size w w5 from below_grown (HL4.out.alloc (by omega) _) (by simp; omega) hgrow fun q hq => (HOW.out.lt q hq).1)
          have HBK5 := Lib.hid (blk_grown HBK4.out HOW.out hgrow)
          have HX := Lib.hid (show OwnG w.heap.size w5.heap.size w5 v' (pairsG ((L.take (j + 1)).filter E)) by
            rw [HU.out]
            exact own_push HOW.out HROW.out.1 HROW.out.2.1 HROW.out.2.2.1 hbr0 (by omega) hbr1 (by simp) HROW.out.2.2.2 hown' hgrow hnil)
          clear hown' hgrow hnil
          go_wp2
          go_roundw
          case rel => exact ⟨j + 1, by omega, by go_num, HX.out, HB5.out, HBK5.out⟩
          case measure => simp [intOf]; omega
    · obtain rfl : j = L.length := by omega
      clear hbl hown hblk
      go_wp2
      go_ret
      exact ⟨_, rfl, by rw [HRS.out]; exact HO.out, HL.out⟩
end Go.Proofs.Ytpklckpnhjhnhaa
