/- What PitsOf returns, on both sides. -/
import Derived.Test.YtlenihncfhemkaaAround
import Derived.Test.YtlenihncfhemkaaChosen
import Derived.Test.YtlenihncfhemkaaSteep
namespace Go.Proofs.Ytlenihncfhemkaa.shPitsOf
open Go.ChangeShapes Go.WideShapes Go.RowKit
set_option linter.unusedVariables false

theorem own_new1b (w : World) (e : TypeId) (u : Value) (n : Nat) (hn : n = w.heap.size) : ∀ j x, [u][j]? = some x → (w.alloc (.cells #[u] e)).cell? ((⟨n, 0, none⟩ : Addr).add j) = some x := by
  subst hn
  exact own_new1 w e u
/-- Whether all neighbours of a place are higher, and there is one. -/
def allB (m : Int) (l : List Int) : Bool := l.all fun x => decide (m < x)
def someB (n : Nat) : Bool := decide (0 < n)
def pitB (g : List (List Int)) (p : Nat × Nat) : Bool := someB (nearL g p).length && allB (atG g p) ((nearL g p).map (atG g))
def pitS (g : List (List Int)) (p : Nat × Nat) : Bool := someB (arL g p).length && allB (atG g p) (arL g p)
theorem nearL_eq {n m : Nat} {p : Nat × Nat} (h1 : p.1 < n) (h2 : p.2 < m) :
    nearTo n m p 4 = (if 0 < p.1 then [(p.1 - 1, p.2)] else []) ++ (if 0 < p.2 then [(p.1, p.2 - 1)] else []) ++ (if p.2 + 1 < m then [(p.1, p.2 + 1)] else []) ++ (if p.1 + 1 < n then [(p.1 + 1, p.2)] else []) := by
  have e0 : inGB n m (cand p 0) = decide (0 < p.1) := decide_eq_decide.2 (by simp only [cand]; omega)
  have e1 : inGB n m (cand p 1) = decide (0 < p.2) := decide_eq_decide.2 (by simp only [cand]; omega)
  have e2 : inGB n m (cand p 2) = decide (p.2 + 1 < m) := decide_eq_decide.2 (by simp only [cand]; omega)
  have e3 : inGB n m (cand p 3) = decide (p.1 + 1 < n) := decide_eq_decide.2 (by simp only [cand]; omega)
  have n0 : natP (cand p 0) = (p.1 - 1, p.2) := by simp only [natP, cand, Prod.mk.injEq]; omega
  have n1 : natP (cand p 1) = (p.1, p.2 - 1) := by simp only [natP, cand, Prod.mk.injEq]; omega
  have n2 : natP (cand p 2) = (p.1, p.2 + 1) := by simp only [natP, cand, Prod.mk.injEq]; omega
  have n3 : natP (cand p 3) = (p.1 + 1, p.2) := by simp only [natP, cand, Prod.mk.injEq]; omega
  have e : List.range 4 = [0, 1, 2, 3] := rfl
  unfold nearTo
  rw [e]
  simp only [List.filter_cons, List.filter_nil, e0, e1, e2, e3, decide_eq_true_eq]
  by_cases t0 : 0 < p.1 <;> by_cases t1 : 0 < p.2 <;> by_cases t2 : p.2 + 1 < m <;> by_cases t3 : p.1 + 1 < n <;> simp only [t0, t1, t2, t3, if_true, if_false, List.map_cons, List.map_nil, n0, n1, n2, n3, List.nil_append, List.cons_append, List.append_nil]
theorem pit_eq {lo hi : Int} {g : List (List Int)} (ok : GridOk lo hi g) {p : Nat × Nat} (h1 : p.1 < g.length) (h2 : p.2 < (nthL g p.1).length) : pitS g p = pitB g p := by
  have hs := ok.same p.1 h1
  unfold pitS pitB nearL arL arA arB arC arD someB allB
  rw [nearL_eq h1 (by omega), hs]
  by_cases t0 : 0 < p.1 <;> by_cases t1 : 0 < p.2 <;> by_cases t2 : p.2 + 1 < (nthL g 0).length <;> by_cases t3 : p.1 + 1 < g.length <;> simp [t0, t1, t2, t3, Bool.and_assoc, Bool.and_comm, Bool.and_left_comm]
def fZ (g : List (List Int)) : List (List Int) := if gridB 0 1000 g then chosenG g (pitB g) else []
def fC (g : List (List Int)) : Int := if gridB 0 1000 g then 0 else 1
theorem f_small (g : List (List Int)) : Small (fZ g) := by
  unfold fZ
  cases h : gridB 0 1000 g
  · simp [Small, sumL]
  · simpa using chosen_small (gridB_true h) (pitB g)
/-- The test so far. -/
def soFar (n : Nat) (m : Int) (l : List Int) (k : Nat) : Bool := someB n && allB m (l.take k)
theorem soFar_succ {n : Nat} {m : Int} {l : List Int} {k : Nat} (h : k < l.length) : soFar n m l (k + 1) = (soFar n m l k && decide (m < nth l k)) := by
  unfold soFar allB
  rw [List.take_succ_eq_append_getElem h, List.all_append, nth_eq h, Bool.and_assoc]
  simp
theorem soFar_zero (n : Nat) (m : Int) (l : List Int) : soFar n m l 0 = someB n := by simp [soFar, allB]
theorem soFar_all (m : Int) (l : List Int) : soFar l.length m l l.length = (someB l.length && allB m l) := by unfold soFar; rw [List.take_length]
theorem map_nth {g : List (List Int)} {l : List (Nat × Nat)} {k : Nat} (h : k < l.length) : nth (l.map (atG g)) k = atG g (l.getD k (0, 0)) := by simp [nth, List.getD_eq_getElem?_getD, h]
theorem cell_keep {w w' : World} {b o : Nat} {v : Value} (h : w.cell? ⟨b, o, none⟩ = some v) (hb : Below w.heap.size w w') : w'.cell? ⟨b, o, none⟩ = some v := (hb.cell (World.block_lt_of_cell? w _ h)).trans h
set_option maxRecDepth 100000 in
theorem i_c (a : Option Addr) (cap : Nat) (g : List (List Int)) (w : World) (h : Grid w a g) (hs : Small g) :
    Calls Try.prog 10 #[.slice a g.length cap] w fun e w' => ∃ a' cap', e = .returned (.tuple #[.slice a' (fZ g).length cap', .int .i64 (fC g)]) ∧ (GridA w.heap.size w'.heap.size w' a' (fZ g) ∧ Below w.heap.size w w') := by
  cases h1 : gridB 0 1000 g
  · go_enter Try.func10, Try.ntmps10
    go_wp2_with fail
    refine call_same (validArch_c _ _ g _ h hs) ?_
    rw [h1]
    go_wp2
    go_ret2
    exact ⟨none, 0, by simp [fZ, fC, h1], .inl (by simp [fZ, h1]), Below.refl _ _⟩
  · obtain ⟨j0, hj, hy0, hy1, hy2⟩ := info_parts infoS
    have ok := gridB_true h1
    have hll := ok.places
    have HZ := Lib.hid (show fZ g = pairsG (((plTo g g.length).take (plTo g g.length).length).filter (pitB g)) by rw [List.take_length]; simp [fZ, h1, chosenG])
    have HCD := Lib.hid (show fC g = 0 by simp [fC, h1])
    have HP := Lib.hid (fun j (hj : j < (plTo g g.length).length) => place_ok hj)
    have HV := Lib.hid (fun (p : Nat × Nat) (hp : p.1 < g.length ∧ p.2 < (nthL g p.1).length) => ok.at_ hp)
    have HNI := Lib.hid (fun (p q : Nat × Nat) (hq : q ∈ nearL g p) => ok.near hq)
    have HLE := Lib.hid (fun j (hj : j < g.length) => ok.len hj)
    have HPB := Lib.hid (fun p => show pitB g p = soFar ((nearL g p).map (atG g)).length (atG g p) ((nearL g p).map (atG g)) ((nearL g p).map (atG g)).length by rw [soFar_all, List.length_map]; rfl)
    clear ok
    go_enter Try.func10, Try.ntmps10
    go_wp2_with fail
    refine call_same (validArch_c _ _ g _ h hs) ?_
    rw [h1]
    clear h1
    go_wp2_with fail
    have HA0 := Lib.hid (show Below w.heap.size w (w.alloc (.cells #[] 26)) from (Below.refl _ _).alloc (Nat.le_refl _) _)
    have HO0 := Lib.hid (show OwnG w.heap.size (w.alloc (.cells #[] 26)).heap.size (w.alloc (.cells #[] 26)) (.slice (some ⟨w.heap.size, 0, none⟩) 0 0) [] from OwnG.start (World.ownsRow_made w #[] 0 (Nat.le_refl _) (Nat.zero_le _) rfl) (by simp) (Nat.le_refl _))
    refine (places_c _ _ g _ (h.below HA0.out) hs).mono ?_
    rintro e w2 ⟨v, rfl, hown, hnn, hb2⟩
    obtain ⟨bp, cp, cur, rfl, hblk, hcell⟩ := own_form2 hown hnn
    have HC := Lib.hid hcell
    have HG := Lib.hid h
    have HB2 := Lib.hid (below_next HA0.out hb2)
    have HO2 := Lib.hid ((HO0.out.below (Nat.le_refl _) hb2).wide hb2.size)
    have HBK := Lib.hid hblk
    have HST := Lib.hid (fun j (hj : j < (plTo g g.length).length) => pairs_take (E := pitB g) hj)
    have HLN := Lib.hid (fun j => pairs_len (pitB g) (plTo g g.length) j)
    clear hown hnn hcell hb2 HO0 hblk h
    generalize plTo g g.length = L at HP HC HZ HST HLN hll ⊢
    go_wp2
    go_loopw [4, 18] (fun v i wr => ∃ j : Nat, j ≤ L.length ∧ i = .int .i64 j ∧ OwnG w.heap.size wr.heap.size wr v (pairsG ((L.take j).filter (pitB g))) ∧ Below w.heap.size w wr ∧ wr.heap[bp]? = some (.cells cur 43 (0, 0))) (fun _ i _ => L.length - (intOf i).toNat)
    case atStart => exact ⟨0, Nat.zero_le _, rfl, by simpa [pairsG] using HO2.out, HB2.out, HBK.out⟩
    case round =>
      clear HO2 HBK
      obtain ⟨j, hj', rfl, hown, hbl, hblk⟩ := hrel
      have HO := Lib.hid hown
      have HL := Lib.hid hbl
      have HBK := Lib.hid hblk
      by_cases hlt : j < L.length
      · have hP := HP.out j hlt
        have hC := HC.out wr hblk j hlt
        have hT := HST.out j hlt
        have hN := HLN.out j
        generalize L.getD j (0, 0) = p at hT hP hC
        obtain ⟨c0, c1⟩ := hC
        have HPP := Lib.hid hP
        have hp2 : p.2 < 1048576 := by have := (HLE.out p.1 hP.1).2; omega
        have hvp := HV.out p hP
        have HTT := Lib.hid hT
        have HN := Lib.hid hN
        clear hbl hT hP hown hN hblk
        obtain ⟨wo, hwo⟩ : ∃ wo : World, wo = wr := ⟨_, rfl⟩
        rw [← hwo] at HO HL HBK c0 c1 ⊢
        clear hwo
        go_wp2_with fail
        refine (near_c _ _ g p _ ((HG.out.below HL.out).below ((Below.refl _ _).alloc (Nat.le_refl _) _)) hs HPP.out.1 hp2).mono ?_
        rintro e w3 ⟨v3, rfl, hown3, hnn3, hb3⟩
        obtain ⟨bq, cq, rfl, -, hbq, hcell3⟩ := own_form hown3 hnn3
        have HC3 := Lib.hid hcell3
        have HPC := Lib.hid (show w3.cell? ⟨wo.heap.size, 0, none⟩ = some (.int .i64 p.1) ∧ w3.cell? ⟨wo.heap.size, 1, none⟩ = some (.int .i64 p.2) from ⟨by rw [box_cell hb3]; go_cell, by rw [box_cell hb3]; go_cell⟩)
        have HB3 := Lib.hid (below_from hb3)
        have HQI := Lib.hid (fun i (hi : i < (nearL g p).length) => HNI.out p _ (place_mem hi))
        have hlq : (nearL g p).length ≤ 4 := nearTo_len _ _ _ _
        have HPB1 := Lib.hid (show pitB g p = soFar ((nearL g p).map (atG g)).length (atG g p) ((nearL g p).map (atG g)) ((nearL g p).map (atG g)).length from HPB.out p)
        clear hown3 hnn3 hcell3 hb3 c0 c1
        generalize nearL g p = LQ at HC3 HQI HPB1 hlq ⊢
        have HSB := Lib.hid (show decide (0 < LQ.length) = soFar (LQ.map (atG g)).length (atG g p) (LQ.map (atG g)) 0 by rw [soFar_zero, List.length_map]; rfl)
        have HSC := Lib.hid (fun q (hq : q < LQ.length) => show soFar (LQ.map (atG g)).length (atG g p) (LQ.map (atG g)) (q + 1) = (soFar (LQ.map (atG g)).length (atG g p) (LQ.map (atG g)) q && decide (atG g p < atG g (LQ.getD q (0, 0)))) by rw [soFar_succ (by simpa using hq), map_nth hq])
        have HEND := Lib.hid (show pitB g p = soFar (LQ.map (atG g)).length (atG g p) (LQ.map (atG g)) LQ.length by rw [HPB1.out, List.length_map])
        clear HPB1
        generalize soFar (LQ.map (atG g)).length (atG g p) (LQ.map (atG g)) = S at HSB HSC HEND
        go_wp2_with fail
        rw [HSB.out]
        go_loopw [8, 30] (fun v i wi => ∃ q : Nat, q ≤ LQ.length ∧ i = .int .i64 q ∧ v = .bool (S q) ∧ Below w3.heap.size w3 wi) (fun _ i _ => LQ.length - (intOf i).toNat)
        case atStart => exact ⟨0, Nat.zero_le _, rfl, rfl, Below.refl _ _⟩
        case round =>
          obtain ⟨q, hq, rfl, rfl, hbi⟩ := hrel
          have HLI := Lib.hid hbi
          by_cases hlt2 : q < LQ.length
          · have hS := HSC.out q hlt2
            have hP := HQI.out q hlt2
            have hC := HC3.out q hlt2
            generalize LQ.getD q (0, 0) = r at hS hP hC
            have c0 := (hbi.cell (p := ⟨bq, q * 2, none⟩) hbq).trans hC.1
            have c1 := (hbi.cell (p := ⟨bq, q * 2 + 1, none⟩) hbq).trans hC.2
            have HRR := Lib.hid hP
            have hvr := HV.out r hP
            have hpc := keepP HPC.out hbi
            have HSS := Lib.hid hS
            clear hbi hP hC hS
            have HA := Lib.hid (show Below wr.heap.size wr (wr.alloc (.cells #[.int .i64 r.1, .int .i64 r.2] 43)) from (Below.refl _ _).alloc (Nat.le_refl _) _)
            cases hb : S q
            · have HS2 := Lib.hid (show S (q + 1) = false by rw [HSS.out, hb]; rfl)
              clear hb
              go_wp2_with fail
              go_quiet (fail)
              go_wp2
              go_roundw
              case rel => exact ⟨q + 1, by omega, by go_num, by rw [HS2.out], below_next HLI.out (below_drewN HA.out _)⟩
              case measure => simp [intOf]; omega
            · have HS2 := Lib.hid (show S (q + 1) = decide (atG g p < atG g r) by rw [HSS.out, hb]; rfl)
              clear hb
              go_wp2_with fail
              have e0 : (wr.alloc (.cells #[.int .i64 r.1, .int .i64 r.2] 43)).cell? ⟨wr.heap.size, 0, none⟩ = some (.int .i64 r.1) := by go_cell
              have e1 : (wr.alloc (.cells #[.int .i64 r.1, .int .i64 r.2] 43)).cell? ⟨wr.heap.size, 1, none⟩ = some (.int .i64 r.2) := by go_cell
              have hpc2 := keepP hpc HA.out
              generalize wr.alloc (.cells #[.int .i64 r.1, .int .i64 r.2] 43) = wA at HA e0 e1 hpc2 ⊢
              have HQ := Lib.hid (And.intro hpc2 (And.intro e0 e1))
              have HGX := Lib.hid (show Grid wA a g from ((((HG.out.below HL.out).below HB3.out).below HLI.out).below HA.out))
              clear c0 c1 hpc hpc2 e0 e1
              go_region_held3 (fun w' => w'.cell? ⟨wo.heap.size, 0, none⟩ = some (.int .i64 p.1) ∧ w'.cell? ⟨wo.heap.size, 1, none⟩ = some (.int .i64 p.2) ∧ w'.cell? ⟨wr.heap.size, 0, none⟩ = some (.int .i64 r.1) ∧ w'.cell? ⟨wr.heap.size, 1, none⟩ = some (.int .i64 r.2) ∧ Below wA.heap.size wA w')
                (first | exact keepPQ HQ.out (Below.refl _ _).drew | exact keepPQ HQ.out (below_next (Below.refl _ _).drew hb4) | exact keepPQ HQ.out (below_next (below_next (Below.refl _ _).drew hb4) hb5) | go_keep)
                (first | (go_at_call 22; refine call_below (of_c _ _ _ _ _ ?_ hs ?_ ?_) ?_; (first | exact HGX.out.below (Below.refl _ _).drew | exact HGX.out.below (below_next (Below.refl _ _).drew hb4)); (first | exact HPP.out.1 | exact HRR.out.1); (first | exact HPP.out.2 | exact HRR.out.2); (first | (have hx := hb4; clear hx; intro w5 hb5) | intro w4 hb4)))
              go_wp2
              go_roundw
              case rel => exact ⟨q + 1, by omega, by go_num, by rw [HS2.out], below_next HLI.out (below_next HA.out (below_next (below_next (Below.refl _ _).drew hb4) hb5))⟩
              case measure => simp [intOf]; omega
          · obtain rfl : q = LQ.length := by omega
            rw [← HEND.out]
            have HLX := Lib.hid (below_next HB3.out HLI.out)
            have HO3 := Lib.hid (HO.out.below (Nat.le_refl _) HLX.out)
            have HBK3 := Lib.hid (blk_keep HBK.out HLX.out)
            have HPX := Lib.hid (keepP HPC.out hbi)
            have HS3 := Lib.hid HLX.out.size
            have HL3 := Lib.hid (below_next HL.out HLX.out)
            clear hbi
            cases hE : pitB g p
            · have HU := Lib.hid (HTT.out.1 hE)
              clear hE
              go_wp2
              go_roundw
              case rel => exact ⟨j + 1, by omega, by go_num, by rw [HU.out]; exact HO3.out.wide HS3.out, HL3.out, HBK3.out⟩
              case measure => simp [intOf]; omega
            · have HU := Lib.hid (HTT.out.2 hE)
              obtain ⟨d0, d1⟩ := HPX.out
              clear hE
              go_wp2_with fail
              refine (pair_c p _).mono ?_
              rintro e w4 ⟨br, rfl, ⟨hbr0, hbr1⟩, hrc, hb4⟩
              obtain ⟨r, cc, hown, hnn, hrows, hdist, hv⟩ := (HO3.out.wide HS3.out).below (Nat.le_refl _) hb4
              have HROW := Lib.hid (And.intro hrows (And.intro hdist (And.intro hv hrc)))
              have HOW := Lib.hid hown
              have HL4 := Lib.hid (below_next HL3.out hb4)
              have HBK4 := Lib.hid (blk_keep HBK3.out hb4)
              have HZ3 := Lib.hid HL3.out.size
              clear hrows hdist hv hown hnn hb4 d0 d1 hrc
              go_wp2_with (at_builtin; refine wpList_append_own _ rfl _ _ 24 rfl w.heap.size 26 j0 (.slice none 0 0) 1 24 Try.underlying24 hj hy0 hy1 hy2 rfl (by decide) _ _ _ rfl (HOW.out.alloc _) ⟨w4.heap.size, 0, none⟩ 1 1 [.slice (some ⟨br, 0, none⟩) 2 2] rfl rfl (own_new1 _ _ _) ?d2 ?d3 ?d4 ?d5 ?_)
              case d2 => (first | rfl | (intro u hu; simp at hu; subst hu; rfl))
              case d3 => have := HN.out; unfold maxLen; omega
              case d4 => have := HN.out; omega
              case d5 => have := HL4.out.size; simp; omega
              · intro v' w5 hown' hgrow hnil
                have hz3 := HZ3.out
                have hz4 := HL4.out.size
                have HB5 := Lib.hid (show Below w.heap.size w w5 from below_grown (HL4.out.alloc (by omega) _) (by simp; omega) hgrow fun q hq => (HOW.out.lt q hq).1)
                have HBK5 := Lib.hid (blk_grown HBK4.out HOW.out hgrow)
                have HX := Lib.hid (show OwnG w.heap.size w5.heap.size w5 v' (pairsG ((L.take (j + 1)).filter (pitB g))) by
                  rw [HU.out]
                  exact own_push HOW.out HROW.out.1 HROW.out.2.1 HROW.out.2.2.1 hbr0 (by omega) hbr1 (by simp) HROW.out.2.2.2 hown' hgrow hnil)
                clear hown' hgrow hnil
                go_wp2
                go_roundw
                case rel => exact ⟨j + 1, by omega, by go_num, HX.out, HB5.out, HBK5.out⟩
                case measure => simp [intOf]; omega
      · obtain rfl : j = L.length := by omega
        clear hbl hown hblk
        go_wp2
        go_ret2
        obtain ⟨a', cap', rfl, hr⟩ := HO.out.gridA
        exact ⟨a', cap', by rw [HZ.out, HCD.out]; rfl, by rw [HZ.out]; exact hr, HL.out⟩

end Go.Proofs.Ytlenihncfhemkaa.shPitsOf
