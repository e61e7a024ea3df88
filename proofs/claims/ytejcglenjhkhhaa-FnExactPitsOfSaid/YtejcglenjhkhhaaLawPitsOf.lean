/- The program's PitsOf returns what the reference's returns, for all arguments. No condition. -/
import Derived.Test.YtejcglenjhkhhaaRows
import Derived.Test.YtejcglenjhkhhaaAround
import Derived.Test.YtejcglenjhkhhaaChosen
import Derived.Test.YtejcglenjhkhhaaSteep
import Derived.OpenShut
import Derived.ChangeOld
import Derived.Lib.SmallJoins
namespace Go.Proofs.Ytejcglenjhkhhaa.lawPitsOf
open Go.ChangeShapes Go.WideShapes Go.ChangeAt Go.RowKit
set_option linter.unusedVariables false

theorem own_new1b (w : World) (e : TypeId) (u : Value) (n : Nat) (hn : n = w.heap.size) : ∀ j x, [u][j]? = some x → (w.alloc (.cells #[u] e)).cell? ((⟨n, 0, none⟩ : Addr).add j) = some x := by
  subst hn
  exact own_new1 w e u
/-- Whether all neighbours of a place are higher, and there is one. -/
def allB (m : Int) (l : List Int) : Bool := l.all fun x => decide (m < x)
def someB (n : Nat) : Bool := decide (0 < n)
def pitB (g : List (List Int)) (p : Nat × Nat) : Bool := someB (nearL g p).length && allB (atG g p) ((nearL g p).map (atG g))
def pitS (g : List (List Int)) (p : Nat × Nat) : Bool := someB (arL g p).length && allB (atG g p) (arL g p)
theorem nearL_eq {n m : Nat} {p : Nat × Nat} (h1 : p.1 < n) (h2 : p.2 < m) :
    nearTo n m p 4 = (if 0 < p.1 then [(p.1 - 1, p.2)] else []) ++ (if 0 < p.2 then [(p.1, p.2 - 1)] else []) ++ (if p.2 + 1 < m then [(p.1, p.2 + 1)] else []) ++ (if p.1 + 1 < n then [(p.1 + 1, p.2)] else []) := by
  have e0 : inGB n m (cand p 0) = decide (0 < p.1) := decide_eq_decide.2 (by simp only [cand]; omega)
  have e1 : inGB n m (cand p 1) = decide (0 < p.2) := decide_eq_decide.2 (by simp only [cand]; omega)
  have e2 : inGB n m (cand p 2) = decide (p.2 + 1 < m) := decide_eq_decide.2 (by simp only [cand]; omega)
  have e3 : inGB n m (cand p 3) = decide (p.1 + 1 < n) := decide_eq_decide.2 (by simp only [cand]; omega)
  have n0 : natP (cand p 0) = (p.1 - 1, p.2) := by simp only [natP, cand, Prod.mk.injEq]; omega
  have n1 : natP (cand p 1) = (p.1, p.2 - 1) := by simp only [natP, cand, Prod.mk.injEq]; omega
  have n2 : natP (cand p 2) = (p.1, p.2 + 1) := by simp only [natP, cand, Prod.mk.injEq]; omega
  have n3 : natP (cand p 3) = (p.1 + 1, p.2) := by simp only [natP, cand, Prod.mk.injEq]; omega
  have e : List.range 4 = [0, 1, 2, 3] := rfl
  unfold nearTo
  rw [e]
  simp only [List.filter_cons, List.filter_nil, e0, e1, e2, e3, decide_eq_true_eq]
  by_cases t0 : 0 < p.1 <;> by_cases t1 : 0 < p.2 <;> by_cases t2 : p.2 + 1 < m <;> by_cases t3 : p.1 + 1 < n <;> simp only [t0, t1, t2, t3, if_true, if_false, List.map_cons, List.map_nil, n0, n1, n2, n3, List.nil_append, List.cons_append, List.append_nil]
theorem pit_eq {lo hi : Int} {g : List (List Int)} (ok : GridOk lo hi g) {p : Nat × Nat} (h1 : p.1 < g.length) (h2 : p.2 < (nthL g p.1).length) : pitS g p = pitB g p := by
  have hs := ok.same p.1 h1
  unfold pitS pitB nearL arL arA arB arC arD someB allB
  rw [nearL_eq h1 (by omega), hs]
  by_cases t0 : 0 < p.1 <;> by_cases t1 : 0 < p.2 <;> by_cases t2 : p.2 + 1 < (nthL g 0).length <;> by_cases t3 : p.1 + 1 < g.length <;> simp [t0, t1, t2, t3, Bool.and_assoc, Bool.and_comm, Bool.and_left_comm]
def fZ (g : List (List Int)) : List (List Int) := if gridB 0 1000 g then chosenG g (pitB g) else []
def fC (g : List (List Int)) : Int := if gridB 0 1000 g then 0 else 1
theorem f_small (g : List (List Int)) : Small (fZ g) := by
  unfold fZ
  cases h : gridB 0 1000 g
  · simp [Small, sumL]
  · simpa using chosen_small (gridB_true h) (pitB g)
/-- The test so far. -/
def soFar (n : Nat) (m : Int) (l : List Int) (k : Nat) : Bool := someB n && allB m (l.take k)
theorem soFar_succ {n : Nat} {m : Int} {l : List Int} {k : Nat} (h : k < l.length) : soFar n m l (k + 1) = (soFar n m l k && decide (m < nth l k)) := by
  unfold soFar allB
  rw [List.take_succ_eq_append_getElem h, List.all_append, nth_eq h, Bool.and_assoc]
  simp
theorem soFar_zero (n : Nat) (m : Int) (l : List Int) : soFar n m l 0 = someB n := by simp [soFar, allB]
theorem soFar_all (m : Int) (l : List Int) : soFar l.length m l l.length = (someB l.length && allB m l) := by unfold soFar; rw [List.take_length]
theorem map_nth {g : List (List Int)} {l : List (Nat × Nat)} {k : Nat} (h : k < l.length) : nth (l.map (atG g)) k = atG g (l.getD k (0, 0)) := by simp [nth, List.getD_eq_getElem?_getD, h]
theorem cell_keep {w w' : World} {b o : Nat} {v : Value} (h : w.cell? ⟨b, o, none⟩ = some v) (hb : Below w.heap.size w w') : w'.cell? ⟨b, o, none⟩ = some v := (hb.cell (World.block_lt_of_cell? w _ h)).trans h
set_option maxRecDepth 100000 in
theorem i_c (a : Option Addr) (cap : Nat) (g : List (List Int)) (w : World) (h : Grid w a g) (hs : Small g) :
    Calls Try.prog 54 #[.slice a g.length cap] w fun e w' => ∃ a' cap', e = .returned (.tuple #[.slice a' (fZ g).length cap', .int .i64 (fC g)]) ∧ (GridA w.heap.size w'.heap.size w' a' (fZ g) ∧ Below w.heap.size w w') := by
  cases h1 : gridB 0 1000 g
  · go_enter Try.func54, Try.ntmps54
    go_wp2_with fail
    refine call_same (validArch_c _ _ g _ h hs) ?_
    rw [h1]
    go_wp2
    go_ret2
    exact ⟨none, 0, by simp [fZ, fC, h1], .inl (by simp [fZ, h1]), Below.refl _ _⟩
  · obtain ⟨j0, hj, hy0, hy1, hy2⟩ := info_parts infoS
    have ok := gridB_true h1
    have hll := ok.places
    have HZ := Lib.hid (show fZ g = pairsG (((plTo g g.length).take (plTo g g.length).length).filter (pitB g)) by rw [List.take_length]; simp [fZ, h1, chosenG])
    have HCD := Lib.hid (show fC g = 0 by simp [fC, h1])
    have HP := Lib.hid (fun j (hj : j < (plTo g g.length).length) => place_ok hj)
    have HV := Lib.hid (fun (p : Nat × Nat) (hp : p.1 < g.length ∧ p.2 < (nthL g p.1).length) => ok.at_ hp)
    have HNI := Lib.hid (fun (p q : Nat × Nat) (hq : q ∈ nearL g p) => ok.near hq)
    have HLE := Lib.hid (fun j (hj : j < g.length) => ok.len hj)
    have HPB := Lib.hid (fun p => show pitB g p = soFar ((nearL g p).map (atG g)).length (atG g p) ((nearL g p).map (atG g)) ((nearL g p).map (atG g)).length by rw [soFar_all, List.length_map]; rfl)
    clear ok
    go_enter Try.func54, Try.ntmps54
    go_wp2_with fail
    refine call_same (validArch_c _ _ g _ h hs) ?_
    rw [h1]
    clear h1
    go_wp2_with fail
    have HA0 := Lib.hid (show Below w.heap.size w (w.alloc (.cells #[] 32)) from (Below.refl _ _).alloc (Nat.le_refl _) _)
    have HO0 := Lib.hid (show OwnG w.heap.size (w.alloc (.cells #[] 32)).heap.size (w.alloc (.cells #[] 32)) (.slice (some ⟨w.heap.size, 0, none⟩) 0 0) [] from OwnG.start (World.ownsRow_made w #[] 0 (Nat.le_refl _) (Nat.zero_le _) rfl) (by simp) (Nat.le_refl _))
    refine (places_c _ _ g _ (h.below HA0.out) hs).mono ?_
    rintro e w2 ⟨v, rfl, hown, hnn, hb2⟩
    obtain ⟨bp, cp, cur, rfl, hblk, hcell⟩ := own_form2 hown hnn
    have HC := Lib.hid hcell
    have HG := Lib.hid h
    have HB2 := Lib.hid (below_next HA0.out hb2)
    have HO2 := Lib.hid ((HO0.out.below (Nat.le_refl _) hb2).wide hb2.size)
    have HBK := Lib.hid hblk
    have HST := Lib.hid (fun j (hj : j < (plTo g g.length).length) => pairs_take (E := pitB g) hj)
    have HLN := Lib.hid (fun j => pairs_len (pitB g) (plTo g g.length) j)
    clear hown hnn hcell hb2 HO0 hblk h
    generalize plTo g g.length = L at HP HC HZ HST HLN hll ⊢
    go_wp2
    go_loopw [4, 18] (fun v i wr => ∃ j : Nat, j ≤ L.length ∧ i = .int .i64 j ∧ OwnG w.heap.size wr.heap.size wr v (pairsG ((L.take j).filter (pitB g))) ∧ Below w.heap.size w wr ∧ wr.heap[bp]? = some (.cells cur 67 (0, 0))) (fun _ i _ => L.length - (intOf i).toNat)
    case atStart => exact ⟨0, Nat.zero_le _, rfl, by simpa [pairsG] using HO2.out, HB2.out, HBK.out⟩
    case round =>
      clear HO2 HBK
      obtain ⟨j, hj', rfl, hown, hbl, hblk⟩ := hrel
      have HO := Lib.hid hown
      have HL := Lib.hid hbl
      have HBK := Lib.hid hblk
      by_cases hlt : j < L.length
      · have hP := HP.out j hlt
        have hC := HC.out wr hblk j hlt
        have hT := HST.out j hlt
        have hN := HLN.out j
        generalize L.getD j (0, 0) = p at hT hP hC
        obtain ⟨c0, c1⟩ := hC
        have HPP := Lib.hid hP
        have hp2 : p.2 < 1048576 := by have := (HLE.out p.1 hP.1).2; omega
        have hvp := HV.out p hP
        have HTT := Lib.hid hT
        have HN := Lib.hid hN
        clear hbl hT hP hown hN hblk
        obtain ⟨wo, hwo⟩ : ∃ wo : World, wo = wr := ⟨_, rfl⟩
        rw [← hwo] at HO HL HBK c0 c1 ⊢
        clear hwo
        go_wp2_with fail
        refine (near_c _ _ g p _ ((HG.out.below HL.out).below ((Below.refl _ _).alloc (Nat.le_refl _) _)) hs HPP.out.1 hp2).mono ?_
        rintro e w3 ⟨v3, rfl, hown3, hnn3, hb3⟩
        obtain ⟨bq, cq, rfl, -, hbq, hcell3⟩ := own_form hown3 hnn3
        have HC3 := Lib.hid hcell3
        have HPC := Lib.hid (show w3.cell? ⟨wo.heap.size, 0, none⟩ = some (.int .i64 p.1) ∧ w3.cell? ⟨wo.heap.size, 1, none⟩ = some (.int .i64 p.2) from ⟨by rw [box_cell hb3]; go_cell, by rw [box_cell hb3]; go_cell⟩)
        have HB3 := Lib.hid (below_from hb3)
        have HQI := Lib.hid (fun i (hi : i < (nearL g p).length) => HNI.out p _ (place_mem hi))
        have hlq : (nearL g p).length ≤ 4 := nearTo_len _ _ _ _
        have HPB1 := Lib.hid (show pitB g p = soFar ((nearL g p).map (atG g)).length (atG g p) ((nearL g p).map (atG g)) ((nearL g p).map (atG g)).length from HPB.out p)
        clear hown3 hnn3 hcell3 hb3 c0 c1
        generalize nearL g p = LQ at HC3 HQI HPB1 hlq ⊢
        have HSB := Lib.hid (show decide (0 < LQ.length) = soFar (LQ.map (atG g)).length (atG g p) (LQ.map (atG g)) 0 by rw [soFar_zero, List.length_map]; rfl)
        have HSC := Lib.hid (fun q (hq : q < LQ.length) => show soFar (LQ.map (atG g)).length (atG g p) (LQ.map (atG g)) (q + 1) = (soFar (LQ.map (atG g)).length (atG g p) (LQ.map (atG g)) q && decide (atG g p < atG g (LQ.getD q (0, 0)))) by rw [soFar_succ (by simpa using hq), map_nth hq])
        have HEND := Lib.hid (show pitB g p = soFar (LQ.map (atG g)).length (atG g p) (LQ.map (atG g)) LQ.length by rw [HPB1.out, List.length_map])
        clear HPB1
        generalize soFar (LQ.map (atG g)).length (atG g p) (LQ.map (atG g)) = S at HSB HSC HEND
        go_wp2_with fail
        rw [HSB.out]
        go_loopw [8, 30] (fun v i wi => ∃ q : Nat, q ≤ LQ.length ∧ i = .int .i64 q ∧ v = .bool (S q) ∧ Below w3.heap.size w3 wi) (fun _ i _ => LQ.length - (intOf i).toNat)
        case atStart => exact ⟨0, Nat.zero_le _, rfl, rfl, Below.refl _ _⟩
        case round =>
          obtain ⟨q, hq, rfl, rfl, hbi⟩ := hrel
          have HLI := Lib.hid hbi
          by_cases hlt2 : q < LQ.length
          · have hS := HSC.out q hlt2
            have hP := HQI.out q hlt2
            have hC := HC3.out q hlt2
            generalize LQ.getD q (0, 0) = r at hS hP hC
            have c0 := (hbi.cell (p := ⟨bq, q * 2, none⟩) hbq).trans hC.1
            have c1 := (hbi.cell (p := ⟨bq, q * 2 + 1, none⟩) hbq).trans hC.2
            have HRR := Lib.hid hP
            have hvr := HV.out r hP
            have hpc := keepP HPC.out hbi
            have HSS := Lib.hid hS
            clear hbi hP hC hS
            have HA := Lib.hid (show Below wr.heap.size wr (wr.alloc (.cells #[.int .i64 r.1, .int .i64 r.2] 67)) from (Below.refl _ _).alloc (Nat.le_refl _) _)
            cases hb : S q
            · have HS2 := Lib.hid (show S (q + 1) = false by rw [HSS.out, hb]; rfl)
              clear hb
              go_wp2_with fail
              go_quiet (fail)
              go_wp2
              go_roundw
              case rel => exact ⟨q + 1, by omega, by go_num, by rw [HS2.out], below_next HLI.out (below_drewN HA.out _)⟩
              case measure => simp [intOf]; omega
            · have HS2 := Lib.hid (show S (q + 1) = decide (atG g p < atG g r) by rw [HSS.out, hb]; rfl)
              clear hb
              go_wp2_with fail
              have e0 : (wr.alloc (.cells #[.int .i64 r.1, .int .i64 r.2] 67)).cell? ⟨wr.heap.size, 0, none⟩ = some (.int .i64 r.1) := by go_cell
              have e1 : (wr.alloc (.cells #[.int .i64 r.1, .int .i64 r.2] 67)).cell? ⟨wr.heap.size, 1, none⟩ = some (.int .i64 r.2) := by go_cell
              have hpc2 := keepP hpc HA.out
              generalize wr.alloc (.cells #[.int .i64 r.1, .int .i64 r.2] 67) = wA at HA e0 e1 hpc2 ⊢
              have HQ := Lib.hid (And.intro hpc2 (And.intro e0 e1))
              have HGX := Lib.hid (show Grid wA a g from ((((HG.out.below HL.out).below HB3.out).below HLI.out).below HA.out))
              clear c0 c1 hpc hpc2 e0 e1
              go_region_held3 (fun w' => w'.cell? ⟨wo.heap.size, 0, none⟩ = some (.int .i64 p.1) ∧ w'.cell? ⟨wo.heap.size, 1, none⟩ = some (.int .i64 p.2) ∧ w'.cell? ⟨wr.heap.size, 0, none⟩ = some (.int .i64 r.1) ∧ w'.cell? ⟨wr.heap.size, 1, none⟩ = some (.int .i64 r.2) ∧ Below wA.heap.size wA w')
                (first | exact keepPQ HQ.out (Below.refl _ _).drew | exact keepPQ HQ.out (below_next (Below.refl _ _).drew hb4) | exact keepPQ HQ.out (below_next (below_next (Below.refl _ _).drew hb4) hb5) | go_keep)
                (first | (go_at_call 60; refine call_below (of_c _ _ _ _ _ ?_ hs ?_ ?_) ?_; (first | exact HGX.out.below (Below.refl _ _).drew | exact HGX.out.below (below_next (Below.refl _ _).drew hb4)); (first | exact HPP.out.1 | exact HRR.out.1); (first | exact HPP.out.2 | exact HRR.out.2); (first | (have hx := hb4; clear hx; intro w5 hb5) | intro w4 hb4)))
              go_wp2
              go_roundw
              case rel => exact ⟨q + 1, by omega, by go_num, by rw [HS2.out], below_next HLI.out (below_next HA.out (below_next (below_next (Below.refl _ _).drew hb4) hb5))⟩
              case measure => simp [intOf]; omega
          · obtain rfl : q = LQ.length := by omega
            rw [← HEND.out]
            have HLX := Lib.hid (below_next HB3.out HLI.out)
            have HO3 := Lib.hid (HO.out.below (Nat.le_refl _) HLX.out)
            have HBK3 := Lib.hid (blk_keep HBK.out HLX.out)
            have HPX := Lib.hid (keepP HPC.out hbi)
            have HS3 := Lib.hid HLX.out.size
            have HL3 := Lib.hid (below_next HL.out HLX.out)
            clear hbi
            cases hE : pitB g p
            · have HU := Lib.hid (HTT.out.1 hE)
              clear hE
              go_wp2
              go_roundw
              case rel => exact ⟨j + 1, by omega, by go_num, by rw [HU.out]; exact HO3.out.wide HS3.out, HL3.out, HBK3.out⟩
              case measure => simp [intOf]; omega
            · have HU := Lib.hid (HTT.out.2 hE)
              obtain ⟨d0, d1⟩ := HPX.out
              clear hE
              go_wp2_with fail
              refine (pair_c p _).mono ?_
              rintro e w4 ⟨br, rfl, ⟨hbr0, hbr1⟩, hrc, hb4⟩
              obtain ⟨r, cc, hown, hnn, hrows, hdist, hv⟩ := (HO3.out.wide HS3.out).below (Nat.le_refl _) hb4
              have HROW := Lib.hid (And.intro hrows (And.intro hdist (And.intro hv hrc)))
              have HOW := Lib.hid hown
              have HL4 := Lib.hid (below_next HL3.out hb4)
              have HBK4 := Lib.hid (blk_keep HBK3.out hb4)
              have HZ3 := Lib.hid HL3.out.size
              clear hrows hdist hv hown hnn hb4 d0 d1 hrc
              go_wp2_with (at_builtin; refine wpList_append_own _ rfl _ _ 22 rfl w.heap.size 32 j0 (.slice none 0 0) 1 24 Try.underlying22 hj hy0 hy1 hy2 rfl (by decide) _ _ _ rfl (HOW.out.alloc _) ⟨w4.heap.size, 0, none⟩ 1 1 [.slice (some ⟨br, 0, none⟩) 2 2] rfl rfl (own_new1 _ _ _) ?d2 ?d3 ?d4 ?d5 ?_)
              case d2 => (first | rfl | (intro u hu; simp at hu; subst hu; rfl))
              case d3 => have := HN.out; unfold maxLen; omega
              case d4 => have := HN.out; omega
              case d5 => have := HL4.out.size; simp; omega
              · intro v' w5 hown' hgrow hnil
                have hz3 := HZ3.out
                have hz4 := HL4.out.size
                have HB5 := Lib.hid (show Below w.heap.size w w5 from below_grown (HL4.out.alloc (by omega) _) (by simp; omega) hgrow fun q hq => (HOW.out.lt q hq).1)
                have HBK5 := Lib.hid (blk_grown HBK4.out HOW.out hgrow)
                have HX := Lib.hid (show OwnG w.heap.size w5.heap.size w5 v' (pairsG ((L.take (j + 1)).filter (pitB g))) by
                  rw [HU.out]
                  exact own_push HOW.out HROW.out.1 HROW.out.2.1 HROW.out.2.2.1 hbr0 (by omega) hbr1 (by simp) HROW.out.2.2.2 hown' hgrow hnil)
                clear hown' hgrow hnil
                go_wp2
                go_roundw
                case rel => exact ⟨j + 1, by omega, by go_num, HX.out, HB5.out, HBK5.out⟩
                case measure => simp [intOf]; omega
      · obtain rfl : j = L.length := by omega
        clear hbl hown hblk
        go_wp2
        go_ret2
        obtain ⟨a', cap', rfl, hr⟩ := HO.out.gridA
        exact ⟨a', cap', by rw [HZ.out, HCD.out]; rfl, by rw [HZ.out]; exact hr, HL.out⟩
theorem arL_len (g : List (List Int)) (p : Nat × Nat) : (arL g p).length ≤ 8 := by
  have := arL_len3 g p
  unfold arL
  rw [List.length_append]
  have h2 : (arD g p).length ≤ 1 := by unfold arD; split <;> simp
  omega
set_option maxRecDepth 100000 in
set_option maxHeartbeats 1000000 in
theorem s_c (a : Option Addr) (cap : Nat) (g : List (List Int)) (w : World) (h : Grid w a g) (hs : Small g) :
    Calls Try.prog 53 #[.slice a g.length cap] w fun e w' => ∃ a' cap', e = .returned (.tuple #[.slice a' (fZ g).length cap', .int .i64 (fC g)]) ∧ (GridA w.heap.size w'.heap.size w' a' (fZ g) ∧ Below w.heap.size w w') := by
  have hn := hs.len
  cases h1 : gridB 0 1000 g
  · go_enter Try.func53, Try.ntmps53
    go_wp2_with fail
    refine call_below (l07Ok_c _ _ g _ h hs) ?_
    rw [h1]
    intro w1 hb1
    go_wp2
    go_ret2
    exact ⟨none, 0, by simp [fZ, fC, h1], .inl (by simp [fZ, h1]), hb1⟩
  · obtain ⟨j0', hj, hy0, hy1, hy2⟩ := info_parts infoS
    have ok := gridB_true h1
    have HOK := Lib.hid ok
    have HPE := Lib.hid (fun k c (hk : k < g.length) (hc : c < (nthL g k).length) => pit_eq ok (p := (k, c)) hk hc)
    have HZ := Lib.hid (show fZ g = pairsG ((plTo g g.length).filter (pitB g)) by simp [fZ, h1, chosenG])
    have HC := Lib.hid (show fC g = 0 by simp [fC, h1])
    have HLN := Lib.hid (show ∀ k c, k < g.length → c ≤ (nthL g k).length → (pairsG ((plTo g k ++ rowPl k c).filter (pitB g))).length ≤ 110 from fun k c hk hc => by
      have h2 := sumL_le (m := 10) (fun j hj => (ok.len hj).2) k (by omega)
      have h3 := (ok.len hk).2
      have h4 := ok.rows
      unfold pairsG
      rw [List.length_map]
      refine Nat.le_trans (List.length_filter_le _ _) ?_
      rw [List.length_append, plTo_len, rowPl_len]
      omega)
    clear ok
    go_enter Try.func53, Try.ntmps53
    go_wp2_with fail
    refine call_below (l07Ok_c _ _ g _ h hs) ?_
    rw [h1]
    intro w1 hb1
    have HG := Lib.hid (h.below hb1)
    have HB1 := Lib.hid hb1
    clear h hb1 h1
    go_wp2
    go_loopw [4, 5] (fun v i wr => ∃ k : Nat, k ≤ g.length ∧ i = .int .i64 k ∧ OwnG w1.heap.size wr.heap.size wr v (pairsG ((plTo g k).filter (pitB g))) ∧ Below w1.heap.size w1 wr) (fun _ i _ => g.length - (intOf i).toNat)
    case atStart => exact ⟨0, Nat.zero_le _, rfl, OwnG.start (World.ownsRow_made w1 #[] 0 (Nat.le_refl _) (Nat.zero_le _) rfl) (by simp) (Nat.le_refl _), (Below.refl _ _).alloc (Nat.le_refl _) _⟩
    case round =>
      obtain ⟨k, hk, rfl, hown, hbl⟩ := hrel
      have HO := Lib.hid hown
      have HL := Lib.hid hbl
      clear hown
      by_cases hlt : k < g.length
      · obtain ⟨b, o, rfl, hb, ar, cr, hc, hnu⟩ := (HG.out.below hbl).pos hlt
        have hrow := hs.row hlt
        clear hnu hbl
        obtain ⟨wo, hwo⟩ : ∃ wo : World, wo = wr := ⟨_, rfl⟩
        rw [← hwo] at HO HL hc hb ⊢
        clear hwo
        go_wp2_with fail
        clear hc
        go_loopw [4, 6] (fun v i wr => ∃ c : Nat, c ≤ (nthL g k).length ∧ i = .int .i64 c ∧ OwnG w1.heap.size wr.heap.size wr v (pairsG ((plTo g k ++ rowPl k c).filter (pitB g))) ∧ Below w1.heap.size w1 wr) (fun _ i _ => (nthL g k).length - (intOf i).toNat)
        case atStart => exact ⟨0, Nat.zero_le _, rfl, by simpa [rowPl] using HO.out, HL.out⟩
        case round =>
          obtain ⟨c, hcl, rfl, hown, hbl⟩ := hrel
          have HO2 := Lib.hid hown
          have HL2 := Lib.hid hbl
          have HLEN := Lib.hid (HLN.out k c hlt hcl)
          clear hown
          obtain ⟨ak, ck, hc, hnu⟩ := (HG.out.below hbl).at_ hlt
          by_cases hct : c < (nthL g k).length
          · obtain ⟨b2, o2, rfl, hb2, hc2⟩ := hnu.pos hct
            have j0 : (0 : Int) ≤ (k : Int) := by omega
            have j1 : (k : Int) < (g.length : Int) := by omega
            have j2 : (0 : Int) ≤ (c : Int) := by omega
            have j3 : (c : Int) < ((nthL g k).length : Int) := by omega
            cases hE : pitB g (k, c)
            · have HU := Lib.hid (show pairsG ((plTo g k ++ rowPl k (c + 1)).filter (pitB g)) = pairsG ((plTo g k ++ rowPl k c).filter (pitB g)) by
                rw [rowPl_succ, ← List.append_assoc, List.filter_append]; simp [hE])
              have HD := Lib.hid (show pitS g (k, c) = false from (HPE.out k c hlt hct).trans hE)
              have HQW := Lib.hid hc2
              clear hE hnu hbl hc2
              go_wp2_with fail
              refine (l07Around_c _ _ g 0 1000 (k, c) _ (HG.out.below HL2.out) hs HOK.out hlt hct).mono ?_
              rintro e wq ⟨bA, cA, rfl, hnA, hbA⟩
              have HNA := Lib.hid hnA
              have HBA := Lib.hid hbA
              clear hc
              obtain ⟨ak', ck', hc, hnu⟩ := (HG.out.below (below_next HL2.out hbA)).at_ hlt
              have HNU := Lib.hid hnu
              have HCC := Lib.hid hc
              have hla : (arL g (k, c)).length ≤ 8 := arL_len g (k, c)
              have HEND := Lib.hid (show soFar (arL g (k, c)).length (atG g (k, c)) (arL g (k, c)) (arL g (k, c)).length = false by rw [soFar_all]; exact HD.out)
              have HSB := Lib.hid (show decide (0 < (arL g (k, c)).length) = soFar (arL g (k, c)).length (atG g (k, c)) (arL g (k, c)) 0 by rw [soFar_zero]; rfl)
              have HSC := Lib.hid (fun q (hq : q < (arL g (k, c)).length) => soFar_succ (n := (arL g (k, c)).length) (m := atG g (k, c)) hq)
              clear hnA hbA hnu hc
              generalize soFar (arL g (k, c)).length (atG g (k, c)) (arL g (k, c)) = S at HEND HSB HSC
              generalize arL g (k, c) = LA at HNA HEND HSB HSC hla ⊢
              obtain ⟨wo, hwo⟩ : ∃ wo : World, wo = wr := ⟨_, rfl⟩
              rw [← hwo] at HO2 HL2 HBA
              clear hwo
              go_wp2_with fail
              rw [HSB.out]
              go_loopw [8, 9] (fun v i wi => ∃ q : Nat, q ≤ LA.length ∧ i = .int .i64 q ∧ v = .bool (S q) ∧ Drawn wq wi) (fun _ i _ => LA.length - (intOf i).toNat)
              case atStart => exact ⟨0, Nat.zero_le _, rfl, rfl, Drawn.refl _⟩
              case round =>
                obtain ⟨q, hq, rfl, rfl, hdr⟩ := hrel
                have HDR := Lib.hid hdr
                by_cases hqt : q < LA.length
                · have HSS := Lib.hid (HSC.out q hqt)
                  cases hb : S q
                  · have HS2 := Lib.hid (show S (q + 1) = false by rw [HSS.out, hb]; rfl)
                    clear hb hdr
                    go_wp2_with fail
                    go_quiet (fail)
                    go_wp2
                    go_roundw
                    case rel => exact ⟨q + 1, by omega, by go_num, by rw [HS2.out], HDR.out.step _⟩
                    case measure => simp [intOf]; omega
                  · have HS2 := Lib.hid (show S (q + 1) = decide (atG g (k, c) < nth LA q) by rw [HSS.out, hb]; rfl)
                    obtain ⟨_, _, eA, _, hcA⟩ := (HNA.out.below hdr.below).pos hqt
                    obtain ⟨rfl, rfl⟩ : bA = _ ∧ 0 = _ := by simpa using eA
                    rw [Nat.zero_add] at hcA
                    have hcG := cell_keep HCC.out hdr.below
                    obtain ⟨b3, o3, rfl, hb3, hc3⟩ := (HNU.out.below hdr.below).pos hct
                    rw [show nth (nthL g k) c = atG g (k, c) from rfl] at hc3
                    have q0 : (0 : Int) ≤ (q : Int) := by omega
                    have q1 : (q : Int) < (LA.length : Int) := by omega
                    clear hb hdr eA
                    go_wp2_with fail
                    go_quiet (fail)
                    go_wp2
                    go_roundw
                    case rel => exact ⟨q + 1, by omega, by go_num, by rw [HS2.out], HDR.out.step _⟩
                    case measure => simp [intOf]; omega
                · obtain rfl : q = LA.length := by omega
                  rw [HEND.out]
                  have HX2 := Lib.hid (show Below wo.heap.size wo wr from below_next HBA.out hdr.below)
                  clear hdr
                  go_wp2
                  go_roundw
                  case rel => exact ⟨c + 1, by omega, by go_num, by rw [HU.out]; exact (HO2.out.below (Nat.le_refl _) HX2.out).wide HX2.out.size, below_next HL2.out HX2.out⟩
                  case measure => simp [intOf]; omega
            · have HU := Lib.hid (show pairsG ((plTo g k ++ rowPl k (c + 1)).filter (pitB g)) = pairsG ((plTo g k ++ rowPl k c).filter (pitB g)) ++ [[(k : Int), (c : Int)]] by
                rw [rowPl_succ, ← List.append_assoc, List.filter_append, ← pairs_snoc _ (k, c)]; simp [hE])
              have HD := Lib.hid (show pitS g (k, c) = true from (HPE.out k c hlt hct).trans hE)
              have HQW := Lib.hid hc2
              clear hE hnu hbl hc2
              go_wp2_with fail
              refine (l07Around_c _ _ g 0 1000 (k, c) _ (HG.out.below HL2.out) hs HOK.out hlt hct).mono ?_
              rintro e wq ⟨bA, cA, rfl, hnA, hbA⟩
              have HNA := Lib.hid hnA
              have HBA := Lib.hid hbA
              clear hc
              obtain ⟨ak', ck', hc, hnu⟩ := (HG.out.below (below_next HL2.out hbA)).at_ hlt
              have HNU := Lib.hid hnu
              have HCC := Lib.hid hc
              have hla : (arL g (k, c)).length ≤ 8 := arL_len g (k, c)
              have HEND := Lib.hid (show soFar (arL g (k, c)).length (atG g (k, c)) (arL g (k, c)) (arL g (k, c)).length = true by rw [soFar_all]; exact HD.out)
              have HSB := Lib.hid (show decide (0 < (arL g (k, c)).length) = soFar (arL g (k, c)).length (atG g (k, c)) (arL g (k, c)) 0 by rw [soFar_zero]; rfl)
              have HSC := Lib.hid (fun q (hq : q < (arL g (k, c)).length) => soFar_succ (n := (arL g (k, c)).length) (m := atG g (k, c)) hq)
              clear hnA hbA hnu hc
              generalize soFar (arL g (k, c)).length (atG g (k, c)) (arL g (k, c)) = S at HEND HSB HSC
              generalize arL g (k, c) = LA at HNA HEND HSB HSC hla ⊢
              obtain ⟨wo, hwo⟩ : ∃ wo : World, wo = wr := ⟨_, rfl⟩
              rw [← hwo] at HO2 HL2 HBA
              clear hwo
              go_wp2_with fail
              rw [HSB.out]
              go_loopw [8, 9] (fun v i wi => ∃ q : Nat, q ≤ LA.length ∧ i = .int .i64 q ∧ v = .bool (S q) ∧ Drawn wq wi) (fun _ i _ => LA.length - (intOf i).toNat)
              case atStart => exact ⟨0, Nat.zero_le _, rfl, rfl, Drawn.refl _⟩
              case round =>
                obtain ⟨q, hq, rfl, rfl, hdr⟩ := hrel
                have HDR := Lib.hid hdr
                by_cases hqt : q < LA.length
                · have HSS := Lib.hid (HSC.out q hqt)
                  cases hb : S q
                  · have HS2 := Lib.hid (show S (q + 1) = false by rw [HSS.out, hb]; rfl)
                    clear hb hdr
                    go_wp2_with fail
                    go_quiet (fail)
                    go_wp2
                    go_roundw
                    case rel => exact ⟨q + 1, by omega, by go_num, by rw [HS2.out], HDR.out.step _⟩
                    case measure => simp [intOf]; omega
                  · have HS2 := Lib.hid (show S (q + 1) = decide (atG g (k, c) < nth LA q) by rw [HSS.out, hb]; rfl)
                    obtain ⟨_, _, eA, _, hcA⟩ := (HNA.out.below hdr.below).pos hqt
                    obtain ⟨rfl, rfl⟩ : bA = _ ∧ 0 = _ := by simpa using eA
                    rw [Nat.zero_add] at hcA
                    have hcG := cell_keep HCC.out hdr.below
                    obtain ⟨b3, o3, rfl, hb3, hc3⟩ := (HNU.out.below hdr.below).pos hct
                    rw [show nth (nthL g k) c = atG g (k, c) from rfl] at hc3
                    have q0 : (0 : Int) ≤ (q : Int) := by omega
                    have q1 : (q : Int) < (LA.length : Int) := by omega
                    clear hb hdr eA
                    go_wp2_with fail
                    go_quiet (fail)
                    go_wp2
                    go_roundw
                    case rel => exact ⟨q + 1, by omega, by go_num, by rw [HS2.out], HDR.out.step _⟩
                    case measure => simp [intOf]; omega
                · obtain rfl : q = LA.length := by omega
                  rw [HEND.out]
                  have HX2 := Lib.hid (show Below wo.heap.size wo wr from below_next HBA.out hdr.below)
                  clear hdr
                  obtain ⟨wx, hwx⟩ : ∃ wx : World, wx = wr := ⟨_, rfl⟩
                  rw [← hwx] at HX2 ⊢
                  clear hwx
                  have HBX := Lib.hid (show Below wx.heap.size wx (wx.alloc (.cells #[.int .i64 k, .int .i64 c] 2)) from (Below.refl _ _).alloc (Nat.le_refl _) _)
                  have hz1 : (wx.alloc (.cells #[.int .i64 k, .int .i64 c] 2)).heap.size = wx.heap.size + 1 := by simp
                  have hrc : RowC (wx.alloc (.cells #[.int .i64 k, .int .i64 c] 2)) wx.heap.size 2 (nth [(k : Int), (c : Int)]) := by
                    intro j hj
                    obtain rfl | rfl : j = 0 ∨ j = 1 := by omega
                    · exact ⟨by rw [show nth [(k : Int), (c : Int)] 0 = k from rfl]; go_cell, by go_cell⟩
                    · exact ⟨by rw [show nth [(k : Int), (c : Int)] 1 = c from rfl]; go_cell, by go_cell⟩
                  obtain ⟨r, cc, hown, hnn, hrows, hdist, hv⟩ := ((HO2.out.below (Nat.le_refl _) HX2.out).wide HX2.out.size).below (Nat.le_refl _) HBX.out
                  have HROW := Lib.hid (And.intro hrows (And.intro hdist (And.intro hv (And.intro hrc hz1))))
                  have HOW := Lib.hid hown
                  have HL4 := Lib.hid (below_next (below_next HL2.out HX2.out) HBX.out)
                  have HZX := Lib.hid (below_next HL2.out HX2.out).size
                  clear hrows hdist hv hown hnn hrc hz1
                  go_wp2_with (at_builtin; refine wpList_append_own _ rfl _ _ 22 rfl w1.heap.size 32 j0' (.slice none 0 0) 1 24 Try.underlying22 hj hy0 hy1 hy2 rfl (by decide) _ _ _ rfl (HOW.out.alloc _) ⟨wx.heap.size + 1, 0, none⟩ 1 1 [.slice (some ⟨wx.heap.size, 0, none⟩) 2 2] rfl rfl (own_new1b _ _ _ _ (by simp)) ?d2 ?d3 ?d4 ?d5 ?_)
                  case d2 => (first | rfl | (intro u hu; simp at hu; subst hu; rfl))
                  case d3 => have := HLEN.out; unfold maxLen; omega
                  case d4 => have := HLEN.out; omega
                  case d5 => have := HZX.out; simp; omega
                  · intro v' w5 hown' hgrow hnil
                    have hz4 := HZX.out
                    have HB5 := Lib.hid (show Below w1.heap.size w1 w5 from below_grown (HL4.out.alloc (by simp; omega) _) (by simp; omega) hgrow fun q hq => (HOW.out.lt q hq).1)
                    have HXX := Lib.hid (show OwnG w1.heap.size w5.heap.size w5 v' (pairsG ((plTo g k ++ rowPl k (c + 1)).filter (pitB g))) by
                      rw [HU.out]
                      exact own_push HOW.out HROW.out.1 HROW.out.2.1 HROW.out.2.2.1 (by have := HX2.out.size; omega) (by omega) (by simp) (by simp) HROW.out.2.2.2.1 (by have h9 := hown'; rw [← List.filter_append] at h9; exact h9) hgrow hnil)
                    clear hown' hgrow hnil
                    go_wp2
                    go_roundw
                    case rel => exact ⟨c + 1, by omega, by go_num, HXX.out, HB5.out⟩
                    case measure => simp [intOf]; omega
          · obtain rfl : c = (nthL g k).length := by omega
            clear hnu hbl
            go_wp2
            go_roundw
            case rel => exact ⟨k + 1, by omega, by go_num, HO2.out, HL2.out⟩
            case measure => simp [intOf]; omega
      · obtain rfl : k = g.length := by omega
        clear hbl
        go_wp2
        go_ret2
        obtain ⟨a', cap', rfl, hr⟩ := HO.out.gridA
        exact ⟨a', cap', by rw [HZ.out, HC.out]; rfl, by rw [HZ.out]; exact hr.wide HB1.out.size (Nat.le_refl _), below_next HB1.out HL.out⟩
set_option maxRecDepth 100000 in
set_option maxHeartbeats 1000000 in
theorem walk (a0 : Option Addr) (cap0 : Nat) (z0 : List (List Int)) (w : World) (h0 : Grid w a0 z0) (hm0 : z0.length ≤ maxLen) (hr0 : ∀ j, j < z0.length → (nthL z0 j).length ≤ maxLen) :
    Calls Try.prog 14 #[.slice a0 z0.length cap0] w fun e w' => e = .returned (.bool true) ∧ Below w.heap.size w w' := by
  have hZ := f_small z0 
  have HZ := Lib.hid hZ
  clear hZ
  by_cases hn0 : ((z0.length + sumL z0 z0.length : Nat) : Int) ≤ 1048576
  rotate_left
  · have HN0 := Lib.hid hn0
    clear hn0
    go_enter Try.func14, Try.ntmps14
    go_wp2_with fail
    refine call_same (szInt64SS_c a0 cap0 z0 _ _ h0 hm0 hr0 (by omega) (by omega)) ?_
    rw [szF_no]
    rotate_left
    · have := HN0.out; omega
    go_wp2
    go_ret
    exact ⟨rfl, Below.refl _ _⟩
  have hS0 : Small z0 := by unfold Small; omega
  have HN0 := Lib.hid hn0
  have HS0 := Lib.hid hS0
  have hq0 : (z0.length : Int) + (sumL z0 z0.length : Int) ≤ 1048576 := by omega
  clear hn0 hS0
  go_enter Try.func14, Try.ntmps14
  go_wp2_with fail
  refine call_same (szInt64SS_c a0 cap0 z0 _ _ h0 hm0 hr0 (by omega) (by omega)) ?_
  rw [szF_yes]
  rotate_left
  · have := HN0.out; omega
  go_wp2_with fail
  refine call_pred (toInt64SS_c a0 cap0 z0 _ h0 HS0.out) ?_
  rintro w1 ⟨r1, b1⟩
  have HA1 := Lib.hid b1
  have HY1 := Lib.hid (Laid.grid r1)
  clear r1 b1
  go_wp2_with fail
  refine (s_c _ _ z0 _ HY1.out HS0.out).mono ?_
  rintro e2 w2 ⟨a2, c2, rfl, r2, b2⟩
  have HA2 := Lib.hid (below_next HA1.out b2)
  have HW2 := Lib.hid r2.grid
  clear r2 b2 HY1
  go_wp2_with fail
  refine call_pred (toInt64SS_c a0 cap0 z0 _ (h0.below HA2.out) HS0.out) ?_
  rintro w3 ⟨r3, b3⟩
  have HA3 := Lib.hid (below_next HA2.out b3)
  have HB3 := Lib.hid b3
  have HX3 := Lib.hid (Laid.gridA r3)
  have HC3 := Lib.hid (Nat.le_refl w3.heap.size)
  clear r3 b3
  go_wp2_with fail
  refine (i_c _ _ z0 _ HX3.out.grid HS0.out).mono ?_
  rintro e4 w4 ⟨a4, c4, rfl, r4, b4⟩
  have HA4 := Lib.hid (below_next HA3.out b4)
  have HB4 := Lib.hid (below_next HB3.out b4)
  have HX4 := Lib.hid (HX3.out.below HC3.out b4)
  have HC4 := Lib.hid (Nat.le_trans HC3.out b4.size)
  have HG4 := Lib.hid r4
  have HD4 := Lib.hid (Nat.le_refl w4.heap.size)
  clear r4 b4
  go_wp2_with fail
  refine call_below (eqInt64SS_c a4 a2 _ _ (fZ z0 ) _ HG4.out.grid (HW2.out.below HB4.out) HZ.out) ?_
  intro w5 b5
  have HA5 := Lib.hid (below_next HA4.out b5)
  have HB5 := Lib.hid (below_next HB4.out b5)
  have HX5 := Lib.hid (HX4.out.below HC4.out b5)
  have HG5 := Lib.hid (HG4.out.below HD4.out b5)
  have HC5 := Lib.hid (Nat.le_trans HC4.out b5.size)
  have HD5 := Lib.hid (Nat.le_trans HD4.out b5.size)
  clear b5
  go_wp2_with fail
  refine call_pred (toInt64SS_c a0 cap0 z0 _ (h0.below HA5.out) HS0.out) ?_
  rintro w6 ⟨r6, b6⟩
  have HA6 := Lib.hid (below_next HA5.out b6)
  have HB6 := Lib.hid (below_next HB5.out b6)
  have HX6 := Lib.hid (HX5.out.below HC5.out b6)
  have HG6 := Lib.hid (HG5.out.below HD5.out b6)
  have HC6 := Lib.hid (Nat.le_trans HC5.out b6.size)
  have HD6 := Lib.hid (Nat.le_trans HD5.out b6.size)
  have HY6 := Lib.hid (Laid.grid r6)
  clear r6 b6
  go_wp2_with fail
  refine call_below (eqInt64SS_c _ _ _ _ z0 _ HX6.out.grid HY6.out HS0.out) ?_
  intro w7 b7
  have HA7 := Lib.hid (below_next HA6.out b7)
  have HB7 := Lib.hid (below_next HB6.out b7)
  have HX7 := Lib.hid (HX6.out.below HC6.out b7)
  have HG7 := Lib.hid (HG6.out.below HD6.out b7)
  have HC7 := Lib.hid (Nat.le_trans HC6.out b7.size)
  have HD7 := Lib.hid (Nat.le_trans HD6.out b7.size)
  clear b7 HY6
  go_wp2_with fail
  refine call_pred (markInt64SS_c _ _ _ _ z0 1 _ HX7.out HS0.out (by omega) (by omega)) ?_
  rintro w8 ⟨r8, md8⟩
  have HA8 := Lib.hid (HA7.out.trans (md8.below.mono HA2.out.size))
  have HB8 := Lib.hid (HB7.out.trans (md8.below))
  have HG8 := Lib.hid (HG7.out.mid md8 (.inl (Nat.le_refl _)))
  have HC8 := Lib.hid (Nat.le_trans HC7.out (Nat.le_of_eq md8.size.symm))
  have HD8 := Lib.hid (Nat.le_trans HD7.out (Nat.le_of_eq md8.size.symm))
  clear md8 HX3 HX4 HX5 HX6 HX7 r8
  go_wp2_with fail
  refine call_below (eqInt64SS_c a4 a2 _ _ (fZ z0 ) _ HG8.out.grid (HW2.out.below HB8.out) HZ.out) ?_
  intro w9 b9
  have HA9 := Lib.hid (below_next HA8.out b9)
  have HB9 := Lib.hid (below_next HB8.out b9)
  have HG9 := Lib.hid (HG8.out.below HD8.out b9)
  have HC9 := Lib.hid (Nat.le_trans HC8.out b9.size)
  have HD9 := Lib.hid (Nat.le_trans HD8.out b9.size)
  clear b9
  go_wp2_with fail
  refine call_pred (markInt64SS_c _ _ a4 _ (fZ z0 ) 1 _ HG9.out HZ.out (by omega) (by omega)) ?_
  rintro w10 ⟨r10, md10⟩
  have HA10 := Lib.hid (HA9.out.trans (md10.below.mono HA3.out.size))
  have HB10 := Lib.hid (HB9.out.trans (md10.below.mono HB3.out.size))
  have HC10 := Lib.hid (Nat.le_trans HC9.out (Nat.le_of_eq md10.size.symm))
  have HD10 := Lib.hid (Nat.le_trans HD9.out (Nat.le_of_eq md10.size.symm))
  have HG10 := Lib.hid r10
  clear r10 md10
  go_wp2_with fail
  refine call_same (heldInt64SS_c a4 _ 1 (fZ z0 ) _ HG10.out.grid HZ.out (by omega) (by omega)) ?_
  go_wp2_with fail
  refine call_pred (toInt64SS_c a0 cap0 z0 _ (h0.below HA10.out) HS0.out) ?_
  rintro w11 ⟨r11, b11⟩
  have HA11 := Lib.hid (below_next HA10.out b11)
  have HB11 := Lib.hid (below_next HB10.out b11)
  have HG11 := Lib.hid (HG10.out.below HD10.out b11)
  have HC11 := Lib.hid (Nat.le_trans HC10.out b11.size)
  have HD11 := Lib.hid (Nat.le_trans HD10.out b11.size)
  have HY11 := Lib.hid (Laid.grid r11)
  clear r11 b11
  go_wp2_with fail
  refine (i_c _ _ z0 _ HY11.out HS0.out).mono ?_
  rintro e12 w12 ⟨a12, c12, rfl, r12, b12⟩
  have HA12 := Lib.hid (below_next HA11.out b12)
  have HB12 := Lib.hid (below_next HB11.out b12)
  have HG12 := Lib.hid (HG11.out.below HD11.out b12)
  have HC12 := Lib.hid (Nat.le_trans HC11.out b12.size)
  have HD12 := Lib.hid (Nat.le_trans HD11.out b12.size)
  have HH12 := Lib.hid r12.grid
  clear r12 b12
  go_wp2_with fail
  refine call_below (eqInt64SS_c a12 a2 _ _ (fZ z0 ) _ HH12.out (HW2.out.below HB12.out) HZ.out) ?_
  intro w13 b13
  have HA13 := Lib.hid (below_next HA12.out b13)
  have HB13 := Lib.hid (below_next HB12.out b13)
  have HG13 := Lib.hid (HG12.out.below HD12.out b13)
  have HC13 := Lib.hid (Nat.le_trans HC12.out b13.size)
  have HD13 := Lib.hid (Nat.le_trans HD12.out b13.size)
  clear b13
  go_wp2_with fail
  refine call_same (heldInt64SS_c a4 _ 1 (fZ z0 ) _ HG13.out.grid HZ.out (by omega) (by omega)) ?_
  go_wp2
  go_ret
  exact ⟨rfl, HA13.out⟩

theorem own : ownKnob Try.prog.godebug = none := by kernel_rfl
theorem laidOut : laidOutB Try.prog = true := by kernel_rfl
set_option maxRecDepth 100000 in
theorem lifted (os : Os) (started : os.Started) (H : Type) (enc : TypeId × Value → H) :
    ReturnsInHanded {} Try.checked os 14 .any (Rows.fnExactPitsOfSpec.pre6 enc Try.prog Try.f14 Rows.fnExactPitsOfRow.domain false) (Rows.fnExactPitsOfSpec.post enc Try.prog Try.f14 false true false false) := by
  refine returnsInHanded_of_change (C := Try.checked) own started (by kernel_rfl) Try.func14
    (ChangeSpec.witness6 (enc := enc) (C := Try.checked) false ⟨#[], #[.slice none 0 0], []⟩ 8 (by kernel_rfl) (by kernel_rfl) (by kernel_rfl) (by kernel_rfl)) ?_
  intro W base args ds gs before hval0 hW hcnd _
  have hval : ∀ (j : Nat) t v, Try.f14.params[j]? = some t → args[j]? = some v → Value.okWide Try.prog W .any base t v := hval0
  have hW' := hW
  obtain ⟨p, q, hA0, hV, rfl, hfz, hnd⟩ := hW
  have hA : DataW.TrodAll enc Try.prog W 0 (fun _ => true) true Try.f14.params.toList args.toList ds p := hA0
  rw [Try.params14] at hA hval
  obtain ⟨v0, vs0, d0, ds0, p0, q0, hargs, rfl, rfl, h0, r0⟩ := trodAll_cons hA
  obtain ⟨rfl, rfl, rfl⟩ := trodAll_nil r0
  obtain rfl : args = #[v0] := by cases args; simp_all
  obtain ⟨rfl, rfl⟩ := trodVars_none hV
  have k0 := h0
  have lt0 : ∀ x ∈ p0, x.block < W.heap.size := by obtain ⟨m, hm⟩ := k0; exact DataW.trod_lt m _ _ _ hm
  obtain ⟨a0, len0, cap0, rfl⟩ := okWide_slice Try.underlying22 (hval 0 22 v0 rfl rfl)
  obtain ⟨z0, rfl, w0, m0, f0⟩ : ∃ g : List (List Int), g.length = len0 ∧ Grid W a0 g ∧ g.length ≤ maxLen ∧ ∀ j, j < g.length → (nthL g j).length ≤ maxLen := by
    obtain ⟨fuel, hf⟩ := h0
    exact grid_open Try.underlying22 Try.underlying32 Try.underlying2 (by kernel_rfl) (by kernel_rfl) hf
  clear hA0 hval0
  refine (walk a0 cap0 z0 W w0 m0 f0).mono fun e W' ⟨he, bel⟩ => ?_
  subst he
  exact ⟨_, rfl, _, _, _, [], _, [], hW', trodAll_mk1 (shut_bool Try.underlying4 _), (trodAll_cons_mk (Below.trod laidOut (by kernel_rfl) (of_decide_eq_true (by kernel_rfl)) k0 bel lt0) trodAll_mk0), rfl, bel.frame _, fun h => by cases h⟩

theorem over : Rows.fnExactPitsOfRow.holds Try.pinned (OpenSpec.ofChange Rows.fnExactPitsOfSpec) :=
  OpenClaim.holds_of_wide 14 Try.f14 rfl rfl rfl rfl rfl rfl rfl ⟨rfl, rfl, rfl, rfl, rfl⟩ rfl rfl rfl rfl rfl (by kernel_rfl) Try.func14 (by kernel_rfl)
    (of_decide_eq_true (by kernel_rfl)) (by unfold Func.isWrapper; first | (rw [if_pos (by decide +kernel)]; kernel_rfl) | (rw [if_neg (by decide +kernel)]; exact ⟨rfl, rfl⟩))
    (fun os started H enc _ => lifted os started H enc)

/-- THE STATEMENT. -/
theorem proved : Rows.FnExactPitsOfSaid := over
#print axioms proved
end Go.Proofs.Ytejcglenjhkhhaa.lawPitsOf
