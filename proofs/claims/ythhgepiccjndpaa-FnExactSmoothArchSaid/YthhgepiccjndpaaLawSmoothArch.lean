/- The program's SmoothArch returns what the reference's returns, for all arguments. No condition. -/
import Derived.Test.YthhgepiccjndpaaRows
import Derived.Test.YthhgepiccjndpaaSmooth
import Derived.OpenShut
import Derived.ChangeOld
import Derived.Lib.SmallJoins
namespace Go.Proofs.Ythhgepiccjndpaa.lawSmoothArch
open Go.ChangeShapes Go.WideShapes Go.ChangeAt Go.RowKit
set_option linter.unusedVariables false

def smG (g : List (List Int)) : List (List Int) := gridG (smF g) (lenG g) g.length
def fZ (g : List (List Int)) : List (List Int) := if gridB 0 1000 g then smG g else []
def fC (g : List (List Int)) : Int := if gridB 0 1000 g then 0 else 1
theorem f_small (g : List (List Int)) : Small (fZ g) := by
  unfold fZ
  cases h : gridB 0 1000 g
  · simp [Small, sumL]
  · have ok := gridB_true h
    simpa using (show Small (smG g) from gridG_small ok.rows.2 fun i hi => (ok.len hi).2)
theorem i_c (a : Option Addr) (cap : Nat) (g : List (List Int)) (w : World) (h : Grid w a g) (hs : Small g) :
    Calls Try.prog 13 #[.slice a g.length cap] w fun e w' => ∃ a' cap', e = .returned (.tuple #[.slice a' (fZ g).length cap', .int .i64 (fC g)]) ∧ (GridA w.heap.size w'.heap.size w' a' (fZ g) ∧ Below w.heap.size w w') := by
  have hmf : ∀ (fn : Fn) (first cap : Array Value) (w : World), (Instr.makeFunc fn first cap).run Try.prog w = .ok (.func fn first cap) w := fun _ _ _ _ => rfl
  have HA := Lib.hid (show Below w.heap.size w (w.alloc (.cells #[.slice a g.length cap] 22)) from (Below.refl _ _).alloc (Nat.le_refl _) _)
  have e0 : (w.alloc (.cells #[.slice a g.length cap] 22)).cell? ⟨w.heap.size, 0, none⟩ = some (.slice a g.length cap) := by go_cell
  have HQ := Lib.hid e0
  cases h1 : gridB 0 1000 g
  · go_enter Try.func13, Try.ntmps13
    go_wp2_with fail
    refine call_same (validArch_c _ _ g _ (h.below HA.out) hs) ?_
    rw [h1]
    go_wp2
    go_ret2
    exact ⟨none, 0, by simp [fZ, fC, h1], .inl (by simp [fZ, h1]), HA.out⟩
  · have HZ := Lib.hid (show fZ g = smG g by simp [fZ, h1])
    have HC := Lib.hid (show fC g = 0 by simp [fC, h1])
    have ok := gridB_true h1
    go_enter Try.func13, Try.ntmps13
    go_wp2_with fail
    refine call_same (validArch_c _ _ g _ (h.below HA.out) hs) ?_
    rw [h1]
    go_wp2_with fail
    generalize w.alloc (.cells #[.slice a g.length cap] 22) = wA at HA HQ ⊢
    have HG := Lib.hid (h.below HA.out)
    clear e0 h hmf h1
    refine (mapped_smooth a cap g w.heap.size (smF g) wA HG.out hs (fun j hj => (ok.len hj).1) ?_).mono ?_
    · intro p W h1 h2 hW
      exact smooth1_c p _ a cap g W (HG.out.below hW) hs ok ⟨h1, h2⟩ (cell_keep HQ.out hW)
    · rintro e w2 ⟨v, rfl, hown, hb2⟩
      obtain ⟨a', cap', rfl, hr⟩ := hown.gridA
      have HR := Lib.hid hr
      have HB2 := Lib.hid (below_next HA.out hb2)
      clear hown hr hb2
      go_wp2
      go_ret2
      exact ⟨a', cap', by rw [HZ.out, HC.out]; rfl, by rw [HZ.out]; exact HR.out.wide HA.out.size (Nat.le_refl _), HB2.out⟩

theorem l07Edge_c (a : Option Addr) (cap : Nat) (g : List (List Int)) (p : Nat × Nat) (w : World) (h : Grid w a g) (hs : Small g) (h1 : p.1 < g.length) (hsame : (nthL g p.1).length = (nthL g 0).length) (h2 : p.2 < 1048576) :
    Calls Try.prog 57 #[.slice a g.length cap, .int .i64 p.1, .int .i64 p.2] w fun e w' => e = .returned (.bool (edgeB g p)) ∧ w = w' := by
  have hn := hs.len
  have hr0 := hs.row h1
  obtain ⟨b, o, rfl, hb, ar, cr, hc, hnu⟩ := h.pos h1
  clear h hnu
  by_cases t1 : p.1 = 0
  · have HF := Lib.hid (show edgeB g p = true by simp [edgeB, t1])
    have d1 : ((p.1 : Int) == 0) = true := by simp [t1]
    clear t1
    go_enter Try.func57, Try.ntmps57
    go_wp2
    go_ret
    exact ⟨by rw [HF.out]; rfl, rfl⟩
  have d1 : ((p.1 : Int) == 0) = false := by simp; omega
  by_cases t2 : p.2 = 0
  · have HF := Lib.hid (show edgeB g p = true by simp [edgeB, t2])
    have d2 : ((p.2 : Int) == 0) = true := by simp [t2]
    clear t2
    go_enter Try.func57, Try.ntmps57
    go_wp2
    go_ret
    exact ⟨by rw [HF.out]; rfl, rfl⟩
  have d2 : ((p.2 : Int) == 0) = false := by simp; omega
  by_cases t3 : p.1 + 1 = g.length
  · have HF := Lib.hid (show edgeB g p = true by simp [edgeB, t3])
    have d3 : ((p.1 : Int) == (g.length : Int) - 1) = true := by simp; omega
    have HT := Lib.hid t3
    clear t3
    go_enter Try.func57, Try.ntmps57
    go_wp2
    go_ret
    exact ⟨by rw [HF.out]; rfl, rfl⟩
  have d3 : ((p.1 : Int) == (g.length : Int) - 1) = false := by simp; omega
  have HF := Lib.hid (show edgeB g p = decide (p.2 + 1 = (nthL g 0).length) by simp [edgeB, t1, t2, t3])
  by_cases t4 : p.2 + 1 = (nthL g p.1).length
  · have HF2 := Lib.hid (show edgeB g p = true by rw [HF.out, ← hsame, decide_eq_true t4])
    have d4 : ((p.2 : Int) == ((nthL g p.1).length : Int) - 1) = true := by simp; omega
    have HT := Lib.hid (And.intro t4 hsame)
    clear t4 hsame
    go_enter Try.func57, Try.ntmps57
    go_wp2
    go_ret
    exact ⟨by rw [HF2.out]; rfl, rfl⟩
  · have HF2 := Lib.hid (show edgeB g p = false by rw [HF.out, ← hsame, decide_eq_false t4])
    have d4 : ((p.2 : Int) == ((nthL g p.1).length : Int) - 1) = false := by simp; omega
    have HT := Lib.hid hsame
    clear hsame
    go_enter Try.func57, Try.ntmps57
    go_wp2
    go_ret
    exact ⟨by rw [HF2.out]; rfl, rfl⟩
theorem gridF_wide {B C D : Nat} {w : World} {b : Nat} {r c : Nat → Nat} {g : List (List Int)} {f : Nat → Nat → Int} (h : GridF B C w b r c g f) (hC : C ≤ D) : GridF B D w b r c g f :=
  ⟨⟨h.1.1, Nat.lt_of_lt_of_le h.1.2 hC⟩, fun j hj => ⟨(h.2.1 j hj).1, ⟨(h.2.1 j hj).2.1.1, Nat.lt_of_lt_of_le (h.2.1 j hj).2.1.2.1 hC, (h.2.1 j hj).2.1.2.2⟩, (h.2.1 j hj).2.2⟩, h.2.2⟩
/-- The sum of the first k heights. -/
def sumA (l : List Int) : Nat → Int
  | 0 => 0
  | k + 1 => sumA l k + nth l k
theorem arL_sum {g : List (List Int)} {p : Nat × Nat} (h1 : p.1 < g.length) (h2 : p.2 < (nthL g p.1).length) (hs : (nthL g p.1).length = (nthL g 0).length) (he : edgeB g p = false) :
    (arL g p).length = 4 ∧ sumA (arL g p) (arL g p).length = sumP g (nearL g p) ∧ ∀ x ∈ arL g p, ∃ q : Nat × Nat, (q.1 < g.length ∧ q.2 < (nthL g 0).length) ∧ x = atG g q := by
  simp only [edgeB, Bool.or_eq_false_iff, decide_eq_false_iff_not] at he
  have t0 : 0 < p.1 := by omega
  have t1 : 0 < p.2 := by omega
  have t2 : p.2 + 1 < (nthL g 0).length := by omega
  have t3 : p.1 + 1 < g.length := by omega
  have e : arL g p = [atG g (p.1 - 1, p.2), atG g (p.1 + 1, p.2), atG g (p.1, p.2 - 1), atG g (p.1, p.2 + 1)] := by
    unfold arL arA arB arC arD
    rw [hs]
    simp [t0, t1, t2, t3]
  have e2 : nearL g p = [(p.1 - 1, p.2), (p.1, p.2 - 1), (p.1, p.2 + 1), (p.1 + 1, p.2)] := by
    unfold nearL
    rw [nearL_eq h1 (by omega)]
    simp [t0, t1, t2, t3]
  rw [e, e2]
  refine ⟨rfl, ?_, fun x hx => ?_⟩
  · simp only [List.length_cons, List.length_nil, sumA, sumP, List.map_cons, List.map_nil, List.sum_cons, List.sum_nil]
    simp only [nth, List.getD_cons_zero, List.getD_cons_succ]
    omega
  · simp only [List.mem_cons, List.not_mem_nil, or_false] at hx
    rcases hx with rfl | rfl | rfl | rfl
    · exact ⟨_, ⟨by simp only; omega, by simp only; omega⟩, rfl⟩
    · exact ⟨_, ⟨by simp only; omega, by simp only; omega⟩, rfl⟩
    · exact ⟨_, ⟨by simp only; omega, by simp only; omega⟩, rfl⟩
    · exact ⟨_, ⟨by simp only; omega, by simp only; omega⟩, rfl⟩
theorem sumA_bd {l : List Int} (h : ∀ j, j < l.length → 0 ≤ nth l j ∧ nth l j ≤ 1000) : ∀ k, k ≤ l.length → 0 ≤ sumA l k ∧ sumA l k ≤ 1000 * k
  | 0, _ => by simp [sumA]
  | k + 1, hk => by
    have h1 := sumA_bd h k (by omega)
    have h2 := h k (by omega)
    simp only [sumA]
    omega
theorem mix_same {E : Nat × Nat → Int} {g : List (List Int)} {k m : Nat} (he : E (k, m) = nth (nthL g k) m) (i j : Nat) : mixF E g k m i j = mixF E g k (m + 1) i j := by
  unfold mixF
  by_cases h : i < k ∨ (i = k ∧ j < m)
  · rw [if_pos h, if_pos (by omega)]
  · rw [if_neg h]
    by_cases h1 : i = k ∧ j = m
    · obtain ⟨rfl, rfl⟩ := h1
      rw [if_pos (by omega), he]
    · rw [if_neg (by omega)]

set_option maxRecDepth 100000 in
set_option maxHeartbeats 1000000 in
theorem s_c (a : Option Addr) (cap : Nat) (g : List (List Int)) (w : World) (h : Grid w a g) (hs : Small g) :
    Calls Try.prog 12 #[.slice a g.length cap] w fun e w' => ∃ a' cap', e = .returned (.tuple #[.slice a' (fZ g).length cap', .int .i64 (fC g)]) ∧ (GridA w.heap.size w'.heap.size w' a' (fZ g) ∧ Below w.heap.size w w') := by
  have hn := hs.len
  cases h1 : gridB 0 1000 g
  · go_enter Try.func12, Try.ntmps12
    go_wp2_with fail
    refine call_below (l07Ok_c _ _ g _ h hs) ?_
    rw [h1]
    intro w1 hb1
    go_wp2
    go_ret2
    exact ⟨none, 0, by simp [fZ, fC, h1], .inl (by simp [fZ, h1]), hb1⟩
  · have ok := gridB_true h1
    have HOK := Lib.hid ok
    have hg := ok.rows
    have HV := Lib.hid (fun (p : Nat × Nat) (hp : p.1 < g.length ∧ p.2 < (nthL g p.1).length) => ok.at_ hp)
    have HLE := Lib.hid (fun j (hj : j < g.length) => ok.len hj)
    have HSM := Lib.hid ok.same
    have HT := Lib.hid (show fZ g = gridG (smF g) (lenG g) g.length by simp [fZ, h1, smG])
    have HTL := Lib.hid (show (fZ g).length = g.length by simp [fZ, h1, smG, gridG_len])
    have HC := Lib.hid (show fC g = 0 by simp [fC, h1])
    clear ok
    go_enter Try.func12, Try.ntmps12
    go_wp2_with fail
    refine call_below (l07Ok_c _ _ g _ h hs) ?_
    rw [h1]
    intro w0 hb0
    go_wp2_with fail
    refine (l07Own_c a cap g _ (h.below hb0) hs (fun j hj => (HLE.out j hj).1)).mono ?_
    rintro e w1 ⟨v, rfl, hown, hb1⟩
    obtain ⟨a1, c1, rfl, hga⟩ := hown.gridA
    obtain ⟨bo, r, cc, rfl, hgf⟩ := hga.gridF (by omega)
    have HF0 := Lib.hid (hgf.congr (f' := mixF (smF g) g 0 0) fun j _ k _ => mixF_zero _ _ _ _)
    have HB1 := Lib.hid (below_next hb0 hb1)
    have HG := Lib.hid (h.below (below_next hb0 hb1))
    have HGW := Lib.hid h
    have HSZ := Lib.hid hb0.size
    clear hown hga hgf hb1 hb0 h h1
    go_wp2
    go_loopw [5] (fun i wr => ∃ k : Nat, k ≤ g.length ∧ i = .int .i64 k ∧ GridF w0.heap.size wr.heap.size wr bo r cc g (mixF (smF g) g k 0) ∧ Grid wr a g ∧ Below w.heap.size w wr) (fun i _ => g.length - (intOf i).toNat)
    case atStart => exact ⟨0, Nat.zero_le _, rfl, HF0.out, HG.out, HB1.out⟩
    case round =>
      obtain ⟨k, hk, rfl, hgf, hgr, hbl⟩ := hrel
      have HF := Lib.hid hgf
      have HGR := Lib.hid hgr
      have HL := Lib.hid hbl
      clear hgf HF0 hbl
      by_cases hlt : k < g.length
      · have hrl := HLE.out k hlt
        have hsm := Lib.hid (HSM.out k hlt)
        obtain ⟨b, o, rfl, hb, ar, cr, hc, hnu⟩ := hgr.pos hlt
        obtain ⟨wo, hwo⟩ : ∃ wo : World, wo = wr := ⟨_, rfl⟩
        rw [← hwo] at HF HGR HL hc hb ⊢
        clear hwo hnu
        go_wp2_with fail
        clear hc
        go_loopw [6] (fun i wr => ∃ m : Nat, m ≤ (nthL g k).length ∧ i = .int .i64 m ∧ GridF w0.heap.size wr.heap.size wr bo r cc g (mixF (smF g) g k m) ∧ Grid wr (some ⟨b, o, none⟩) g ∧ Below w.heap.size w wr) (fun i _ => (nthL g k).length - (intOf i).toNat)
        case atStart => exact ⟨0, Nat.zero_le _, rfl, HF.out, HGR.out, HL.out⟩
        case round =>
          obtain ⟨m, hm, rfl, hgf, hgr, hbl⟩ := hrel
          have HF2 := Lib.hid hgf
          have HGR2 := Lib.hid hgr
          have HL2 := Lib.hid hbl
          clear hgf hbl
          obtain ⟨ak, ck, hc, hnu⟩ := hgr.at_ hlt
          clear hgr
          by_cases hmt : m < (nthL g k).length
          · have hv := HV.out (k, m) ⟨hlt, hmt⟩
            cases hE : edgeB g (k, m)
            · have har := arL_sum (g := g) (p := (k, m)) hlt hmt hsm.out hE
              have HSUM := Lib.hid har.2.1
              have hla := har.1
              have HB4 := Lib.hid (show ∀ j, j < (arL g (k, m)).length → 0 ≤ nth (arL g (k, m)) j ∧ nth (arL g (k, m)) j ≤ 1000 from fun j hj => by
                obtain ⟨q, hq, e⟩ := har.2.2 _ (nth_mem hj)
                rw [e]
                exact HV.out q ⟨hq.1, by have := HSM.out q.1 hq.1; omega⟩)
              have HBD := Lib.hid (sumA_bd HB4.out)
              have HEQ := Lib.hid (show rdiv (4 * nth (nthL g k) m + sumP g (nearL g (k, m))) 8 = smF g (k, m) by unfold smF; rw [hE]; rfl)
              have HLA := Lib.hid hla
              clear har hla
              have HNU := Lib.hid hnu
              clear hnu
              go_wp2_with fail
              refine call_same (l07Edge_c _ _ g (k, m) _ HGR2.out hs hlt hsm.out (by simp only; omega)) ?_
              rw [hE]
              clear hE
              go_wp2_with fail
              refine (l07Around_c _ _ g 0 1000 (k, m) _ HGR2.out hs HOK.out hlt hmt).mono ?_
              rintro e wq ⟨bA, cA, rfl, hnA, hbA⟩
              have HNA := Lib.hid hnA
              have HBA := Lib.hid hbA
              have HNUQ := Lib.hid (HNU.out.below hbA)
              have hcq := cell_keep hc hbA
              have HFQ := Lib.hid (HF2.out.below (Nat.le_refl _) hbA)
              obtain ⟨b2, o2, rfl, hb2, hc2⟩ := HNUQ.out.pos hmt
              have hl4 : (arL g (k, m)).length = 4 := HLA.out
              have HL4 := Lib.hid hl4
              have hl4' : (arL g (k, m)).length ≤ 4 := by omega
              clear hnA hbA hc hl4
              generalize arL g (k, m) = LA at HNA HB4 HBD HSUM HL4 hl4' ⊢
              obtain ⟨wo2, hwo2⟩ : ∃ wo2 : World, wo2 = wr := ⟨_, rfl⟩
              rw [← hwo2] at HF2 HL2 HBA HFQ HGR2
              clear hwo2
              rw [show atG g (k, m) = nth (nthL g k) m from rfl] at hv
              go_wp2_with fail
              clear hc2 hcq
              go_loop [8, 9] (fun s i => ∃ q : Nat, q ≤ LA.length ∧ i = .int .i64 q ∧ s = .int .i64 (4 * nth (nthL g k) m + sumA LA q)) (fun _ i => LA.length - (intOf i).toNat)
              case atStart => exact ⟨0, Nat.zero_le _, rfl, by simp [sumA]⟩
              case round =>
                obtain ⟨q, hq, rfl, rfl⟩ := hrel
                have hbd := HBD.out q hq
                by_cases hqt : q < LA.length
                · obtain ⟨_, _, eA, _, hcA⟩ := HNA.out.pos hqt
                  obtain ⟨rfl, rfl⟩ : bA = _ ∧ 0 = _ := by simpa using eA
                  rw [Nat.zero_add] at hcA
                  have hx := HB4.out q hqt
                  have HS := Lib.hid (show sumA LA (q + 1) = sumA LA q + nth LA q from rfl)
                  clear eA
                  go_wp2
                  go_round
                  case rel => exact ⟨q + 1, by omega, by go_num, by rw [HS.out]; congr 1; omega⟩
                  case measure => simp [intOf]; omega
                · obtain rfl : q = LA.length := by omega
                  rw [HSUM.out] at hbd ⊢
                  obtain ⟨hcf, hrr, hrc⟩ := HFQ.out.2.1 k hlt
                  obtain ⟨d0, f0⟩ := hrc m hmt
                  rw [mixF_at] at d0
                  clear hrc
                  have HFD := Lib.hid (HFQ.out.below HBA.out.size (Below.refl _ _).drew)
                  have HLD := Lib.hid (show Below w.heap.size w wq.drew from below_next HL2.out (below_next HBA.out (Below.refl _ _).drew))
                  have HGD := Lib.hid ((HGR2.out.below HBA.out).below (Below.refl _ _).drew)
                  have HSD := Lib.hid (show wo2.heap.size ≤ wq.drew.heap.size from HBA.out.size)
                  have d0' : wq.drew.cell? ⟨r k, m, none⟩ = some (.int .i64 (nth (nthL g k) m)) := d0
                  have f0' : wq.drew.frozen? ⟨r k, m, none⟩ = false := f0
                  have j0 : (0 : Int) ≤ (k : Int) := by omega
                  have j1 : (k : Int) < g.length := by omega
                  have j2 : (0 : Int) ≤ (m : Int) := by omega
                  have j3 : (m : Int) < (nthL g k).length := by omega
                  go_wp2_with fail
                  go_still_tail 8, (by kernel_rfl)
                  still_call (to_still (l01Div_c _ _ _ (by omega) (by omega) (by omega) (by omega)))
                  repeat still_step
                  refine wpStill_nil ?_
                  change wpList _ _ _ _ _ wq.drew
                  rw [HEQ.out]
                  clear d0 f0 hcf j0 j1 j2 j3
                  generalize wq.drew = wd at HFD HLD HGD HSD d0' f0' ⊢
                  have hw0 := HSZ.out
                  have HLN := Lib.hid (HLD.out.setCell (p := ⟨r k, m, none⟩) (by simp only; omega) (.int .i64 (smF g (k, m))))
                  have HGN := Lib.hid (HGW.out.below HLN.out)
                  have HN := Lib.hid (gridF_wide ((HFD.out.set hlt hmt (smF g (k, m))).congr fun j _ q _ => mixF_step (smF g) g k m j q) (show wo2.heap.size ≤ (wd.setCell ⟨r k, m, none⟩ (.int .i64 (smF g (k, m)))).heap.size by simpa using HSD.out))
                  go_wp2
                  go_roundw
                  case rel => exact ⟨m + 1, by omega, by go_num, HN.out, HGN.out, HLN.out⟩
                  case measure => simp [intOf]; omega
            · have HN := Lib.hid (HF2.out.congr fun j _ q _ => mix_same (E := smF g) (k := k) (m := m) (show smF g (k, m) = nth (nthL g k) m by unfold smF; rw [hE]; rfl) j q)
              clear hnu
              go_wp2_with fail
              refine call_same (l07Edge_c _ _ g (k, m) _ HGR2.out hs hlt hsm.out (by simp only; omega)) ?_
              rw [hE]
              clear hE
              go_wp2
              go_roundw
              case rel => exact ⟨m + 1, by omega, by go_num, HN.out, HGR2.out, HL2.out⟩
              case measure => simp [intOf]; omega
          · obtain rfl : m = (nthL g k).length := by omega
            have HN := Lib.hid (HF2.out.congr fun j _ q hq => mixF_row (smF g) g k j q hq)
            clear hnu
            go_wp2
            go_roundw
            case rel => exact ⟨k + 1, by omega, by go_num, HN.out, HGR2.out, HL2.out⟩
            case measure => simp [intOf]; omega
      · obtain rfl : k = g.length := by omega
        have HN := Lib.hid (HF.out.congr (f' := fun i j => smF g (i, j)) fun j hj q _ => mixF_end (smF g) g j q hj)
        have HGA := Lib.hid (show GridA w.heap.size wr.heap.size wr (some ⟨bo, 0, none⟩) (fZ g) by rw [HT.out]; exact HN.out.gridA.wide HSZ.out (Nat.le_refl _))
        clear hgr
        go_wp2
        go_ret2
        exact ⟨some ⟨bo, 0, none⟩, c1, by rw [HTL.out, HC.out]; rfl, HGA.out, HL.out⟩
set_option maxRecDepth 100000 in
set_option maxHeartbeats 1000000 in
theorem walk (a0 : Option Addr) (cap0 : Nat) (z0 : List (List Int)) (w : World) (h0 : Grid w a0 z0) (hm0 : z0.length ≤ maxLen) (hr0 : ∀ j, j < z0.length → (nthL z0 j).length ≤ maxLen) :
    Calls Try.prog 4 #[.slice a0 z0.length cap0] w fun e w' => e = .returned (.bool true) ∧ Below w.heap.size w w' := by
  have hZ := f_small z0 
  have HZ := Lib.hid hZ
  clear hZ
  by_cases hn0 : ((z0.length + sumL z0 z0.length : Nat) : Int) ≤ 1048576
  rotate_left
  · have HN0 := Lib.hid hn0
    clear hn0
    go_enter Try.func4, Try.ntmps4
    go_wp2_with fail
    refine call_same (szInt64SS_c a0 cap0 z0 _ _ h0 hm0 hr0 (by omega) (by omega)) ?_
    rw [szF_no]
    rotate_left
    · have := HN0.out; omega
    go_wp2
    go_ret
    exact ⟨rfl, Below.refl _ _⟩
  have hS0 : Small z0 := by unfold Small; omega
  have HN0 := Lib.hid hn0
  have HS0 := Lib.hid hS0
  have hq0 : (z0.length : Int) + (sumL z0 z0.length : Int) ≤ 1048576 := by omega
  clear hn0 hS0
  go_enter Try.func4, Try.ntmps4
  go_wp2_with fail
  refine call_same (szInt64SS_c a0 cap0 z0 _ _ h0 hm0 hr0 (by omega) (by omega)) ?_
  rw [szF_yes]
  rotate_left
  · have := HN0.out; omega
  go_wp2_with fail
  refine call_pred (toInt64SS_c a0 cap0 z0 _ h0 HS0.out) ?_
  rintro w1 ⟨r1, b1⟩
  have HA1 := Lib.hid b1
  have HY1 := Lib.hid (Laid.grid r1)
  clear r1 b1
  go_wp2_with fail
  refine (s_c _ _ z0 _ HY1.out HS0.out).mono ?_
  rintro e2 w2 ⟨a2, c2, rfl, r2, b2⟩
  have HA2 := Lib.hid (below_next HA1.out b2)
  have HW2 := Lib.hid r2.grid
  clear r2 b2 HY1
  go_wp2_with fail
  refine call_pred (toInt64SS_c a0 cap0 z0 _ (h0.below HA2.out) HS0.out) ?_
  rintro w3 ⟨r3, b3⟩
  have HA3 := Lib.hid (below_next HA2.out b3)
  have HB3 := Lib.hid b3
  have HX3 := Lib.hid (Laid.gridA r3)
  have HC3 := Lib.hid (Nat.le_refl w3.heap.size)
  clear r3 b3
  go_wp2_with fail
  refine (i_c _ _ z0 _ HX3.out.grid HS0.out).mono ?_
  rintro e4 w4 ⟨a4, c4, rfl, r4, b4⟩
  have HA4 := Lib.hid (below_next HA3.out b4)
  have HB4 := Lib.hid (below_next HB3.out b4)
  have HX4 := Lib.hid (HX3.out.below HC3.out b4)
  have HC4 := Lib.hid (Nat.le_trans HC3.out b4.size)
  have HG4 := Lib.hid r4
  have HD4 := Lib.hid (Nat.le_refl w4.heap.size)
  clear r4 b4
  go_wp2_with fail
  refine call_below (eqInt64SS_c a4 a2 _ _ (fZ z0 ) _ HG4.out.grid (HW2.out.below HB4.out) HZ.out) ?_
  intro w5 b5
  have HA5 := Lib.hid (below_next HA4.out b5)
  have HB5 := Lib.hid (below_next HB4.out b5)
  have HX5 := Lib.hid (HX4.out.below HC4.out b5)
  have HG5 := Lib.hid (HG4.out.below HD4.out b5)
  have HC5 := Lib.hid (Nat.le_trans HC4.out b5.size)
  have HD5 := Lib.hid (Nat.le_trans HD4.out b5.size)
  clear b5
  go_wp2_with fail
  refine call_pred (toInt64SS_c a0 cap0 z0 _ (h0.below HA5.out) HS0.out) ?_
  rintro w6 ⟨r6, b6⟩
  have HA6 := Lib.hid (below_next HA5.out b6)
  have HB6 := Lib.hid (below_next HB5.out b6)
  have HX6 := Lib.hid (HX5.out.below HC5.out b6)
  have HG6 := Lib.hid (HG5.out.below HD5.out b6)
  have HC6 := Lib.hid (Nat.le_trans HC5.out b6.size)
  have HD6 := Lib.hid (Nat.le_trans HD5.out b6.size)
  have HY6 := Lib.hid (Laid.grid r6)
  clear r6 b6
  go_wp2_with fail
  refine call_below (eqInt64SS_c _ _ _ _ z0 _ HX6.out.grid HY6.out HS0.out) ?_
  intro w7 b7
  have HA7 := Lib.hid (below_next HA6.out b7)
  have HB7 := Lib.hid (below_next HB6.out b7)
  have HX7 := Lib.hid (HX6.out.below HC6.out b7)
  have HG7 := Lib.hid (HG6.out.below HD6.out b7)
  have HC7 := Lib.hid (Nat.le_trans HC6.out b7.size)
  have HD7 := Lib.hid (Nat.le_trans HD6.out b7.size)
  clear b7 HY6
  go_wp2_with fail
  refine call_pred (markInt64SS_c _ _ _ _ z0 1 _ HX7.out HS0.out (by omega) (by omega)) ?_
  rintro w8 ⟨r8, md8⟩
  have HA8 := Lib.hid (HA7.out.trans (md8.below.mono HA2.out.size))
  have HB8 := Lib.hid (HB7.out.trans (md8.below))
  have HG8 := Lib.hid (HG7.out.mid md8 (.inl (Nat.le_refl _)))
  have HC8 := Lib.hid (Nat.le_trans HC7.out (Nat.le_of_eq md8.size.symm))
  have HD8 := Lib.hid (Nat.le_trans HD7.out (Nat.le_of_eq md8.size.symm))
  clear md8 HX3 HX4 HX5 HX6 HX7 r8
  go_wp2_with fail
  refine call_below (eqInt64SS_c a4 a2 _ _ (fZ z0 ) _ HG8.out.grid (HW2.out.below HB8.out) HZ.out) ?_
  intro w9 b9
  have HA9 := Lib.hid (below_next HA8.out b9)
  have HB9 := Lib.hid (below_next HB8.out b9)
  have HG9 := Lib.hid (HG8.out.below HD8.out b9)
  have HC9 := Lib.hid (Nat.le_trans HC8.out b9.size)
  have HD9 := Lib.hid (Nat.le_trans HD8.out b9.size)
  clear b9
  go_wp2_with fail
  refine call_pred (markInt64SS_c _ _ a4 _ (fZ z0 ) 1 _ HG9.out HZ.out (by omega) (by omega)) ?_
  rintro w10 ⟨r10, md10⟩
  have HA10 := Lib.hid (HA9.out.trans (md10.below.mono HA3.out.size))
  have HB10 := Lib.hid (HB9.out.trans (md10.below.mono HB3.out.size))
  have HC10 := Lib.hid (Nat.le_trans HC9.out (Nat.le_of_eq md10.size.symm))
  have HD10 := Lib.hid (Nat.le_trans HD9.out (Nat.le_of_eq md10.size.symm))
  have HG10 := Lib.hid r10
  clear r10 md10
  go_wp2_with fail
  refine call_same (heldInt64SS_c a4 _ 1 (fZ z0 ) _ HG10.out.grid HZ.out (by omega) (by omega)) ?_
  go_wp2_with fail
  refine call_pred (toInt64SS_c a0 cap0 z0 _ (h0.below HA10.out) HS0.out) ?_
  rintro w11 ⟨r11, b11⟩
  have HA11 := Lib.hid (below_next HA10.out b11)
  have HB11 := Lib.hid (below_next HB10.out b11)
  have HG11 := Lib.hid (HG10.out.below HD10.out b11)
  have HC11 := Lib.hid (Nat.le_trans HC10.out b11.size)
  have HD11 := Lib.hid (Nat.le_trans HD10.out b11.size)
  have HY11 := Lib.hid (Laid.grid r11)
  clear r11 b11
  go_wp2_with fail
  refine (i_c _ _ z0 _ HY11.out HS0.out).mono ?_
  rintro e12 w12 ⟨a12, c12, rfl, r12, b12⟩
  have HA12 := Lib.hid (below_next HA11.out b12)
  have HB12 := Lib.hid (below_next HB11.out b12)
  have HG12 := Lib.hid (HG11.out.below HD11.out b12)
  have HC12 := Lib.hid (Nat.le_trans HC11.out b12.size)
  have HD12 := Lib.hid (Nat.le_trans HD11.out b12.size)
  have HH12 := Lib.hid r12.grid
  clear r12 b12
  go_wp2_with fail
  refine call_below (eqInt64SS_c a12 a2 _ _ (fZ z0 ) _ HH12.out (HW2.out.below HB12.out) HZ.out) ?_
  intro w13 b13
  have HA13 := Lib.hid (below_next HA12.out b13)
  have HB13 := Lib.hid (below_next HB12.out b13)
  have HG13 := Lib.hid (HG12.out.below HD12.out b13)
  have HC13 := Lib.hid (Nat.le_trans HC12.out b13.size)
  have HD13 := Lib.hid (Nat.le_trans HD12.out b13.size)
  clear b13
  go_wp2_with fail
  refine call_same (heldInt64SS_c a4 _ 1 (fZ z0 ) _ HG13.out.grid HZ.out (by omega) (by omega)) ?_
  go_wp2
  go_ret
  exact ⟨rfl, HA13.out⟩

theorem own : ownKnob Try.prog.godebug = none := by kernel_rfl
theorem laidOut : laidOutB Try.prog = true := by kernel_rfl
set_option maxRecDepth 100000 in
theorem lifted (os : Os) (started : os.Started) (H : Type) (enc : TypeId × Value → H) :
    ReturnsInHanded {} Try.checked os 4 .any (Rows.fnExactSmoothArchSpec.pre6 enc Try.prog Try.f4 Rows.fnExactSmoothArchRow.domain false) (Rows.fnExactSmoothArchSpec.post enc Try.prog Try.f4 false true false false) := by
  refine returnsInHanded_of_change (C := Try.checked) own started (by kernel_rfl) Try.func4
    (ChangeSpec.witness6 (enc := enc) (C := Try.checked) false ⟨#[], #[.slice none 0 0], []⟩ 8 (by kernel_rfl) (by kernel_rfl) (by kernel_rfl) (by kernel_rfl)) ?_
  intro W base args ds gs before hval0 hW hcnd _
  have hval : ∀ (j : Nat) t v, Try.f4.params[j]? = some t → args[j]? = some v → Value.okWide Try.prog W .any base t v := hval0
  have hW' := hW
  obtain ⟨p, q, hA0, hV, rfl, hfz, hnd⟩ := hW
  have hA : DataW.TrodAll enc Try.prog W 0 (fun _ => true) true Try.f4.params.toList args.toList ds p := hA0
  rw [Try.params4] at hA hval
  obtain ⟨v0, vs0, d0, ds0, p0, q0, hargs, rfl, rfl, h0, r0⟩ := trodAll_cons hA
  obtain ⟨rfl, rfl, rfl⟩ := trodAll_nil r0
  obtain rfl : args = #[v0] := by cases args; simp_all
  obtain ⟨rfl, rfl⟩ := trodVars_none hV
  have k0 := h0
  have lt0 : ∀ x ∈ p0, x.block < W.heap.size := by obtain ⟨m, hm⟩ := k0; exact DataW.trod_lt m _ _ _ hm
  obtain ⟨a0, len0, cap0, rfl⟩ := okWide_slice Try.underlying22 (hval 0 22 v0 rfl rfl)
  obtain ⟨z0, rfl, w0, m0, f0⟩ : ∃ g : List (List Int), g.length = len0 ∧ Grid W a0 g ∧ g.length ≤ maxLen ∧ ∀ j, j < g.length → (nthL g j).length ≤ maxLen := by
    obtain ⟨fuel, hf⟩ := h0
    exact grid_open Try.underlying22 Try.underlying35 Try.underlying2 (by kernel_rfl) (by kernel_rfl) hf
  clear hA0 hval0
  refine (walk a0 cap0 z0 W w0 m0 f0).mono fun e W' ⟨he, bel⟩ => ?_
  subst he
  exact ⟨_, rfl, _, _, _, [], _, [], hW', trodAll_mk1 (shut_bool Try.underlying4 _), (trodAll_cons_mk (Below.trod laidOut (by kernel_rfl) (of_decide_eq_true (by kernel_rfl)) k0 bel lt0) trodAll_mk0), rfl, bel.frame _, fun h => by cases h⟩

theorem over : Rows.fnExactSmoothArchRow.holds Try.pinned (OpenSpec.ofChange Rows.fnExactSmoothArchSpec) :=
  OpenClaim.holds_of_wide 4 Try.f4 rfl rfl rfl rfl rfl rfl rfl ⟨rfl, rfl, rfl, rfl, rfl⟩ rfl rfl rfl rfl rfl (by kernel_rfl) Try.func4 (by kernel_rfl)
    (of_decide_eq_true (by kernel_rfl)) (by unfold Func.isWrapper; first | (rw [if_pos (by decide +kernel)]; kernel_rfl) | (rw [if_neg (by decide +kernel)]; exact ⟨rfl, rfl⟩))
    (fun os started H enc _ => lifted os started H enc)

/-- THE STATEMENT. -/
theorem proved : Rows.FnExactSmoothArchSaid := over
#print axioms proved
end Go.Proofs.Ythhgepiccjndpaa.lawSmoothArch
