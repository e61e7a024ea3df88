/- The program's EvenPlate returns what the reference's returns, for all arguments. No condition. -/
import Derived.Test.YtejcglenjhkhhaaRows
import Derived.Test.YtejcglenjhkhhaaSteep
import Derived.Test.YtejcglenjhkhhaaNeckList
import Derived.Test.YtejcglenjhkhhaaThin
import Derived.OpenShut
import Derived.ChangeOld
import Derived.Lib.SmallJoins
namespace Go.Proofs.Ytejcglenjhkhhaa.lawEvenPlate
open Go.ChangeShapes Go.WideShapes Go.ChangeAt Go.RowKit
set_option linter.unusedVariables false

/-- Whether a place differs by at most s from those left of it and above it. -/
def leftF (g : List (List Int)) (p : Nat × Nat) : Int := distF (atG g p) (atG g (p.1, p.2 - 1))
def upF (g : List (List Int)) (p : Nat × Nat) : Int := distF (atG g p) (atG g (p.1 - 1, p.2))
def evenAt (g : List (List Int)) (s : Int) (p : Nat × Nat) : Prop := (0 < p.2 → leftF g p ≤ s) ∧ (0 < p.1 → upF g p ≤ s)
theorem plTo_mem {g : List (List Int)} {p : Nat × Nat} (h2 : p.2 < (nthL g p.1).length) : ∀ {k : Nat}, p.1 < k → p ∈ plTo g k
  | k + 1, h => by
    simp only [plTo, List.mem_append]
    rcases Nat.lt_or_eq_of_le (Nat.le_of_lt_succ h) with h1 | h1
    · exact .inl (plTo_mem h2 h1)
    · refine .inr ?_
      simp only [rowPl, List.mem_map, List.mem_range]
      exact ⟨p.2, by rw [← h1]; exact h2, by rw [← h1]⟩
theorem near_mem {n m : Nat} {p q : Nat × Nat} {j : Nat} (hj : j < 4) (hq : cand p j = ((q.1 : Int), (q.2 : Int))) (h1 : q.1 < n) (h2 : q.2 < m) : q ∈ nearTo n m p 4 := by
  simp only [nearTo, List.mem_map, List.mem_filter, List.mem_range]
  refine ⟨j, ⟨hj, ?_⟩, ?_⟩
  · rw [hq]; exact decide_eq_true (by simp only; omega)
  · rw [hq]; simp [natP]
theorem near_cases {n m : Nat} {p q : Nat × Nat} (h : q ∈ nearTo n m p 4) : (0 < p.1 ∧ q = (p.1 - 1, p.2)) ∨ (0 < p.2 ∧ q = (p.1, p.2 - 1)) ∨ (q = (p.1, p.2 + 1)) ∨ (q = (p.1 + 1, p.2)) := by
  simp only [nearTo, List.mem_map, List.mem_filter, List.mem_range] at h
  obtain ⟨j, ⟨hj, hb⟩, rfl⟩ := h
  have h1 := of_decide_eq_true hb
  obtain rfl | rfl | rfl | rfl : j = 0 ∨ j = 1 ∨ j = 2 ∨ j = 3 := by omega
  · simp only [cand] at h1
    refine .inl ⟨by omega, ?_⟩
    simp only [natP, cand, Prod.mk.injEq]; omega
  · simp only [cand] at h1
    refine .inr (.inl ⟨by omega, ?_⟩)
    simp only [natP, cand, Prod.mk.injEq]; omega
  · refine .inr (.inr (.inl ?_))
    simp only [natP, cand, Prod.mk.injEq]; omega
  · refine .inr (.inr (.inr ?_))
    simp only [natP, cand, Prod.mk.injEq]; omega
theorem even_iff {lo hi : Int} {g : List (List Int)} {s : Int} (ok : GridOk lo hi g) (hs : 0 ≤ s) : steepF g ≤ s ↔ ∀ p : Nat × Nat, p.1 < g.length → p.2 < (nthL g p.1).length → evenAt g s p := by
  have hsame := ok.same
  unfold steepF
  rw [stP_le]
  constructor
  · rintro ⟨_, h⟩ p h1 h2
    have e1 := hsame p.1 h1
    constructor
    · intro h0
      have a1 := h p (plTo_mem h2 h1) (p.1, p.2 - 1) (near_mem (j := 1) (by omega) (by refine Prod.ext ?_ ?_ <;> simp only [cand] <;> omega) h1 (by simp only; omega))
      have a2 := h (p.1, p.2 - 1) (plTo_mem (by simp only; omega) h1) p (near_mem (j := 2) (by omega) (by refine Prod.ext ?_ ?_ <;> simp only [cand] <;> omega) h1 (by omega))
      unfold leftF distF; omega
    · intro h0
      have e2 := hsame (p.1 - 1) (by omega)
      have a1 := h p (plTo_mem h2 h1) (p.1 - 1, p.2) (near_mem (j := 0) (by omega) (by refine Prod.ext ?_ ?_ <;> simp only [cand] <;> omega) (by simp only; omega) (by simp only; omega))
      have a2 := h (p.1 - 1, p.2) (plTo_mem (by simp only; omega) (by simp only; omega)) p (near_mem (j := 3) (by omega) (by refine Prod.ext ?_ ?_ <;> simp only [cand] <;> omega) h1 (by omega))
      unfold upF distF; omega
  · intro h
    refine ⟨hs, fun p hp q hq => ?_⟩
    obtain ⟨p1, p2⟩ := plTo_in (Nat.le_refl _) hp
    have hin := ok.near hq
    rcases near_cases hq with ⟨h0, rfl⟩ | ⟨h0, rfl⟩ | rfl | rfl
    · have := (h p p1 p2).2 h0
      unfold upF distF at this; omega
    · have := (h p p1 p2).1 h0
      unfold leftF distF at this; omega
    · have := (h _ hin.1 hin.2).1 (Nat.succ_pos _)
      unfold leftF distF at this
      simp only [Nat.add_sub_cancel] at this
      have e : ((p.1, p.2) : Nat × Nat) = p := rfl
      rw [e] at this; omega
    · have := (h _ hin.1 hin.2).2 (Nat.succ_pos _)
      unfold upF distF at this
      simp only [Nat.add_sub_cancel] at this
      have e : ((p.1, p.2) : Nat × Nat) = p := rfl
      rw [e] at this; omega
def fF (g : List (List Int)) (s : Int) : Bool × Int := if gridB 1 200 g then (if inB s 0 200 then (decide (steepF g ≤ s), 0) else (false, 2)) else (false, 1)

theorem i_c (a : Option Addr) (cap : Nat) (g : List (List Int)) (s : Int) (w : World) (h : Grid w a g) (hs : Small g) :
    Calls Try.prog 30 #[.slice a g.length cap, .int .i64 s] w fun e w' => e = .returned (.tuple #[.bool (fF g s).1, .int .i64 (fF g s).2]) ∧ Below w.heap.size w w' := by
  rcases and2 (gridB 1 200 g) (inB s 0 200) with h1 | ⟨h1, h2⟩ | ⟨h1, h2⟩
  · go_enter Try.func30, Try.ntmps30
    go_wp2_with fail
    refine call_same (validPlate_c _ _ g _ h hs) ?_
    rw [h1]
    go_wp2
    go_ret2
    exact ⟨by simp [fF, h1], Below.refl _ _⟩
  · go_enter Try.func30, Try.ntmps30
    go_wp2_with fail
    refine call_same (validPlate_c _ _ g _ h hs) ?_
    rw [h1]
    go_wp2_with fail
    refine call_same (isBy_c _ _) ?_
    rw [h2]
    go_wp2
    go_ret2
    exact ⟨by simp [fF, h1, h2], Below.refl _ _⟩
  · have HF := Lib.hid (show fF g s = (decide (steepF g ≤ s), 0) by simp [fF, h1, h2])
    go_enter Try.func30, Try.ntmps30
    go_wp2_with fail
    refine call_same (validPlate_c _ _ g _ h hs) ?_
    rw [h1]
    go_wp2_with fail
    refine call_same (isBy_c _ _) ?_
    rw [h2]
    go_wp2_with fail
    refine call_below (steepest_c _ _ g 1 200 _ h hs (gridB_true h1) (by omega) (by omega)) ?_
    intro w2 hb2
    go_wp2
    go_ret2
    exact ⟨by rw [HF.out]; rfl, hb2⟩

set_option maxRecDepth 100000 in
theorem s_c (a : Option Addr) (cap : Nat) (g : List (List Int)) (s : Int) (w : World) (h : Grid w a g) (hs : Small g) :
    Calls Try.prog 29 #[.slice a g.length cap, .int .i64 s] w fun e w' => e = .returned (.tuple #[.bool (fF g s).1, .int .i64 (fF g s).2]) ∧ Below w.heap.size w w' := by
  rcases and2 (gridB 1 200 g) (inB s 0 200) with h1 | ⟨h1, h2⟩ | ⟨h1, h2⟩
  · go_enter Try.func29, Try.ntmps29
    go_wp2_with fail
    refine call_below (l08Ok_c _ _ g _ h hs) ?_
    rw [h1]
    intro w1 hb1
    go_wp2
    go_ret2
    exact ⟨by simp [fF, h1], hb1⟩
  · go_enter Try.func29, Try.ntmps29
    go_wp2_with fail
    refine call_below (l08Ok_c _ _ g _ h hs) ?_
    rw [h1]
    intro w1 hb1
    go_wp2_with fail
    refine call_same (l00In_c _ _ _ _) ?_
    rw [h2]
    go_wp2
    go_ret2
    exact ⟨by simp [fF, h1, h2], hb1⟩
  · have hn := hs.len
    have ok := gridB_true h1
    have hsb := inB_true h2
    have HIF := Lib.hid (even_iff (s := s) ok hsb.1)
    have HYES := Lib.hid (show (∀ p ∈ plTo g g.length, evenAt g s p) → fF g s = (true, 0) from fun hall => by
      have : decide (steepF g ≤ s) = true := decide_eq_true (HIF.out.2 fun p q1 q2 => hall p (plTo_mem q2 q1))
      simp [fF, h1, h2, this])
    have HNO := Lib.hid (show ∀ p : Nat × Nat, p.1 < g.length → p.2 < (nthL g p.1).length → ¬ evenAt g s p → fF g s = (false, 0) from fun p q1 q2 hne => by
      have : decide (steepF g ≤ s) = false := decide_eq_false fun hle => hne (HIF.out.1 hle p q1 q2)
      simp [fF, h1, h2, this])
    have HR := Lib.hid ok.range
    have HSM := Lib.hid ok.same
    clear ok
    go_enter Try.func29, Try.ntmps29
    go_wp2_with fail
    refine call_below (l08Ok_c _ _ g _ h hs) ?_
    rw [h1]
    intro w1 hb1
    go_wp2_with fail
    refine call_same (l00In_c _ _ _ _) ?_
    rw [h2]
    have HG := Lib.hid (h.below hb1)
    have HB1 := Lib.hid hb1
    clear h hb1 h1 h2
    go_wp2
    go_loopw [6] (fun i wr => ∃ k : Nat, k ≤ g.length ∧ i = .int .i64 k ∧ (∀ p ∈ plTo g k, evenAt g s p) ∧ Below w1.heap.size w1 wr) (fun i _ => g.length - (intOf i).toNat)
    case atStart => exact ⟨0, Nat.zero_le _, rfl, fun p hp => by simp [plTo] at hp, Below.refl _ _⟩
    case round =>
      obtain ⟨k, hk, rfl, hall, hbl⟩ := hrel
      have HAL := Lib.hid hall
      have HL := Lib.hid hbl
      clear hall
      obtain ⟨wo, hwo⟩ : ∃ wo : World, wo = wr := ⟨_, rfl⟩
      rw [← hwo] at hbl HL ⊢
      clear hwo
      by_cases hlt : k < g.length
      · obtain ⟨b, o, rfl, hb, ar, cr, hc, hnu⟩ := (HG.out.below hbl).pos hlt
        have hrow := hs.row hlt
        have HRK := Lib.hid (HR.out k hlt)
        have hsm := HSM.out k hlt
        clear hnu hbl
        go_wp2_with fail
        clear hc
        go_loopw [7] (fun i wr => ∃ c : Nat, c ≤ (nthL g k).length ∧ i = .int .i64 c ∧ (∀ p ∈ plTo g k ++ rowPl k c, evenAt g s p) ∧ Below w1.heap.size w1 wr) (fun i _ => (nthL g k).length - (intOf i).toNat)
        case atStart => exact ⟨0, Nat.zero_le _, rfl, by simpa [rowPl] using HAL.out, HL.out⟩
        case round =>
          obtain ⟨c, hcl, rfl, hall, hbl⟩ := hrel
          have HAL2 := Lib.hid hall
          have HL2 := Lib.hid hbl
          clear hall
          obtain ⟨ak, ck, hc, hnu⟩ := (HG.out.below hbl).at_ hlt
          by_cases hct : c < (nthL g k).length
          · obtain ⟨b2, o2, rfl, hb2, hc2⟩ := hnu.pos hct
            have hv := HRK.out c hct
            have j0 : (0 : Int) ≤ (k : Int) := by omega
            have j1 : (k : Int) < (g.length : Int) := by omega
            have j2 : (0 : Int) ≤ (c : Int) := by omega
            have j3 : (c : Int) < ((nthL g k).length : Int) := by omega
            have HSTEP := Lib.hid (fun (he : evenAt g s (k, c)) => show ∀ p ∈ plTo g k ++ rowPl k (c + 1), evenAt g s p from fun p hp => by
              rw [rowPl_succ, ← List.append_assoc] at hp
              rcases List.mem_append.1 hp with h1 | h1
              · exact HAL2.out p h1
              · simp at h1; rw [h1]; exact he)
            by_cases t1 : 0 < c
            · have d1 : decide ((0 : Int) < (c : Int)) = true := decide_eq_true (by omega)
              obtain ⟨b3, o3, e3, hb3, hc3⟩ := hnu.pos (j := c - 1) (by omega)
              obtain ⟨rfl, rfl⟩ : b2 = b3 ∧ o2 = o3 := by simpa using e3
              have hv1 := HRK.out (c - 1) (by omega)
              have L0 : (0 : Int) ≤ (c : Int) - 1 := by omega
              have L1 : (1 : Int) ≤ (c : Int) := by omega
              have L2 : (c : Int) - 1 < ((nthL g k).length : Int) := by omega
              have L3 : IntKind.i64.wrap ((c : Int) - 1) = (c : Int) - 1 := IntWalk.i64_in _ (by omega)
              have L4 : ((c : Int) - 1).toNat = c - 1 := by omega
              have L5 : IntKind.i64.wrap (nth (nthL g k) c - nth (nthL g k) (c - 1)) = nth (nthL g k) c - nth (nthL g k) (c - 1) := IntWalk.i64_in _ (by omega)
              by_cases t2 : s < distF (nth (nthL g k) c) (nth (nthL g k) (c - 1))
              · have d2 : decide (s < distF (nth (nthL g k) c) (nth (nthL g k) (c - 1))) = true := decide_eq_true t2
                have HF := Lib.hid (HNO.out (k, c) hlt hct fun he => absurd (he.1 t1) (Int.not_le.2 t2))
                clear t2 hnu hbl
                go_wp2_with fail
                go_quiet ((go_at_call 72; exact quiet_at (l08Abs_c _ _ _ (by omega) (by omega))))
                go_wp2
                go_ret2
                exact ⟨by rw [HF.out]; rfl, below_next HB1.out (below_drewN HL2.out _)⟩
              have d2 : decide (s < distF (nth (nthL g k) c) (nth (nthL g k) (c - 1))) = false := decide_eq_false t2
              have HLF := Lib.hid (Int.not_lt.1 t2)
              clear t2
              by_cases t3 : 0 < k
              · have d3 : decide ((0 : Int) < (k : Int)) = true := decide_eq_true (by omega)
                obtain ⟨au, cu, hcu, hnuu⟩ := (HG.out.below hbl).at_ (j := k - 1) (by omega)
                have hsu := HSM.out (k - 1) (by omega)
                have hru := hs.row (j := k - 1) (by omega)
                obtain ⟨b4, o4, rfl, hb4, hc4⟩ := hnuu.pos (j := c) (by omega)
                have hv2 := HR.out (k - 1) (by omega) c (by omega)
                have U0 : (0 : Int) ≤ (k : Int) - 1 := by omega
                have U1 : (1 : Int) ≤ (k : Int) := by omega
                have U2 : (k : Int) - 1 < (g.length : Int) := by omega
                have U6 : (c : Int) < ((nthL g (k - 1)).length : Int) := by omega
                have U3 : IntKind.i64.wrap ((k : Int) - 1) = (k : Int) - 1 := IntWalk.i64_in _ (by omega)
                have U4 : ((k : Int) - 1).toNat = k - 1 := by omega
                have U5 : IntKind.i64.wrap (nth (nthL g k) c - nth (nthL g (k - 1)) c) = nth (nthL g k) c - nth (nthL g (k - 1)) c := IntWalk.i64_in _ (by omega)
                by_cases t4 : s < distF (nth (nthL g k) c) (nth (nthL g (k - 1)) c)
                · have d4 : decide (s < distF (nth (nthL g k) c) (nth (nthL g (k - 1)) c)) = true := decide_eq_true t4
                  have HF := Lib.hid (HNO.out (k, c) hlt hct fun he => absurd (he.2 t3) (Int.not_le.2 t4))
                  clear t4 hnu hnuu hbl
                  go_wp2_with fail
                  go_quiet ((go_at_call 72; exact quiet_at (l08Abs_c _ _ _ (by omega) (by omega))))
                  go_wp2
                  go_ret2
                  exact ⟨by rw [HF.out]; rfl, below_next HB1.out (below_drewN HL2.out _)⟩
                · have d4 : decide (s < distF (nth (nthL g k) c) (nth (nthL g (k - 1)) c)) = false := decide_eq_false t4
                  have HF := Lib.hid (HSTEP.out ⟨fun _ => HLF.out, fun _ => Int.not_lt.1 t4⟩)
                  clear t4 hnu hnuu hbl
                  go_wp2_with fail
                  go_quiet ((go_at_call 72; exact quiet_at (l08Abs_c _ _ _ (by omega) (by omega))))
                  go_wp2
                  go_roundw
                  case rel => exact ⟨c + 1, by omega, by go_num, HF.out, below_drewN HL2.out _⟩
                  case measure => simp [intOf]; omega
              · have d3 : decide ((0 : Int) < (k : Int)) = false := decide_eq_false (by omega)
                have HF := Lib.hid (HSTEP.out ⟨fun _ => HLF.out, fun h => absurd h t3⟩)
                clear hnu hbl
                go_wp2_with fail
                go_quiet ((go_at_call 72; exact quiet_at (l08Abs_c _ _ _ (by omega) (by omega))))
                go_wp2
                go_roundw
                case rel => exact ⟨c + 1, by omega, by go_num, HF.out, below_drewN HL2.out _⟩
                case measure => simp [intOf]; omega
            · have d1 : decide ((0 : Int) < (c : Int)) = false := decide_eq_false (by omega)
              by_cases t3 : 0 < k
              · have d3 : decide ((0 : Int) < (k : Int)) = true := decide_eq_true (by omega)
                obtain ⟨au, cu, hcu, hnuu⟩ := (HG.out.below hbl).at_ (j := k - 1) (by omega)
                have hsu := HSM.out (k - 1) (by omega)
                have hru := hs.row (j := k - 1) (by omega)
                obtain ⟨b4, o4, rfl, hb4, hc4⟩ := hnuu.pos (j := c) (by omega)
                have hv2 := HR.out (k - 1) (by omega) c (by omega)
                have U0 : (0 : Int) ≤ (k : Int) - 1 := by omega
                have U1 : (1 : Int) ≤ (k : Int) := by omega
                have U2 : (k : Int) - 1 < (g.length : Int) := by omega
                have U6 : (c : Int) < ((nthL g (k - 1)).length : Int) := by omega
                have U3 : IntKind.i64.wrap ((k : Int) - 1) = (k : Int) - 1 := IntWalk.i64_in _ (by omega)
                have U4 : ((k : Int) - 1).toNat = k - 1 := by omega
                have U5 : IntKind.i64.wrap (nth (nthL g k) c - nth (nthL g (k - 1)) c) = nth (nthL g k) c - nth (nthL g (k - 1)) c := IntWalk.i64_in _ (by omega)
                by_cases t4 : s < distF (nth (nthL g k) c) (nth (nthL g (k - 1)) c)
                · have d4 : decide (s < distF (nth (nthL g k) c) (nth (nthL g (k - 1)) c)) = true := decide_eq_true t4
                  have HF := Lib.hid (HNO.out (k, c) hlt hct fun he => absurd (he.2 t3) (Int.not_le.2 t4))
                  clear t4 hnu hnuu hbl
                  go_wp2_with fail
                  go_quiet ((go_at_call 72; exact quiet_at (l08Abs_c _ _ _ (by omega) (by omega))))
                  go_wp2
                  go_ret2
                  exact ⟨by rw [HF.out]; rfl, below_next HB1.out (below_drewN HL2.out _)⟩
                · have d4 : decide (s < distF (nth (nthL g k) c) (nth (nthL g (k - 1)) c)) = false := decide_eq_false t4
                  have HF := Lib.hid (HSTEP.out ⟨fun h => absurd h t1, fun _ => Int.not_lt.1 t4⟩)
                  clear t4 hnu hnuu hbl
                  go_wp2_with fail
                  go_quiet ((go_at_call 72; exact quiet_at (l08Abs_c _ _ _ (by omega) (by omega))))
                  go_wp2
                  go_roundw
                  case rel => exact ⟨c + 1, by omega, by go_num, HF.out, below_drewN HL2.out _⟩
                  case measure => simp [intOf]; omega
              · have d3 : decide ((0 : Int) < (k : Int)) = false := decide_eq_false (by omega)
                have HF := Lib.hid (HSTEP.out ⟨fun h => absurd h t1, fun h => absurd h t3⟩)
                clear hnu hbl
                go_wp2_with fail
                go_quiet ((go_at_call 72; exact quiet_at (l08Abs_c _ _ _ (by omega) (by omega))))
                go_wp2
                go_roundw
                case rel => exact ⟨c + 1, by omega, by go_num, HF.out, below_drewN HL2.out _⟩
                case measure => simp [intOf]; omega
          · obtain rfl : c = (nthL g k).length := by omega
            clear hnu hbl
            go_wp2
            go_roundw
            case rel => exact ⟨k + 1, by omega, by go_num, HAL2.out, HL2.out⟩
            case measure => simp [intOf]; omega
      · obtain rfl : k = g.length := by omega
        have HF := Lib.hid (HYES.out HAL.out)
        clear hbl
        go_wp2
        go_ret2
        exact ⟨by rw [HF.out]; rfl, below_next HB1.out HL.out⟩
theorem walk (a0 : Option Addr) (cap0 : Nat) (z0 : List (List Int)) (m1 : Int) (w : World) (h0 : Grid w a0 z0) (hm0 : z0.length ≤ maxLen) (hr0 : ∀ j, j < z0.length → (nthL z0 j).length ≤ maxLen) (_ : (Lit.int .i64 m1).wf = true) :
    Calls Try.prog 6 #[.slice a0 z0.length cap0, .int .i64 m1] w fun e w' => e = .returned (.bool true) ∧ Below w.heap.size w w' := by
  by_cases hn0 : ((z0.length + sumL z0 z0.length : Nat) : Int) ≤ 1048576
  rotate_left
  · have HN0 := Lib.hid hn0
    clear hn0
    go_enter Try.func6, Try.ntmps6
    go_wp2_with fail
    refine call_same (szInt64SS_c a0 cap0 z0 _ _ h0 hm0 hr0 ?_ ?_) ?_
    ·  omega
    ·  omega
    rw [szF_no]
    rotate_left
    · have := HN0.out; omega
    go_wp2
    go_ret
    exact ⟨rfl, Below.refl _ _⟩
  have hS0 : Small z0 := by unfold Small; omega
  have HN0 := Lib.hid hn0
  have hq0 : (z0.length : Int) + (sumL z0 z0.length : Int) ≤ 1048576 := by omega
  clear hn0
  go_enter Try.func6, Try.ntmps6
  go_wp2_with fail
  refine call_same (szInt64SS_c a0 cap0 z0 _ _ h0 hm0 hr0 ?_ ?_) ?_
  · have := HN0.out; omega
  · have := HN0.out; omega
  rw [szF_yes]
  rotate_left
  · have := HN0.out; omega
  go_wp2_with fail
  refine call_pred (toInt64SS_c a0 cap0 z0 _ h0 hS0) ?_
  rintro w1 ⟨r1, b1⟩
  have H1 := below_next (Below.refl _ _) b1
  have S0_1 := Laid.grid r1
  clear r1
  go_wp2_with fail
  refine call_below (s_c _ _ z0 m1 _ S0_1 hS0) ?_
  intro w2 b2
  have H2 := below_next H1 b2
  have S0_2 := S0_1.below b2
  clear S0_1
  clear S0_2
  go_wp2_with fail
  refine call_pred (toInt64SS_c a0 cap0 z0 _ (h0.below H2) hS0) ?_
  rintro w3 ⟨r3, b3⟩
  have H3 := below_next H2 b3
  have X0_3 := Laid.grid r3
  clear r3
  go_wp2_with fail
  refine call_below (i_c _ _ z0 m1 _ X0_3 hS0) ?_
  intro w4 b4
  have H4 := below_next H3 b4
  have X0_4 := X0_3.below b4
  clear X0_3
  go_wp2_with fail
  refine call_pred (toInt64SS_c a0 cap0 z0 _ (h0.below H4) hS0) ?_
  rintro w5 ⟨r5, b5⟩
  have H5 := below_next H4 b5
  have X0_5 := X0_4.below b5
  clear X0_4
  have Y0_5 := Laid.grid r5
  clear r5
  go_wp2_with fail
  refine call_below (eqInt64SS_c _ _ _ _ z0 _ X0_5 Y0_5 hS0) ?_
  intro w6 b6
  have H6 := below_next H5 b6
  have X0_6 := X0_5.below b6
  clear X0_5
  have Y0_6 := Y0_5.below b6
  clear Y0_5
  clear X0_6 Y0_6
  go_wp2
  go_ret
  exact ⟨rfl, H6⟩

theorem own : ownKnob Try.prog.godebug = none := by kernel_rfl
theorem laidOut : laidOutB Try.prog = true := by kernel_rfl
set_option maxRecDepth 100000 in
theorem lifted (os : Os) (started : os.Started) (H : Type) (enc : TypeId × Value → H) :
    ReturnsInHanded {} Try.checked os 6 .any (Rows.fnExactEvenPlateSpec.pre6 enc Try.prog Try.f6 Rows.fnExactEvenPlateRow.domain false) (Rows.fnExactEvenPlateSpec.post enc Try.prog Try.f6 false true false false) := by
  refine returnsInHanded_of_change (C := Try.checked) own started (by kernel_rfl) Try.func6
    (ChangeSpec.witness6 (enc := enc) (C := Try.checked) false ⟨#[], #[.slice none 0 0, .int .i64 0], []⟩ 8 (by kernel_rfl) (by kernel_rfl) (by kernel_rfl) (by kernel_rfl)) ?_
  intro W base args ds gs before hval0 hW hcnd _
  have hval : ∀ (j : Nat) t v, Try.f6.params[j]? = some t → args[j]? = some v → Value.okWide Try.prog W .any base t v := hval0
  have hW' := hW
  obtain ⟨p, q, hA0, hV, rfl, hfz, hnd⟩ := hW
  have hA : DataW.TrodAll enc Try.prog W 0 (fun _ => true) true Try.f6.params.toList args.toList ds p := hA0
  rw [Try.params6] at hA hval
  obtain ⟨v0, vs0, d0, ds0, p0, q0, hargs, rfl, rfl, h0, r0⟩ := trodAll_cons hA
  obtain ⟨v1, vs1, d1, ds1, p1, q1, rfl, rfl, rfl, h1, r1⟩ := trodAll_cons r0
  obtain ⟨rfl, rfl, rfl⟩ := trodAll_nil r1
  obtain rfl : args = #[v0, v1] := by cases args; simp_all
  obtain ⟨rfl, rfl⟩ := trodVars_none hV
  have k0 := h0
  have lt0 : ∀ x ∈ p0, x.block < W.heap.size := by obtain ⟨m, hm⟩ := k0; exact DataW.trod_lt m _ _ _ hm
  obtain ⟨a0, len0, cap0, rfl⟩ := okWide_slice Try.underlying22 (hval 0 22 v0 rfl rfl)
  obtain ⟨z0, rfl, w0, m0, f0⟩ : ∃ g : List (List Int), g.length = len0 ∧ Grid W a0 g ∧ g.length ≤ maxLen ∧ ∀ j, j < g.length → (nthL g j).length ≤ maxLen := by
    obtain ⟨fuel, hf⟩ := h0
    exact grid_open Try.underlying22 Try.underlying32 Try.underlying2 (by kernel_rfl) (by kernel_rfl) hf
  have k1 := h1
  have lt1 : ∀ x ∈ p1, x.block < W.heap.size := by obtain ⟨m, hm⟩ := k1; exact DataW.trod_lt m _ _ _ hm
  obtain ⟨a1, rfl, rfl, rfl, w1⟩ := open_int Try.underlying2 (hval 1 2 v1 rfl rfl) h1
  clear hA0 hval0
  refine (walk a0 cap0 z0 a1 W w0 m0 f0 w1).mono fun e W' ⟨he, bel⟩ => ?_
  subst he
  exact ⟨_, rfl, _, _, _, [], _, [], hW', trodAll_mk1 (shut_bool Try.underlying4 _), (trodAll_cons_mk (Below.trod laidOut (by kernel_rfl) (of_decide_eq_true (by kernel_rfl)) k0 bel lt0) (trodAll_cons_mk (Below.trod laidOut (by kernel_rfl) (of_decide_eq_true (by kernel_rfl)) k1 bel lt1) trodAll_mk0)), rfl, bel.frame _, fun h => by cases h⟩

theorem over : Rows.fnExactEvenPlateRow.holds Try.pinned (OpenSpec.ofChange Rows.fnExactEvenPlateSpec) :=
  OpenClaim.holds_of_wide 6 Try.f6 rfl rfl rfl rfl rfl rfl rfl ⟨rfl, rfl, rfl, rfl, rfl⟩ rfl rfl rfl rfl rfl (by kernel_rfl) Try.func6 (by kernel_rfl)
    (of_decide_eq_true (by kernel_rfl)) (by unfold Func.isWrapper; first | (rw [if_pos (by decide +kernel)]; kernel_rfl) | (rw [if_neg (by decide +kernel)]; exact ⟨rfl, rfl⟩))
    (fun os started H enc _ => lifted os started H enc)

/-- THE STATEMENT. -/
theorem proved : Rows.FnExactEvenPlateSaid := over
#print axioms proved
end Go.Proofs.Ytejcglenjhkhhaa.lawEvenPlate
