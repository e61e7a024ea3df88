/- What EvenPlate returns, on both sides. -/
import Derived.Test.YtpklckpnhjhnhaaSteep
import Derived.Test.YtpklckpnhjhnhaaNeckList
import Derived.Test.YtpklckpnhjhnhaaThin
namespace Go.Proofs.Ytpklckpnhjhnhaa.shEvenPlate
open Go.ChangeShapes Go.WideShapes Go.RowKit
set_option linter.unusedVariables false

/-- Whether a place differs by at most s from those left of it and above it. -/
def leftF (g : List (List Int)) (p : Nat × Nat) : Int := distF (atG g p) (atG g (p.1, p.2 - 1))
def upF (g : List (List Int)) (p : Nat × Nat) : Int := distF (atG g p) (atG g (p.1 - 1, p.2))
def evenAt (g : List (List Int)) (s : Int) (p : Nat × Nat) : Prop := (0 < p.2 → leftF g p ≤ s) ∧ (0 < p.1 → upF g p ≤ s)
theorem plTo_mem {g : List (List Int)} {p : Nat × Nat} (h2 : p.2 < (nthL g p.1).length) : ∀ {k : Nat}, p.1 < k → p ∈ plTo g k
  | k + 1, h => by
    simp only [plTo, List.mem_append]
    rcases Nat.lt_or_eq_of_le (Nat.le_of_lt_succ h) with h1 | h1
    · exact .inl (plTo_mem h2 h1)
    · refine .inr ?_
      simp only [rowPl, List.mem_map, List.mem_range]
      exact ⟨p.2, by rw [← h1]; exact h2, by rw [← h1]⟩
theorem near_mem {n m : Nat} {p q : Nat × Nat} {j : Nat} (hj : j < 4) (hq : cand p j = ((q.1 : Int), (q.2 : Int))) (h1 : q.1 < n) (h2 : q.2 < m) : q ∈ nearTo n m p 4 := by
  simp only [nearTo, List.mem_map, List.mem_filter, List.mem_range]
  refine ⟨j, ⟨hj, ?_⟩, ?_⟩
  · rw [hq]; exact decide_eq_true (by simp only; omega)
  · rw [hq]; simp [natP]
theorem near_cases {n m : Nat} {p q : Nat × Nat} (h : q ∈ nearTo n m p 4) : (0 < p.1 ∧ q = (p.1 - 1, p.2)) ∨ (0 < p.2 ∧ q = (p.1, p.2 - 1)) ∨ (q = (p.1, p.2 + 1)) ∨ (q = (p.1 + 1, p.2)) := by
  simp only [nearTo, List.mem_map, List.mem_filter, List.mem_range] at h
  obtain ⟨j, ⟨hj, hb⟩, rfl⟩ := h
  have h1 := of_decide_eq_true hb
  obtain rfl | rfl | rfl | rfl : j = 0 ∨ j = 1 ∨ j = 2 ∨ j = 3 := by omega
  · simp only [cand] at h1
    refine .inl ⟨by omega, ?_⟩
    simp only [natP, cand, Prod.mk.injEq]; omega
  · simp only [cand] at h1
    refine .inr (.inl ⟨by omega, ?_⟩)
    simp only [natP, cand, Prod.mk.injEq]; omega
  · refine .inr (.inr (.inl ?_))
    simp only [natP, cand, Prod.mk.injEq]; omega
  · refine .inr (.inr (.inr ?_))
    simp only [natP, cand, Prod.mk.injEq]; omega
theorem even_iff {lo hi : Int} {g : List (List Int)} {s : Int} (ok : GridOk lo hi g) (hs : 0 ≤ s) : steepF g ≤ s ↔ ∀ p : Nat × Nat, p.1 < g.length → p.2 < (nthL g p.1).length → evenAt g s p := by
  have hsame := ok.same
  unfold steepF
  rw [stP_le]
  constructor
  · rintro ⟨_, h⟩ p h1 h2
    have e1 := hsame p.1 h1
    constructor
    · intro h0
      have a1 := h p (plTo_mem h2 h1) (p.1, p.2 - 1) (near_mem (j := 1) (by omega) (by refine Prod.ext ?_ ?_ <;> simp only [cand] <;> omega) h1 (by simp only; omega))
      have a2 := h (p.1, p.2 - 1) (plTo_mem (by simp only; omega) h1) p (near_mem (j := 2) (by omega) (by refine Prod.ext ?_ ?_ <;> simp only [cand] <;> omega) h1 (by omega))
      unfold leftF distF; omega
    · intro h0
      have e2 := hsame (p.1 - 1) (by omega)
      have a1 := h p (plTo_mem h2 h1) (p.1 - 1, p.2) (near_mem (j := 0) (by omega) (by refine Prod.ext ?_ ?_ <;> simp only [cand] <;> omega) (by simp only; omega) (by simp only; omega))
      have a2 := h (p.1 - 1, p.2) (plTo_mem (by simp only; omega) (by simp only; omega)) p (near_mem (j := 3) (by omega) (by refine Prod.ext ?_ ?_ <;> simp only [cand] <;> omega) h1 (by omega))
      unfold upF distF; omega
  · intro h
    refine ⟨hs, fun p hp q hq => ?_⟩
    obtain ⟨p1, p2⟩ := plTo_in (Nat.le_refl _) hp
    have hin := ok.near hq
    rcases near_cases hq with ⟨h0, rfl⟩ | ⟨h0, rfl⟩ | rfl | rfl
    · have := (h p p1 p2).2 h0
      unfold upF distF at this; omega
    · have := (h p p1 p2).1 h0
      unfold leftF distF at this; omega
    · have := (h _ hin.1 hin.2).1 (Nat.succ_pos _)
      unfold leftF distF at this
      simp only [Nat.add_sub_cancel] at this
      have e : ((p.1, p.2) : Nat × Nat) = p := rfl
      rw [e] at this; omega
    · have := (h _ hin.1 hin.2).2 (Nat.succ_pos _)
      unfold upF distF at this
      simp only [Nat.add_sub_cancel] at this
      have e : ((p.1, p.2) : Nat × Nat) = p := rfl
      rw [e] at this; omega
def fF (g : List (List Int)) (s : Int) : Bool × Int := if gridB 1 200 g then (if inB s 0 200 then (decide (steepF g ≤ s), 0) else (false, 2)) else (false, 1)

theorem i_c (a : Option Addr) (cap : Nat) (g : List (List Int)) (s : Int) (w : World) (h : Grid w a g) (hs : Small g) :
    Calls Try.prog 28 #[.slice a g.length cap, .int .i64 s] w fun e w' => e = .returned (.tuple #[.bool (fF g s).1, .int .i64 (fF g s).2]) ∧ Below w.heap.size w w' := by
  rcases and2 (gridB 1 200 g) (inB s 0 200) with h1 | ⟨h1, h2⟩ | ⟨h1, h2⟩
  · go_enter Try.func28, Try.ntmps28
    go_wp2_with fail
    refine call_same (validPlate_c _ _ g _ h hs) ?_
    rw [h1]
    go_wp2
    go_ret2
    exact ⟨by simp [fF, h1], Below.refl _ _⟩
  · go_enter Try.func28, Try.ntmps28
    go_wp2_with fail
    refine call_same (validPlate_c _ _ g _ h hs) ?_
    rw [h1]
    go_wp2_with fail
    refine call_same (isBy_c _ _) ?_
    rw [h2]
    go_wp2
    go_ret2
    exact ⟨by simp [fF, h1, h2], Below.refl _ _⟩
  · have HF := Lib.hid (show fF g s = (decide (steepF g ≤ s), 0) by simp [fF, h1, h2])
    go_enter Try.func28, Try.ntmps28
    go_wp2_with fail
    refine call_same (validPlate_c _ _ g _ h hs) ?_
    rw [h1]
    go_wp2_with fail
    refine call_same (isBy_c _ _) ?_
    rw [h2]
    go_wp2_with fail
    refine call_below (steepest_c _ _ g 1 200 _ h hs (gridB_true h1) (by omega) (by omega)) ?_
    intro w2 hb2
    go_wp2
    go_ret2
    exact ⟨by rw [HF.out]; rfl, hb2⟩

end Go.Proofs.Ytpklckpnhjhnhaa.shEvenPlate
