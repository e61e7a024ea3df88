/- Plain: what the law of graded plates asks. No program in sight. -/
import Derived.Test.YtpklckpnhjhnhaaShGradedPlate
import Derived.Test.YtpklckpnhjhnhaaShTooThin
import Derived.Test.YtpklckpnhjhnhaaShEvenPlate
import Derived.Test.YtpklckpnhjhnhaaDrawPlate2
namespace Go.Proofs.Ytpklckpnhjhnhaa
open shGradedPlate
open Go.RowKit
set_option linter.unusedVariables false

theorem rdiv_odd {n b : Int} (hn : 0 < n) (hb : 0 < b) : rdiv (-n) b = -rdiv n b := by
  rw [rdiv_neg (by omega) hb, Int.neg_neg, rdiv_pos (by omega) hb]
theorem line_bd {e m d x : Int} : min e m ≤ lineF e d m x ∧ lineF e d m x ≤ max e m := by
  unfold lineF
  split
  · omega
  · rename_i h1
    split
    · omega
    · rename_i h2
      have hx : 0 < x := by omega
      have hd : 0 < d := by omega
      by_cases he : e ≤ m
      · have hp : 0 ≤ (m - e) * x := Int.mul_nonneg (by omega) (by omega)
        have h3 := rdiv_nonneg hp hd
        have h4 : rdiv ((m - e) * x) d ≤ m - e := rdiv_le (by
          rw [Int.mul_comm d]
          exact Int.mul_le_mul_of_nonneg_left (by omega) (by omega)) hd (by omega)
        omega
      · have e1 : (m - e) * x = -((e - m) * x) := by rw [← Int.neg_mul]; congr 1; omega
        have hp : 0 < (e - m) * x := Int.mul_pos (by omega) hx
        have h3 := rdiv_nonneg (Int.le_of_lt hp) hd
        have h4 : rdiv ((e - m) * x) d ≤ e - m := rdiv_le (by
          rw [Int.mul_comm d]
          exact Int.mul_le_mul_of_nonneg_left (by omega) (by omega)) hd (by omega)
        rw [e1, rdiv_odd hp hd]
        omega
theorem deep_flip {i k r c : Int} : deepF (r - 1 - i) k r c = deepF i k r c ∧ deepF i (c - 1 - k) r c = deepF i k r c := by
  unfold deepF; omega
/-- A graded plate. -/
structure Graded (r c e m : Int) (G : List (List Int)) (R C : Nat) : Prop where
  rows : (R : Int) = r ∧ 1 ≤ R ∧ R ≤ 10
  cols : (C : Int) = c ∧ 1 ≤ C ∧ C ≤ 10
  len : G.length = R
  rlen : ∀ i, i < R → (nthL G i).length = C
  first : nth (nthL G 0) 0 = e
  updown : ∀ i k, i < R → k < C → nth (nthL G (R - 1 - i)) k = nth (nthL G i) k
  sides : ∀ i k, i < R → k < C → nth (nthL G i) (C - 1 - k) = nth (nthL G i) k
  range : ∀ i k, i < R → k < C → min e m ≤ nth (nthL G i) k ∧ nth (nthL G i) k ≤ max e m
  valid : gridB 1 200 G = true
theorem graded {r c e m : Int} (h : okB r c e m = true) : ∃ R C : Nat, Graded r c e m (fZ r c e m) R C := by
  obtain ⟨hr, hc, he, hm⟩ := ok_in h
  obtain ⟨R, rfl⟩ : ∃ R : Nat, r = R := ⟨r.toNat, by omega⟩
  obtain ⟨C, rfl⟩ : ∃ C : Nat, c = C := ⟨c.toNat, by omega⟩
  have hZ : fZ R C e m = gridG (gradF R C e m) (fun _ => C) R := by unfold fZ; rw [if_pos h]; rfl
  have hlen : (fZ R C e m).length = R := by rw [hZ, gridG_len]
  have hrl : ∀ i, i < R → (nthL (fZ R C e m) i).length = C := fun i hi => by rw [hZ, gridG_nth hi, rowG_len]
  have hat : ∀ i k, i < R → k < C → nth (nthL (fZ R C e m) i) k = gradF R C e m (i, k) := fun i k hi hk => by rw [hZ, gridG_nth hi, rowG_nth hk]
  have hrg : ∀ i k, i < R → k < C → min e m ≤ nth (nthL (fZ R C e m) i) k ∧ nth (nthL (fZ R C e m) i) k ≤ max e m := fun i k hi hk => by
    rw [hat i k hi hk]; exact line_bd
  refine ⟨R, C, ⟨rfl, by omega, by omega⟩, ⟨rfl, by omega, by omega⟩, hlen, hrl, ?_, fun i k hi hk => ?_, fun i k hi hk => ?_, hrg, ?_⟩
  · rw [hat 0 0 (by omega) (by omega)]
    show lineF e _ m (deepF ((0 : Nat) : Int) ((0 : Nat) : Int) R C) = e
    have h0 : deepF ((0 : Nat) : Int) ((0 : Nat) : Int) R C = 0 := by unfold deepF; omega
    rw [h0]
    unfold lineF
    rw [if_pos (.inl (Int.le_refl 0))]
  · rw [hat _ k (by omega) hk, hat i k hi hk]
    show lineF e _ m (deepF (((R - 1 - i : Nat) : Int)) (k : Int) R C) = lineF e _ m (deepF (i : Int) (k : Int) R C)
    rw [show ((R - 1 - i : Nat) : Int) = (R : Int) - 1 - i by omega, deep_flip.1]
  · rw [hat i _ hi (by omega), hat i k hi hk]
    show lineF e _ m (deepF (i : Int) ((C - 1 - k : Nat) : Int) R C) = lineF e _ m (deepF (i : Int) (k : Int) R C)
    rw [show ((C - 1 - k : Nat) : Int) = (C : Int) - 1 - k by omega, deep_flip.2]
  · refine gridB_rows (by rw [hlen]; exact decide_eq_true ⟨by omega, by omega⟩) fun j hj => ?_
    rw [hlen] at hj
    refine ⟨by rw [hrl j hj]; omega, by rw [hrl j hj, hrl 0 (by omega)], ?_⟩
    rw [List.all_eq_true]
    intro x hx
    obtain ⟨k, hk, rfl⟩ := List.getElem_of_mem hx
    have hk' : k < C := by rw [← hrl j hj]; exact hk
    have := hrg j k hj hk'
    rw [show nth (nthL (fZ R C e m) j) k = (nthL (fZ R C e m) j)[k] by simp [nth, hk]] at this
    exact decide_eq_true ⟨by omega, by omega⟩
theorem not_graded {r c e m : Int} (h : okB r c e m = false) : fZ r c e m = [] ∧ fC r c e m = 2 := by
  unfold fZ fC; rw [h]; exact ⟨rfl, rfl⟩
theorem graded_code {r c e m : Int} (h : okB r c e m = true) : fC r c e m = 0 := by unfold fC; rw [if_pos h]

/-- The places of a row behind the k-th. -/
theorem rowPl_split (i k : Nat) : ∀ n, ∃ rest, rowPl i (k + 1 + n) = rowPl i k ++ (i, k) :: rest
  | 0 => ⟨[], by rw [Nat.add_zero, rowPl_succ]⟩
  | n + 1 => by
    obtain ⟨rest, h⟩ := rowPl_split i k n
    refine ⟨rest ++ [(i, k + 1 + n)], ?_⟩
    rw [← Nat.add_assoc, rowPl_succ, h]
    simp
theorem plTo_split {g : List (List Int)} {i k : Nat} (hk : k < (nthL g i).length) : ∀ n, ∃ rest, plTo g (i + 1 + n) = (plTo g i ++ rowPl i k) ++ (i, k) :: rest
  | 0 => by
    obtain ⟨rest, h⟩ := rowPl_split i k ((nthL g i).length - (k + 1))
    refine ⟨rest, ?_⟩
    rw [show k + 1 + ((nthL g i).length - (k + 1)) = (nthL g i).length by omega] at h
    show plTo g i ++ rowPl i (nthL g i).length = _
    rw [h]
    simp
  | n + 1 => by
    obtain ⟨rest, h⟩ := plTo_split hk n
    refine ⟨rest ++ rowPl (i + 1 + n) (nthL g (i + 1 + n)).length, ?_⟩
    show plTo g (i + 1 + n) ++ rowPl (i + 1 + n) (nthL g (i + 1 + n)).length = _
    rw [h]
    simp
/-- How many places ahead of (i, k) are chosen. -/
def cnt (g : List (List Int)) (E : Nat × Nat → Bool) (i k : Nat) : Nat := ((plTo g i ++ rowPl i k).filter E).length
theorem cnt_zero (g : List (List Int)) (E : Nat × Nat → Bool) : cnt g E 0 0 = 0 := by simp [cnt, plTo, rowPl]
theorem cnt_next (g : List (List Int)) (E : Nat × Nat → Bool) (i : Nat) : cnt g E (i + 1) 0 = cnt g E i (nthL g i).length := by
  unfold cnt; simp [plTo, rowPl]
theorem cnt_yes {g : List (List Int)} {E : Nat × Nat → Bool} {i k : Nat} (h : E (i, k) = true) : cnt g E i (k + 1) = cnt g E i k + 1 := by
  unfold cnt
  rw [rowPl_succ, ← List.append_assoc, List.filter_append]
  simp [h]
  omega
theorem cnt_no {g : List (List Int)} {E : Nat × Nat → Bool} {i k : Nat} (h : E (i, k) = false) : cnt g E i (k + 1) = cnt g E i k := by
  unfold cnt
  rw [rowPl_succ, ← List.append_assoc, List.filter_append]
  simp [h]
theorem cnt_end (g : List (List Int)) (E : Nat × Nat → Bool) : cnt g E g.length 0 = (chosenG g E).length := by
  unfold cnt chosenG pairsG
  simp [rowPl]
theorem cnt_at {g : List (List Int)} {E : Nat × Nat → Bool} {i k : Nat} (hi : i < g.length) (hk : k < (nthL g i).length) (h : E (i, k) = true) :
    cnt g E i k < (chosenG g E).length ∧ nthL (chosenG g E) (cnt g E i k) = [(i : Int), (k : Int)] := by
  obtain ⟨rest, hr⟩ := plTo_split hk (g.length - (i + 1))
  rw [show i + 1 + (g.length - (i + 1)) = g.length by omega] at hr
  have hf : (plTo g g.length).filter E = (plTo g i ++ rowPl i k).filter E ++ (i, k) :: rest.filter E := by
    rw [hr, List.filter_append]
    simp [h]
  have hc : chosenG g E = pairsG ((plTo g i ++ rowPl i k).filter E) ++ [(i : Int), (k : Int)] :: pairsG (rest.filter E) := by
    unfold chosenG
    rw [hf]
    simp [pairsG]
  have hl : (pairsG ((plTo g i ++ rowPl i k).filter E)).length = cnt g E i k := by simp [pairsG, cnt]
  rw [hc]
  refine ⟨by rw [List.length_append, hl]; simp, ?_⟩
  unfold nthL
  rw [List.getD_eq_getElem?_getD, List.getElem?_append_right (by rw [hl]; omega), hl]
  simp
/-- Whether the steps to a place are small. -/
def evB (g : List (List Int)) (s : Int) (p : Nat × Nat) : Bool := (decide (p.2 = 0) || decide (shEvenPlate.leftF g p ≤ s)) && (decide (p.1 = 0) || decide (shEvenPlate.upF g p ≤ s))
theorem evB_iff {g : List (List Int)} {s : Int} {p : Nat × Nat} : evB g s p = true ↔ shEvenPlate.evenAt g s p := by
  unfold evB shEvenPlate.evenAt
  simp only [Bool.and_eq_true, Bool.or_eq_true, decide_eq_true_eq]
  constructor
  · rintro ⟨h1, h2⟩
    exact ⟨fun h => h1.elim (fun e => by omega) id, fun h => h2.elim (fun e => by omega) id⟩
  · rintro ⟨h1, h2⟩
    refine ⟨?_, ?_⟩
    · by_cases h : p.2 = 0
      · exact .inl h
      · exact .inr (h1 (by omega))
    · by_cases h : p.1 = 0
      · exact .inl h
      · exact .inr (h2 (by omega))
def evTo (g : List (List Int)) (s : Int) (i k : Nat) : Bool := (plTo g i ++ rowPl i k).all (evB g s)
theorem evTo_zero (g : List (List Int)) (s : Int) : evTo g s 0 0 = true := rfl
theorem evTo_next (g : List (List Int)) (s : Int) (i : Nat) : evTo g s (i + 1) 0 = evTo g s i (nthL g i).length := by
  unfold evTo; simp [plTo, rowPl]
theorem evTo_succ (g : List (List Int)) (s : Int) (i k : Nat) : evTo g s i (k + 1) = (evTo g s i k && evB g s (i, k)) := by
  unfold evTo
  rw [rowPl_succ, ← List.append_assoc, List.all_append]
  simp
theorem evTo_end {g : List (List Int)} {s : Int} (h : gridB 1 200 g = true) (hs : 0 ≤ s) : evTo g s g.length 0 = decide (steepF g ≤ s) := by
  have ok := gridB_true h
  have hiff := shEvenPlate.even_iff ok hs
  have e : evTo g s g.length 0 = (plTo g g.length).all (evB g s) := by unfold evTo; simp [rowPl]
  rw [e]
  by_cases hst : steepF g ≤ s
  · rw [decide_eq_true hst, List.all_eq_true]
    intro p hp
    have hin := plTo_in (Nat.le_refl _) hp
    exact evB_iff.2 (hiff.1 hst p hin.1 hin.2)
  · rw [decide_eq_false hst, Bool.eq_false_iff]
    intro ha
    rw [List.all_eq_true] at ha
    exact hst (hiff.2 fun p h1 h2 => evB_iff.1 (ha p (shEvenPlate.plTo_mem h2 h1)))
end Go.Proofs.Ytpklckpnhjhnhaa
