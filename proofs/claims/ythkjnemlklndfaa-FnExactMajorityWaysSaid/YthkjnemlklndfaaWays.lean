/- In how many ways exactly so many experts are right: plain law. -/
import Derived.Test.YthkjnemlklndfaaInts
namespace Go.Proofs.Ythkjnemlklndfaa

/-- 1000 to the power of n. -/
def allF : Nat → Int
  | 0 => 1
  | n + 1 => allF n * 1000
theorem allF_pos : ∀ n, 1 ≤ allF n
  | 0 => by simp [allF]
  | n + 1 => by have := allF_pos n; simp only [allF]; omega
theorem allF_le : ∀ n, n ≤ 5 → allF n ≤ 1000000000000000
  | 0, _ => by simp [allF]
  | 1, _ => by simp [allF]
  | 2, _ => by simp [allF]
  | 3, _ => by simp [allF]
  | 4, _ => by simp [allF]
  | 5, _ => by simp [allF]
theorem allF_mono (n : Nat) : ∀ m, n ≤ m → allF n ≤ allF m
  | 0, h => by rw [Nat.le_zero.1 h]; exact Int.le_refl _
  | m + 1, h => by
    rcases Nat.lt_or_eq_of_le h with h1 | rfl
    · have := allF_mono n m (by omega)
      have := allF_pos m
      simp only [allF]; omega
    · exact Int.le_refl _
/-- The ways in which exactly k of the first i experts are right. -/
def wayF (zs : List Int) : Nat → Nat → Int
  | 0, 0 => 1
  | 0, _ + 1 => 0
  | i + 1, 0 => wayF zs i 0 * (1000 - nth zs i)
  | i + 1, k + 1 => wayF zs i (k + 1) * (1000 - nth zs i) + wayF zs i k * nth zs i
theorem wayF_zero (zs : List Int) : ∀ i k, i < k → wayF zs i k = 0
  | 0, k + 1, _ => by simp [wayF]
  | i + 1, k + 1, h => by simp only [wayF]; rw [wayF_zero zs i (k + 1) (by omega), wayF_zero zs i k (by omega)]; simp
/-- Shares of all experts. -/
def Sure (zs : List Int) : Prop := ∀ j, j < zs.length → 0 ≤ nth zs j ∧ nth zs j ≤ 1000
theorem wayF_bd {zs : List Int} (h : Sure zs) : ∀ i k, i ≤ zs.length → 0 ≤ wayF zs i k ∧ wayF zs i k ≤ allF i
  | 0, 0, _ => by simp [wayF, allF]
  | 0, _ + 1, _ => by simp [wayF, allF]
  | i + 1, 0, hi => by
    have ⟨s0, s1⟩ := h i (by omega)
    have ⟨h0, h1⟩ := wayF_bd h i 0 (by omega)
    have hp := allF_pos i
    simp only [wayF, allF]
    have a := Int.mul_nonneg h0 (by omega : 0 ≤ 1000 - nth zs i)
    have b := Int.mul_le_mul h1 (by omega : 1000 - nth zs i ≤ 1000) (by omega) (by omega)
    exact ⟨a, b⟩
  | i + 1, k + 1, hi => by
    have ⟨s0, s1⟩ := h i (by omega)
    have ⟨h0, h1⟩ := wayF_bd h i (k + 1) (by omega)
    have ⟨g0, g1⟩ := wayF_bd h i k (by omega)
    simp only [wayF, allF]
    have a := Int.mul_nonneg h0 (by omega : 0 ≤ 1000 - nth zs i)
    have b := Int.mul_nonneg g0 s0
    have c := Int.mul_le_mul_of_nonneg_right h1 (by omega : 0 ≤ 1000 - nth zs i)
    have d := Int.mul_le_mul_of_nonneg_right g1 s0
    have e : allF i * (1000 - nth zs i) + allF i * nth zs i = allF i * 1000 := by rw [← Int.mul_add]; congr 1; omega
    omega
/-- Each of the two summands, for the walk. -/
theorem way_bd {zs : List Int} (h : Sure zs) {i : Nat} (hi : i < zs.length) (k : Nat) :
    (0 ≤ wayF zs i k * (1000 - nth zs i) ∧ wayF zs i k * (1000 - nth zs i) ≤ allF i * 1000) ∧ (0 ≤ wayF zs i k * nth zs i ∧ wayF zs i k * nth zs i ≤ allF i * 1000) := by
  have ⟨s0, s1⟩ := h i hi
  have ⟨h0, h1⟩ := wayF_bd h i k (by omega)
  have hp := allF_pos i
  exact ⟨⟨Int.mul_nonneg h0 (by omega), Int.mul_le_mul h1 (by omega) (by omega) (by omega)⟩, ⟨Int.mul_nonneg h0 s0, Int.mul_le_mul h1 s1 s0 (by omega)⟩⟩
/-- The sum of the ways for the numbers under m. -/
def waySum (zs : List Int) (i : Nat) : Nat → Int
  | 0 => 0
  | m + 1 => waySum zs i m + wayF zs i m
theorem waySum_step (zs : List Int) (i : Nat) : ∀ m, waySum zs (i + 1) (m + 1) = waySum zs i (m + 1) * (1000 - nth zs i) + waySum zs i m * nth zs i
  | 0 => by simp [waySum, wayF]
  | m + 1 => by
    rw [waySum, waySum_step zs i m]
    simp only [waySum, wayF, Int.add_mul]
    omega
theorem waySum_all (zs : List Int) : ∀ i, waySum zs i (i + 1) = allF i
  | 0 => by simp [waySum, wayF, allF]
  | i + 1 => by
    rw [waySum_step, waySum, wayF_zero zs i (i + 1) (by omega), Int.add_zero, waySum_all zs i, ← Int.mul_add]
    simp only [allF]
    congr 1; omega
theorem waySum_mono {zs : List Int} (h : Sure zs) {i : Nat} (hi : i ≤ zs.length) : ∀ {m n : Nat}, m ≤ n → waySum zs i m ≤ waySum zs i n
  | m, 0, hm => by rw [Nat.le_zero.1 hm]; exact Int.le_refl _
  | m, n + 1, hm => by
    rcases Nat.lt_or_eq_of_le hm with h1 | rfl
    · have := waySum_mono h hi (m := m) (n := n) (by omega)
      have := (wayF_bd h i n hi).1
      simp only [waySum]; omega
    · exact Int.le_refl _
theorem waySum_bd {zs : List Int} (h : Sure zs) {i : Nat} (hi : i ≤ zs.length) {m : Nat} (hm : m ≤ i + 1) : 0 ≤ waySum zs i m ∧ waySum zs i m ≤ allF i := by
  have h1 := waySum_mono h hi (Nat.zero_le m)
  have h2 := waySum_mono h hi hm
  rw [waySum_all] at h2
  exact ⟨h1, h2⟩
/-- The chance in parts of a million. -/
def partF (n : Int) (e : Nat) : Int := if e = 1 then n * 1000 else n.tdiv (allF (e - 2))
theorem tdiv_two {n : Int} (h : 0 ≤ n) (a b : Int) (ha : 0 ≤ a) : (n.tdiv a).tdiv b = n.tdiv (a * b) := by
  rw [Int.tdiv_eq_ediv_of_nonneg h, Int.tdiv_eq_ediv_of_nonneg h, Int.tdiv_eq_ediv_of_nonneg (Int.ediv_nonneg h ha), Int.ediv_ediv_of_nonneg ha]
end Go.Proofs.Ythkjnemlklndfaa
