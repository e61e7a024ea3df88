/- Plain arithmetic: products within bounds; the nearest quotient. -/
namespace Go.Proofs.Ytlenihncfhemkaa
theorem mul_bd {a b A B : Int} (h1 : 0 ≤ a) (h2 : a ≤ A) (h3 : 0 ≤ b) (h4 : b ≤ B) : 0 ≤ a * b ∧ a * b ≤ A * B :=
  ⟨Int.mul_nonneg h1 h3, Int.mul_le_mul h2 h4 h3 (by omega)⟩

/-- The nearest integer to a / b, halves away from 0 (b > 0). -/
def rdiv (a b : Int) : Int := if a < 0 then -((b - 2 * a) / (2 * b)) else (2 * a + b) / (2 * b)

theorem half_up (n b : Int) (hb : 0 < b) : (2 * n + b) / (2 * b) = if b - n % b ≤ n % b then n / b + 1 else n / b := by
  have e := Int.mul_ediv_add_emod n b
  have r0 := Int.emod_nonneg n (Int.ne_of_gt hb)
  have r1 := Int.emod_lt_of_pos n hb
  have k : 2 * n + b = (2 * (n % b) + b) + (2 * b) * (n / b) := by
    have : 2 * b * (n / b) = 2 * (b * (n / b)) := Int.mul_assoc 2 b (n / b)
    omega
  rw [k, Int.add_mul_ediv_left _ _ (by omega)]
  split
  · have : (2 * (n % b) + b) / (2 * b) = 1 := by
      apply Int.le_antisymm
      · have : (2 * (n % b) + b) / (2 * b) < 2 := Int.ediv_lt_of_lt_mul (by omega) (by omega)
        omega
      · exact Int.le_ediv_of_mul_le (by omega) (by omega)
    omega
  · have : (2 * (n % b) + b) / (2 * b) = 0 := Int.ediv_eq_zero_of_lt (by omega) (by omega)
    omega

theorem rdiv_pos {a b : Int} (ha : 0 ≤ a) (hb : 0 < b) : rdiv a b = if b - a % b ≤ a % b then a / b + 1 else a / b := by
  unfold rdiv; rw [if_neg (by omega), half_up a b hb]
theorem rdiv_neg {a b : Int} (ha : a < 0) (hb : 0 < b) : rdiv a b = -(if b - (-a) % b ≤ (-a) % b then (-a) / b + 1 else (-a) / b) := by
  unfold rdiv; rw [if_pos ha, ← half_up (-a) b hb]
  have : b - 2 * a = 2 * -a + b := by omega
  rw [this]
theorem rdiv_mono {a c b : Int} (hb : 0 < b) (h : a ≤ c) : rdiv a b ≤ rdiv c b := by
  unfold rdiv
  split <;> split
  · have := Int.ediv_le_ediv (show (0:Int) < 2 * b by omega) (show b - 2 * c ≤ b - 2 * a by omega); omega
  · have h1 := Int.ediv_nonneg (show (0:Int) ≤ b - 2 * a by omega) (show (0:Int) ≤ 2 * b by omega)
    have h2 := Int.ediv_nonneg (show (0:Int) ≤ 2 * c + b by omega) (show (0:Int) ≤ 2 * b by omega)
    omega
  · omega
  · exact Int.ediv_le_ediv (by omega) (by omega)
theorem rdiv_nonneg {a b : Int} (ha : 0 ≤ a) (hb : 0 < b) : 0 ≤ rdiv a b := by
  unfold rdiv; rw [if_neg (by omega)]; exact Int.ediv_nonneg (by omega) (by omega)
theorem rdiv_le {a b c : Int} (ha : a ≤ b * c) (hb : 0 < b) (hc : 0 ≤ c) : rdiv a b ≤ c := by
  refine Int.le_trans (rdiv_mono hb ha) ?_
  have hp : 0 ≤ b * c := Int.mul_nonneg (by omega) hc
  unfold rdiv; rw [if_neg (by omega)]
  have e : 2 * (b * c) + b = b + (2 * b) * c := by rw [Int.mul_assoc]; omega
  rw [e, Int.add_mul_ediv_left _ _ (by omega), Int.ediv_eq_zero_of_lt (by omega) (by omega)]; omega
theorem rdiv_bd {a b : Int} (hb : 0 < b) (h1 : -4000000000000000000 ≤ a) (h2 : a ≤ 4000000000000000000) : -4000000000000000000 ≤ rdiv a b ∧ rdiv a b ≤ 4000000000000000000 := by
  constructor
  · by_cases ha : a < 0
    · have h : rdiv (-a) b ≤ 4000000000000000000 := rdiv_le (by
        have : (1:Int) * 4000000000000000000 ≤ b * 4000000000000000000 := Int.mul_le_mul_of_nonneg_right (by omega) (by omega)
        omega) hb (by omega)
      unfold rdiv at *
      rw [if_pos ha]
      rw [if_neg (by omega)] at h
      have : b - 2 * a = 2 * -a + b := by omega
      rw [this]; omega
    · have := rdiv_nonneg (a := a) (b := b) (by omega) hb; omega
  · exact rdiv_le (by
      have : (1:Int) * 4000000000000000000 ≤ b * 4000000000000000000 := Int.mul_le_mul_of_nonneg_right (by omega) (by omega)
      omega) hb (by omega)
end Go.Proofs.Ytlenihncfhemkaa
