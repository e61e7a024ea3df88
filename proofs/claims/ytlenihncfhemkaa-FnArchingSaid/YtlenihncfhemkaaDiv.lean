/- impl.divRound and spec.l01Div: both give the nearest quotient, for a divisor above 0. -/
import Derived.Test.YtlenihncfhemkaaWithin
namespace Go.Proofs.Ytlenihncfhemkaa
open Go.RowKit

theorem divRound_neg (n b : Int) (w : World) (hn : 0 < n) (hn2 : n ≤ 4000000000000000000) (hb : 0 < b) (hb2 : b ≤ 1000000000000) :
    Calls Try.prog 30 #[.int .i64 (-n), .int .i64 b] w fun e w' => e = .returned (.int .i64 (-(if b - n % b ≤ n % b then n / b + 1 else n / b))) ∧ w = w' := by
  have q1 := Int.ediv_le_self (a := n) b (by omega)
  have q2 := Int.ediv_nonneg (show 0 ≤ n by omega) (show 0 ≤ b by omega)
  have r1 := Int.emod_lt_of_pos n hb
  have r2 := Int.emod_nonneg n (Int.ne_of_gt hb)
  have d1 : decide (b < 0) = false := by simp; omega
  have d2 : decide (-n < 0) = true := by simp; omega
  by_cases h : b - n % b ≤ n % b
  all_goals
    go_enter Try.func30, Try.ntmps30
    go_wp2
    go_ret
    exact ⟨rfl, rfl⟩

theorem divRound_pos (n b : Int) (w : World) (hn : 0 ≤ n) (hn2 : n ≤ 4000000000000000000) (hb : 0 < b) (hb2 : b ≤ 1000000000000) :
    Calls Try.prog 30 #[.int .i64 n, .int .i64 b] w fun e w' => e = .returned (.int .i64 (if b - n % b ≤ n % b then n / b + 1 else n / b)) ∧ w = w' := by
  have q1 := Int.ediv_le_self (a := n) b (by omega)
  have q2 := Int.ediv_nonneg (show 0 ≤ n by omega) (show 0 ≤ b by omega)
  have r1 := Int.emod_lt_of_pos n hb
  have r2 := Int.emod_nonneg n (Int.ne_of_gt hb)
  have d1 : decide (b < 0) = false := by simp; omega
  have d2 : decide (n < 0) = false := by simp; omega
  by_cases h : b - n % b ≤ n % b
  all_goals
    go_enter Try.func30, Try.ntmps30
    go_wp2
    go_ret
    exact ⟨rfl, rfl⟩

theorem divRound_c (a b : Int) (w : World) (ha1 : -4000000000000000000 ≤ a) (ha2 : a ≤ 4000000000000000000) (hb : 0 < b) (hb2 : b ≤ 1000000000000) :
    Calls Try.prog 30 #[.int .i64 a, .int .i64 b] w fun e w' => e = .returned (.int .i64 (rdiv a b)) ∧ w = w' := by
  by_cases h : a < 0
  · rw [rdiv_neg h hb]
    have := divRound_neg (-a) b w (by omega) (by omega) hb hb2
    rw [Int.neg_neg] at this
    exact this
  · rw [rdiv_pos (by omega) hb]
    exact divRound_pos a b w (by omega) ha2 hb hb2
end Go.Proofs.Ytlenihncfhemkaa
