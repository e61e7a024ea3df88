/- The numbers that the laws choose by a byte; the greatest of two numbers. -/
import Derived.Test.YtlenihncfhemkaaDraw
namespace Go.Proofs.Ytlenihncfhemkaa
open Go.RowKit Go.ChangeShapes Go.WideShapes
set_option linter.unusedVariables false

/-- The number below n that byte k chooses. -/
def atF (z : List Int) (k n : Int) : Int := if k < z.length then nth z k.toNat % n else 0
def wideF (z : List Int) (k n : Int) : Int := (256 * atF z k 256 + atF z (k + 1) 256) % n
theorem atF_bd {z : List Int} {k n : Int} (hn : 0 < n) : 0 ≤ atF z k n ∧ atF z k n < n := by
  unfold atF
  split
  · exact ⟨Int.emod_nonneg _ (by omega), Int.emod_lt_of_pos _ hn⟩
  · omega
theorem wideF_bd {z : List Int} {k n : Int} (hn : 0 < n) : 0 ≤ wideF z k n ∧ wideF z k n < n := ⟨Int.emod_nonneg _ (by omega), Int.emod_lt_of_pos _ hn⟩
theorem r8At_f (a : Option Addr) (cap : Nat) (z : List Int) (k n : Int) (w : World) (hz : Nums .u8 w a z) (hB : Bytes z) (hl : z.length ≤ 1048576) (hk0 : 0 ≤ k) (hk1 : k ≤ 1000) (hn0 : 2 ≤ n) (hn1 : n ≤ 100000) :
    Calls Try.prog 16 #[.slice a z.length cap, .int .i64 k, .int .i64 n] w fun e w' => e = .returned (.int .i64 (atF z k n)) ∧ w = w' := by
  by_cases hlt : k < z.length
  · obtain ⟨j, rfl⟩ : ∃ j : Nat, k = j := ⟨k.toNat, by omega⟩
    obtain ⟨b, o, rfl, hb, hc⟩ := hz.pos (j := j) (by omega)
    have hv := hB j (by omega)
    have HR := Lib.hid (show atF z j n = nth z j % n by unfold atF; rw [if_pos hlt]; rfl)
    have d : decide ((z.length : Int) ≤ (j : Int)) = false := decide_eq_false (by omega)
    rw [HR.out]
    go_enter Try.func16, Try.ntmps16
    go_wp2
    go_ret
    exact ⟨rfl, rfl⟩
  · have d : decide ((z.length : Int) ≤ k) = true := decide_eq_true (by omega)
    rw [show atF z k n = 0 by unfold atF; rw [if_neg hlt]]
    go_enter Try.func16, Try.ntmps16
    go_wp2
    go_ret
    exact ⟨rfl, rfl⟩
theorem r8At_c (a : Option Addr) (cap : Nat) (z : List Int) (k n : Int) (w : World) (hz : Nums .u8 w a z) (hB : Bytes z) (hl : z.length ≤ 1048576) (hk0 : 0 ≤ k) (hk1 : k ≤ 1000) (hn0 : 2 ≤ n) (hn1 : n ≤ 100000) :
    Calls Try.prog 16 #[.slice a z.length cap, .int .i64 k, .int .i64 n] w fun e w' => ∃ x : Int, e = .returned (.int .i64 x) ∧ (0 ≤ x ∧ x < n) ∧ w = w' :=
  (r8At_f a cap z k n w hz hB hl hk0 hk1 hn0 hn1).mono fun e w' ⟨h1, h2⟩ => ⟨_, h1, atF_bd (by omega), h2⟩
theorem r8Abs_c (n : Int) (w : World) (h0 : -4611686018427387904 ≤ n) (h1 : n ≤ 4611686018427387904) : Calls Try.prog 14 #[.int .i64 n] w fun e w' => e = .returned (.int .i64 (max n (-n))) ∧ w = w' := by
  have i1 := IntWalk.i64_in (-n) (by omega)
  go_enter Try.func14, Try.ntmps14
  go_wp2
  all_goals
    go_ret
    refine ⟨?_, rfl⟩
    show Ending.returned (Value.int .i64 _) = Ending.returned (Value.int .i64 _)
    congr 2
    omega
theorem r8Long_c (a b : Option Addr) (ca cb : Nat) (y z : List Int) (w : World) (h1 : y.length ≤ maxLen) (h2 : z.length ≤ maxLen) :
    Calls Try.prog 4 #[.slice a y.length ca, .slice b z.length cb] w fun e w' => e = .returned (.bool (decide (1048576 < y.length ∨ 1048576 < z.length))) ∧ w = w' := by
  by_cases d1 : 1048576 < y.length
  · have e1 : decide ((1048576 : Int) < (y.length : Int)) = true := decide_eq_true (by omega)
    go_enter Try.func4, Try.ntmps4
    go_wp2
    go_ret
    exact ⟨by simp [d1], rfl⟩
  · have e1 : decide ((1048576 : Int) < (y.length : Int)) = false := decide_eq_false (by omega)
    by_cases d2 : 1048576 < z.length
    · have e2 : decide ((1048576 : Int) < (z.length : Int)) = true := decide_eq_true (by omega)
      go_enter Try.func4, Try.ntmps4
      go_wp2
      go_ret
      exact ⟨by simp [d2], rfl⟩
    · have e2 : decide ((1048576 : Int) < (z.length : Int)) = false := decide_eq_false (by omega)
      go_enter Try.func4, Try.ntmps4
      go_wp2
      go_ret
      exact ⟨by simp [d1, d2], rfl⟩
end Go.Proofs.Ytlenihncfhemkaa
