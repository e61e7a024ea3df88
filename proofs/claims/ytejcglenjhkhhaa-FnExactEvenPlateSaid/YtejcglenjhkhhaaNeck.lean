/- A neck: both sides' test of validity, and the law's copy. -/
import Derived.Test.YtejcglenjhkhhaaWithin
namespace Go.Proofs.Ytejcglenjhkhhaa
open Go.RowKit

/-- A valid neck's four numbers. -/
def neckB (s b o a : Int) : Bool := inB s 100 10000 && inB b 100 10000 && inB o 0 500 && inB a 0 300
theorem neckB_true {s b o a : Int} (h : neckB s b o a = true) : (100 ≤ s ∧ s ≤ 10000) ∧ (100 ≤ b ∧ b ≤ 10000) ∧ (0 ≤ o ∧ o ≤ 500) ∧ (0 ≤ a ∧ a ≤ 300) := by
  simp [neckB, inB] at h; omega

theorem validNeck_c (s b o a : Int) (w : World) : Calls Try.prog 125 #[.agg #[.int .i64 s, .int .i64 b, .int .i64 o, .int .i64 a]] w fun e w' => e = .returned (.bool (neckB s b o a)) ∧ Below w.heap.size w w' := by
  rcases and4 (inB s 100 10000) (inB b 100 10000) (inB o 0 500) (inB a 0 300) with h1 | ⟨h1, h2⟩ | ⟨h1, h2, h3⟩ | ⟨h1, h2, h3, h4⟩ | ⟨h1, h2, h3, h4⟩
  all_goals
    go_enter Try.func125, Try.ntmps125
    go_wp2_with (go_at_call 66; refine call_same (within_c _ _ _ _) ?_)
    go_ret
    exact ⟨by simp [neckB, *], by go_grown⟩
theorem l10Size_c (n : Int) (w : World) : Calls Try.prog 129 #[.int .i64 n] w fun e w' => e = .returned (.bool (inB n 100 10000)) ∧ w = w' := by
  go_enter Try.func129, Try.ntmps129
  go_wp2_with (go_at_call 61; refine call_same (l00In_c _ _ _ _) ?_)
  go_ret
  exact ⟨rfl, rfl⟩
theorem l10Ok_c (bk of : Nat) (s b o a : Int) (w : World) (c0 : w.cell? ⟨bk, of, none⟩ = some (.int .i64 s)) (c1 : w.cell? ⟨bk, of+1, none⟩ = some (.int .i64 b)) (c2 : w.cell? ⟨bk, of+2, none⟩ = some (.int .i64 o)) (c3 : w.cell? ⟨bk, of+3, none⟩ = some (.int .i64 a)) :
   Calls Try.prog 124 #[.pointer (some ⟨bk, of, none⟩)] w fun e w' => e = .returned (.bool (neckB s b o a)) ∧ w = w' := by
  rcases and4 (inB s 100 10000) (inB b 100 10000) (inB o 0 500) (inB a 0 300) with h1 | ⟨h1, h2⟩ | ⟨h1, h2, h3⟩ | ⟨h1, h2, h3, h4⟩ | ⟨h1, h2, h3, h4⟩
  all_goals
    go_enter Try.func124, Try.ntmps124
    go_wp2_with (first | (go_at_call 61; refine call_same (l00In_c _ _ _ _) ?_) | (go_at_call 129; refine call_same (l10Size_c _ _) ?_))
    go_ret
    exact ⟨by simp [neckB, *], rfl⟩
theorem toNeck_c (p l g s : Int) (w : World) : Calls Try.prog 102 #[.agg #[.int .i64 p, .int .i64 l, .int .i64 g, .int .i64 s]] w fun e w' => e = .returned (.agg #[.int .i64 p, .int .i64 l, .int .i64 g, .int .i64 s]) ∧ Below w.heap.size w w' := by
  go_enter Try.func102, Try.ntmps102
  go_wp2
  go_returns
  exact ⟨rfl, by go_grown⟩
end Go.Proofs.Ytejcglenjhkhhaa
