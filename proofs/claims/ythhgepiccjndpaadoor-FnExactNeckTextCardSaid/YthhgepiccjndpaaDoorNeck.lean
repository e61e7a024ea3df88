/- A neck: both sides' test of validity, and the law's copy. -/
import Derived.Test.YthhgepiccjndpaaDoorWithin
namespace Go.Proofs.YthhgepiccjndpaaDoor
open Go.RowKit

/-- A valid neck's four numbers. -/
def neckB (s b o a : Int) : Bool := inB s 100 10000 && inB b 100 10000 && inB o 0 500 && inB a 0 300
theorem neckB_true {s b o a : Int} (h : neckB s b o a = true) : (100 ≤ s ∧ s ≤ 10000) ∧ (100 ≤ b ∧ b ≤ 10000) ∧ (0 ≤ o ∧ o ≤ 500) ∧ (0 ≤ a ∧ a ≤ 300) := by
  simp [neckB, inB] at h; omega

theorem validNeck_c (s b o a : Int) (w : World) : Calls Tryd.prog 56 #[.agg #[.int .i64 s, .int .i64 b, .int .i64 o, .int .i64 a]] w fun e w' => e = .returned (.bool (neckB s b o a)) ∧ Below w.heap.size w w' := by
  rcases and4 (inB s 100 10000) (inB b 100 10000) (inB o 0 500) (inB a 0 300) with h1 | ⟨h1, h2⟩ | ⟨h1, h2, h3⟩ | ⟨h1, h2, h3, h4⟩ | ⟨h1, h2, h3, h4⟩
  all_goals
    go_enter Tryd.func56, Tryd.ntmps56
    go_wp2_with (go_at_call 48; refine call_same (within_c _ _ _ _) ?_)
    go_ret
    exact ⟨by simp [neckB, *], by go_grown⟩
theorem l10Size_c (n : Int) (w : World) : Calls Tryd.prog 78 #[.int .i64 n] w fun e w' => e = .returned (.bool (inB n 100 10000)) ∧ w = w' := by
  go_enter Tryd.func78, Tryd.ntmps78
  go_wp2_with (go_at_call 76; refine call_same (l00In_c _ _ _ _) ?_)
  go_ret
  exact ⟨rfl, rfl⟩
theorem l10Ok_c (bk of : Nat) (s b o a : Int) (w : World) (c0 : w.cell? ⟨bk, of, none⟩ = some (.int .i64 s)) (c1 : w.cell? ⟨bk, of+1, none⟩ = some (.int .i64 b)) (c2 : w.cell? ⟨bk, of+2, none⟩ = some (.int .i64 o)) (c3 : w.cell? ⟨bk, of+3, none⟩ = some (.int .i64 a)) :
   Calls Tryd.prog 54 #[.pointer (some ⟨bk, of, none⟩)] w fun e w' => e = .returned (.bool (neckB s b o a)) ∧ w = w' := by
  rcases and4 (inB s 100 10000) (inB b 100 10000) (inB o 0 500) (inB a 0 300) with h1 | ⟨h1, h2⟩ | ⟨h1, h2, h3⟩ | ⟨h1, h2, h3, h4⟩ | ⟨h1, h2, h3, h4⟩
  all_goals
    go_enter Tryd.func54, Tryd.ntmps54
    go_wp2_with (first | (go_at_call 76; refine call_same (l00In_c _ _ _ _) ?_) | (go_at_call 78; refine call_same (l10Size_c _ _) ?_))
    go_ret
    exact ⟨by simp [neckB, *], rfl⟩
theorem toNeck_c (p l g s : Int) (w : World) : Calls Tryd.prog 25 #[.agg #[.int .i64 p, .int .i64 l, .int .i64 g, .int .i64 s]] w fun e w' => e = .returned (.agg #[.int .i64 p, .int .i64 l, .int .i64 g, .int .i64 s]) ∧ Below w.heap.size w w' := by
  go_enter Tryd.func25, Tryd.ntmps25
  go_wp2
  go_returns
  exact ⟨rfl, by go_grown⟩
end Go.Proofs.YthhgepiccjndpaaDoor
