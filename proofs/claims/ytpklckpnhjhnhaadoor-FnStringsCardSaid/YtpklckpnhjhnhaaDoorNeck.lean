/- A neck: both sides' test of validity, and the law's copy. -/
import Derived.Test.YtpklckpnhjhnhaaDoorWithin
namespace Go.Proofs.YtpklckpnhjhnhaaDoor
open Go.RowKit

/-- A valid neck's four numbers. -/
def neckB (s b o a : Int) : Bool := inB s 100 10000 && inB b 100 10000 && inB o 0 500 && inB a 0 300
theorem neckB_true {s b o a : Int} (h : neckB s b o a = true) : (100 ≤ s ∧ s ≤ 10000) ∧ (100 ≤ b ∧ b ≤ 10000) ∧ (0 ≤ o ∧ o ≤ 500) ∧ (0 ≤ a ∧ a ≤ 300) := by
  simp [neckB, inB] at h; omega

theorem validNeck_c (s b o a : Int) (w : World) : Calls Tryd.prog 44 #[.agg #[.int .i64 s, .int .i64 b, .int .i64 o, .int .i64 a]] w fun e w' => e = .returned (.bool (neckB s b o a)) ∧ Below w.heap.size w w' := by
  rcases and4 (inB s 100 10000) (inB b 100 10000) (inB o 0 500) (inB a 0 300) with h1 | ⟨h1, h2⟩ | ⟨h1, h2, h3⟩ | ⟨h1, h2, h3, h4⟩ | ⟨h1, h2, h3, h4⟩
  all_goals
    go_enter Tryd.func44, Tryd.ntmps44
    go_wp2_with (go_at_call 36; refine call_same (within_c _ _ _ _) ?_)
    go_ret
    exact ⟨by simp [neckB, *], by go_grown⟩
theorem l10Size_c (n : Int) (w : World) : Calls Tryd.prog 73 #[.int .i64 n] w fun e w' => e = .returned (.bool (inB n 100 10000)) ∧ w = w' := by
  go_enter Tryd.func73, Tryd.ntmps73
  go_wp2_with (go_at_call 57; refine call_same (l00In_c _ _ _ _) ?_)
  go_ret
  exact ⟨rfl, rfl⟩
theorem l10Ok_c (bk of : Nat) (s b o a : Int) (w : World) (c0 : w.cell? ⟨bk, of, none⟩ = some (.int .i64 s)) (c1 : w.cell? ⟨bk, of+1, none⟩ = some (.int .i64 b)) (c2 : w.cell? ⟨bk, of+2, none⟩ = some (.int .i64 o)) (c3 : w.cell? ⟨bk, of+3, none⟩ = some (.int .i64 a)) :
   Calls Tryd.prog 61 #[.pointer (some ⟨bk, of, none⟩)] w fun e w' => e = .returned (.bool (neckB s b o a)) ∧ w = w' := by
  rcases and4 (inB s 100 10000) (inB b 100 10000) (inB o 0 500) (inB a 0 300) with h1 | ⟨h1, h2⟩ | ⟨h1, h2, h3⟩ | ⟨h1, h2, h3, h4⟩ | ⟨h1, h2, h3, h4⟩
  all_goals
    go_enter Tryd.func61, Tryd.ntmps61
    go_wp2_with (first | (go_at_call 57; refine call_same (l00In_c _ _ _ _) ?_) | (go_at_call 73; refine call_same (l10Size_c _ _) ?_))
    go_ret
    exact ⟨by simp [neckB, *], rfl⟩
end Go.Proofs.YtpklckpnhjhnhaaDoor
