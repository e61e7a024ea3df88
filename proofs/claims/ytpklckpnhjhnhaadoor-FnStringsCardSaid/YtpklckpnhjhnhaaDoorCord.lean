/- A string (Cord): both sides' test of validity, and the law's copy. -/
import Derived.Test.YtpklckpnhjhnhaaDoorWithin
namespace Go.Proofs.YtpklckpnhjhnhaaDoor
open Go.RowKit

/-- A valid string's four numbers. -/
def cordB (p l g s : Int) : Bool := inB p 1 10000 && inB l 1 500 && inB g 1 10000 && inB s 1 500000

theorem validString_c (p l g s : Int) (w : World) : Calls Tryd.prog 13 #[.agg #[.int .i64 p, .int .i64 l, .int .i64 g, .int .i64 s]] w fun e w' => e = .returned (.bool (cordB p l g s)) ∧ Below w.heap.size w w' := by
  rcases and4 (inB p 1 10000) (inB l 1 500) (inB g 1 10000) (inB s 1 500000) with h1 | ⟨h1, h2⟩ | ⟨h1, h2, h3⟩ | ⟨h1, h2, h3, h4⟩ | ⟨h1, h2, h3, h4⟩
  all_goals
    go_enter Tryd.func13, Tryd.ntmps13
    go_wp2_with (go_at_call 36; refine call_same (within_c _ _ _ _) ?_)
    go_ret
    exact ⟨by simp [cordB, *], by go_grown⟩
theorem l09One_c (b o : Nat) (p l g s : Int) (w : World) (c0 : w.cell? ⟨b, o, none⟩ = some (.int .i64 p)) (c1 : w.cell? ⟨b, o+1, none⟩ = some (.int .i64 l)) (c2 : w.cell? ⟨b, o+2, none⟩ = some (.int .i64 g)) (c3 : w.cell? ⟨b, o+3, none⟩ = some (.int .i64 s)) :
   Calls Tryd.prog 39 #[.pointer (some ⟨b, o, none⟩)] w fun e w' => e = .returned (.bool (cordB p l g s)) ∧ w = w' := by
  rcases and4 (inB p 1 10000) (inB l 1 500) (inB g 1 10000) (inB s 1 500000) with h1 | ⟨h1, h2⟩ | ⟨h1, h2, h3⟩ | ⟨h1, h2, h3, h4⟩ | ⟨h1, h2, h3, h4⟩
  all_goals
    go_enter Tryd.func39, Tryd.ntmps39
    go_wp2_with (go_at_call 57; refine call_same (l00In_c _ _ _ _) ?_)
    go_ret
    exact ⟨by simp [cordB, *], rfl⟩
end Go.Proofs.YtpklckpnhjhnhaaDoor
