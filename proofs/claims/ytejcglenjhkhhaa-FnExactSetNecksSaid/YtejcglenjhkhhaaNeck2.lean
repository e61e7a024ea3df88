/- A neck's projection: the program's method and the reference's function; heights. -/
import Derived.Test.YtejcglenjhkhhaaNeck
import Derived.Test.YtejcglenjhkhhaaDiv
namespace Go.Proofs.Ytejcglenjhkhhaa
open Go.RowKit

/-- The projection with an angle. -/
def projF (b o a : Int) : Int := o + rdiv (b * a) 1000
theorem projF_bd {b o a : Int} (hb : 0 ≤ b ∧ b ≤ 10000) (ho : 0 ≤ o ∧ o ≤ 500) (ha : 0 ≤ a ∧ a ≤ 1000000) : 0 ≤ projF b o a ∧ projF b o a ≤ 10000500 := by
  have h := mul_bd hb.1 hb.2 ha.1 ha.2
  have h1 := rdiv_nonneg (a := b * a) (b := 1000) h.1 (by omega)
  have h2 := rdiv_le (a := b * a) (b := 1000) (c := 10000000) (by omega) (by omega) (by omega)
  unfold projF; omega

theorem projection_c (s b o a : Int) (w : World) (hb : 0 ≤ b ∧ b ≤ 10000) (ho : 0 ≤ o ∧ o ≤ 500) (ha : 0 ≤ a ∧ a ≤ 1000000) :
    Calls Try.prog 106 #[.agg #[.int .i64 s, .int .i64 b, .int .i64 o, .int .i64 a]] w fun e w' => e = .returned (.int .i64 (projF b o a)) ∧ Below w.heap.size w w' := by
  have h := mul_bd hb.1 hb.2 ha.1 ha.2
  have h1 := rdiv_nonneg (a := b * a) (b := 1000) h.1 (by omega)
  have h2 := rdiv_le (a := b * a) (b := 1000) (c := 10000000) (by omega) (by omega) (by omega)
  have h3 := IntWalk.i64_in (o + rdiv (b * a) 1000) (by omega)
  have h4 := IntWalk.i64_in (b * a) (by omega)
  go_enter Try.func106, Try.ntmps106
  go_wp2_with fail
  go_quiet ((go_at_call 83; exact quiet_at (divRound_c _ _ _ (by omega) (by omega) (by omega) (by omega))))
  go_wp2
  go_ret
  exact ⟨rfl, below_drewN (by go_grown) _⟩

theorem l10High_c (bk of : Nat) (b o a : Int) (w : World) (c1 : w.cell? ⟨bk, of+1, none⟩ = some (.int .i64 b)) (c2 : w.cell? ⟨bk, of+2, none⟩ = some (.int .i64 o)) (hb : 0 ≤ b ∧ b ≤ 10000) (ho : 0 ≤ o ∧ o ≤ 500) (ha : 0 ≤ a ∧ a ≤ 1000000) :
    Calls Try.prog 101 #[.pointer (some ⟨bk, of, none⟩), .int .i64 a] w fun e w' => e = .returned (.int .i64 (projF b o a)) ∧ Below w.heap.size w w' := by
  have h := mul_bd hb.1 hb.2 ha.1 ha.2
  have h1 := rdiv_nonneg (a := b * a) (b := 1000) h.1 (by omega)
  have h2 := rdiv_le (a := b * a) (b := 1000) (c := 10000000) (by omega) (by omega) (by omega)
  have h3 := IntWalk.i64_in (o + rdiv (b * a) 1000) (by omega)
  have h4 := IntWalk.i64_in (b * a) (by omega)
  go_enter Try.func101, Try.ntmps101
  go_wp2_with fail
  go_quiet ((go_at_call 81; exact quiet_at (l01Div_c _ _ _ (by omega) (by omega) (by omega) (by omega))))
  go_wp2
  go_ret
  exact ⟨rfl, below_drewN (Below.refl _ _) _⟩

theorem isHeight_c (n : Int) (w : World) : Calls Try.prog 104 #[.int .i64 n] w fun e w' => e = .returned (.bool (inB n 0 2000)) ∧ w = w' := by
  go_enter Try.func104, Try.ntmps104
  go_wp2_with (go_at_call 66; refine call_same (within_c _ _ _ _) ?_)
  go_ret
  exact ⟨rfl, rfl⟩
theorem l10Height_c (n : Int) (w : World) : Calls Try.prog 100 #[.int .i64 n] w fun e w' => e = .returned (.bool (inB n 0 2000)) ∧ w = w' := by
  go_enter Try.func100, Try.ntmps100
  go_wp2_with (go_at_call 61; refine call_same (l00In_c _ _ _ _) ?_)
  go_ret
  exact ⟨rfl, rfl⟩
end Go.Proofs.Ytejcglenjhkhhaa
