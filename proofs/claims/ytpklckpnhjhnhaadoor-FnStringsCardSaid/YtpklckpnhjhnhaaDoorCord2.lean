/- A string's tension: the program's method and the reference's function. -/
import Derived.Test.YtpklckpnhjhnhaaDoorCord
import Derived.Test.YtpklckpnhjhnhaaDoorDiv
namespace Go.Proofs.YtpklckpnhjhnhaaDoor
open Go.RowKit

/-- The tension. -/
def tenF (p l g : Int) : Int := rdiv (4 * p * p * l * l * g) 100000000000
/-- A string's numbers within their bounds. -/
def CordIn (p l g : Int) : Prop := (0 ≤ p ∧ p ≤ 10000) ∧ (0 ≤ l ∧ l ≤ 500) ∧ (0 ≤ g ∧ g ≤ 10000)
theorem cordB_true {p l g s : Int} (h : cordB p l g s = true) : (1 ≤ p ∧ p ≤ 10000) ∧ (1 ≤ l ∧ l ≤ 500) ∧ (1 ≤ g ∧ g ≤ 10000) ∧ (1 ≤ s ∧ s ≤ 500000) := by
  simp [cordB, inB] at h; omega
theorem CordIn.of {p l g s : Int} (h : cordB p l g s = true) : CordIn p l g := by
  have := cordB_true h
  exact ⟨⟨by omega, by omega⟩, ⟨by omega, by omega⟩, ⟨by omega, by omega⟩⟩
theorem ten_bd {p l g : Int} (h : CordIn p l g) :
    (0 ≤ 4 * p ∧ 4 * p ≤ 40000) ∧ (0 ≤ 4 * p * p ∧ 4 * p * p ≤ 400000000) ∧ (0 ≤ 4 * p * p * l ∧ 4 * p * p * l ≤ 200000000000) ∧
    (0 ≤ 4 * p * p * l * l ∧ 4 * p * p * l * l ≤ 100000000000000) ∧ (0 ≤ 4 * p * p * l * l * g ∧ 4 * p * p * l * l * g ≤ 1000000000000000000) := by
  obtain ⟨hp, hl, hg⟩ := h
  have b1 : 0 ≤ 4 * p ∧ 4 * p ≤ 40000 := by omega
  have b2 := mul_bd b1.1 b1.2 hp.1 hp.2
  have b3 := mul_bd b2.1 b2.2 hl.1 hl.2
  have b4 := mul_bd b3.1 b3.2 hl.1 hl.2
  have b5 := mul_bd b4.1 b4.2 hg.1 hg.2
  exact ⟨b1, ⟨b2.1, by omega⟩, ⟨b3.1, by omega⟩, ⟨b4.1, by omega⟩, ⟨b5.1, by omega⟩⟩
theorem tenF_bd {p l g : Int} (h : CordIn p l g) : 0 ≤ tenF p l g ∧ tenF p l g ≤ 10000000 := by
  obtain ⟨_, _, _, _, h5⟩ := ten_bd h
  exact ⟨rdiv_nonneg h5.1 (by omega), rdiv_le (by omega) (by omega) (by omega)⟩

theorem tension_c (p l g s : Int) (w : World) (hi : CordIn p l g) :
    Calls Tryd.prog 33 #[.agg #[.int .i64 p, .int .i64 l, .int .i64 g, .int .i64 s]] w fun e w' => e = .returned (.int .i64 (tenF p l g)) ∧ Below w.heap.size w w' := by
  obtain ⟨b1, b2, b3, b4, b5⟩ := ten_bd hi
  clear hi
  go_enter Tryd.func33, Tryd.ntmps33
  go_wp2_with (go_at_call 41; refine call_same (divRound_c _ _ _ (by omega) (by omega) (by omega) (by omega)) ?_)
  go_ret
  exact ⟨rfl, by go_grown⟩

theorem l09Tension_c (b o : Nat) (p l g : Int) (w : World) (c0 : w.cell? ⟨b, o, none⟩ = some (.int .i64 p)) (c1 : w.cell? ⟨b, o+1, none⟩ = some (.int .i64 l)) (c2 : w.cell? ⟨b, o+2, none⟩ = some (.int .i64 g)) (hi : CordIn p l g) :
    Calls Tryd.prog 40 #[.pointer (some ⟨b, o, none⟩)] w fun e w' => e = .returned (.int .i64 (tenF p l g)) ∧ Below w.heap.size w w' := by
  obtain ⟨b1, b2, b3, b4, b5⟩ := ten_bd hi
  clear hi
  have h1 := IntWalk.i64_in (4 * p) (by omega)
  have h2 := IntWalk.i64_in (4 * p * p) (by omega)
  have h3 := IntWalk.i64_in (4 * p * p * l) (by omega)
  have h4 := IntWalk.i64_in (4 * p * p * l * l) (by omega)
  have h5 := IntWalk.i64_in (4 * p * p * l * l * g) (by omega)
  go_enter Tryd.func40, Tryd.ntmps40
  go_wp2_with fail
  go_quiet ((go_at_call 58; exact quiet_at (l01Div_c _ _ _ (by omega) (by omega) (by omega) (by omega))))
  go_wp2
  go_ret
  exact ⟨rfl, below_drewN (Below.refl _ _) _⟩
end Go.Proofs.YtpklckpnhjhnhaaDoor
