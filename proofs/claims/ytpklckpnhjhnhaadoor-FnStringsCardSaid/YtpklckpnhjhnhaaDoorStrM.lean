/- Plain: what the law of strings asks of the tension. No program in sight. -/
import Derived.Test.YtpklckpnhjhnhaaDoorDrawOne
import Derived.Test.YtpklckpnhjhnhaaDoorShTensionOf
import Derived.Test.YtpklckpnhjhnhaaDoorShSafetyOf
import Derived.Test.YtpklckpnhjhnhaaDoorShHighestPitch
import Derived.Test.YtpklckpnhjhnhaaDoorShLeastGauge
import Derived.Test.YtpklckpnhjhnhaaDoorShStopPlace
import Derived.Test.YtpklckpnhjhnhaaDoorReadBack
import Derived.Test.YtpklckpnhjhnhaaDoorReadQuad
namespace Go.Proofs.YtpklckpnhjhnhaaDoor
open Go.RowKit
set_option linter.unusedVariables false

theorem cordB_of {p q r s : Int} (hp : 1 ≤ p ∧ p ≤ 10000) (hq : 1 ≤ q ∧ q ≤ 500) (hr : 1 ≤ r ∧ r ≤ 10000) (hs : 1 ≤ s ∧ s ≤ 500000) : cordB p q r s = true := by
  have h1 : inB p 1 10000 = true := decide_eq_true hp
  have h2 : inB q 1 500 = true := decide_eq_true hq
  have h3 : inB r 1 10000 = true := decide_eq_true hr
  have h4 : inB s 1 500000 = true := decide_eq_true hs
  unfold cordB
  rw [h1, h2, h3, h4]
  rfl
theorem cordB_no_p {p q r s : Int} (hp : 10000 < p) : cordB p q r s = false := by
  have h1 : inB p 1 10000 = false := decide_eq_false (by omega)
  unfold cordB
  rw [h1]
  rfl
theorem cordB_no_g {p q r s : Int} (hr : r < 1) : cordB p q r s = false := by
  have h1 : inB r 1 10000 = false := decide_eq_false (by omega)
  unfold cordB
  rw [h1, Bool.and_false]
  rfl
theorem DrawnC.ok {p q r s : Int} (h : DrawnC p q r s) : cordB p q r s = true := by
  obtain ⟨h1, h2, h3, h4⟩ := h
  exact cordB_of (by omega) (by omega) (by omega) (by omega)
theorem ten_pos {p q r s : Int} (h : DrawnC p q r s) : 1 ≤ tenF p q r := by
  obtain ⟨h1, h2, h3, h4⟩ := h
  have b1 : 1960 * 1960 ≤ p * p := Int.mul_le_mul h1.1 h1.1 (by omega) (by omega)
  have b2 : 320 * 320 ≤ q * q := Int.mul_le_mul h2.1 h2.1 (by omega) (by omega)
  have b3 : (1960 * 1960) * (320 * 320) ≤ (p * p) * (q * q) := Int.mul_le_mul b1 b2 (by omega) (by omega)
  have b4 : ((1960 * 1960) * (320 * 320)) * 300 ≤ ((p * p) * (q * q)) * r := Int.mul_le_mul b3 h3.1 (by omega) (by omega)
  have e : 4 * p * p * q * q * r = 4 * (((p * p) * (q * q)) * r) := by
    simp only [Int.mul_assoc]
  unfold tenF
  have h0 : (100000000000 : Int) ≤ 4 * p * p * q * q * r := by rw [e]; omega
  refine Int.le_trans ?_ (rdiv_mono (by omega) h0)
  decide
theorem ten_gauge {p q a b : Int} (hp : 0 ≤ p) (hq : 0 ≤ q) (h : a ≤ b) : tenF p q a ≤ tenF p q b := by
  refine rdiv_mono (by omega) ?_
  exact Int.mul_le_mul_of_nonneg_left h (Int.mul_nonneg (Int.mul_nonneg (Int.mul_nonneg (by omega) hp) hq) hq)
/-- What HighestPitch answers for a valid string and share. -/
theorem high_cases {p q r s m : Int} (h : cordB p q r s = true) (hm : inB m 0 1000 = true) :
    (shHighestPitch.fF p q r s m = (0, 3)) ∨ ∃ x : Int, shHighestPitch.fF p q r s m = (x, 0) ∧ (1 ≤ x ∧ x ≤ 10000) ∧ holdB x q r s m = true ∧ (x + 1 ≤ 10000 → holdB (x + 1) q r s m = false) := by
  cases hf : firstUpTo (shHighestPitch.hiP q r s m) 10000 with
  | none => left; simp only [shHighestPitch.fF, h, hm, if_true, hf]
  | some k =>
    right
    have hk := hf
    unfold firstUpTo at hk
    rw [List.find?_range_eq_some] at hk
    obtain ⟨h1, h2, h3⟩ := hk
    have hk2 := List.mem_range.1 h2
    refine ⟨10000 - (k : Int), by simp only [shHighestPitch.fF, h, hm, if_true, hf], ⟨by omega, by omega⟩, h1, fun hx => ?_⟩
    have h4 := h3 (k - 1) (by omega)
    have h5 : shHighestPitch.hiP q r s m (k - 1) = holdB (10000 - (k : Int) + 1) q r s m := by
      have e : (10000 : Int) - ((k - 1 : Nat) : Int) = 10000 - (k : Int) + 1 := by omega
      unfold shHighestPitch.hiP
      rw [e]
    rw [h5] at h4
    simpa using h4
/-- What LeastGauge answers for a valid string and force. -/
theorem least_cases {p q r s m : Int} (h : cordB p q r s = true) (hm : inB m 0 500000 = true) :
    (shLeastGauge.fF p q r s m = (0, 3)) ∨ ∃ x : Int, shLeastGauge.fF p q r s m = (x, 0) ∧ (1 ≤ x ∧ x ≤ 10000) ∧ m ≤ tenF p q x ∧ (1 ≤ x - 1 → tenF p q (x - 1) < m) := by
  cases hf : firstUpTo (shLeastGauge.gauP p q m) 10000 with
  | none => left; simp only [shLeastGauge.fF, h, hm, if_true, hf]
  | some k =>
    right
    have hk := hf
    unfold firstUpTo at hk
    rw [List.find?_range_eq_some] at hk
    obtain ⟨h1, h2, h3⟩ := hk
    have hk2 := List.mem_range.1 h2
    refine ⟨(k : Int) + 1, by simp only [shLeastGauge.fF, h, hm, if_true, hf], ⟨by omega, by omega⟩, of_decide_eq_true h1, fun hx => ?_⟩
    have h4 := h3 (k - 1) (by omega)
    have h5 : shLeastGauge.gauP p q m (k - 1) = decide (m ≤ tenF p q ((k : Int) + 1 - 1)) := by
      unfold shLeastGauge.gauP
      have : ((k - 1 : Nat) : Int) + 1 = (k : Int) + 1 - 1 := by omega
      rw [this]
    rw [h5] at h4
    have h6 : decide (m ≤ tenF p q ((k : Int) + 1 - 1)) = false := by simpa using h4
    have := of_decide_eq_false h6
    omega
/-- Where a string is stopped. -/
theorem stop_near {n b : Int} (hn : 0 ≤ n) (hb : 0 < b) : 2 * (max (rdiv n b * b - n) (-(rdiv n b * b - n))) ≤ b := by
  have e := Int.mul_ediv_add_emod n b
  have r0 := Int.emod_nonneg n (Int.ne_of_gt hb)
  have r1 := Int.emod_lt_of_pos n hb
  have ec : n / b * b = b * (n / b) := Int.mul_comm _ _
  rw [rdiv_pos hn hb]
  split
  · have : (n / b + 1) * b = b * (n / b) + b := by rw [Int.add_mul, ec]; omega
    omega
  · omega
theorem stop_bd {q p m : Int} (hq : 0 ≤ q) (hp : 0 ≤ p) (hm : p ≤ m) (h0 : 0 < m) : 0 ≤ rdiv (10 * q * (m - p)) m ∧ rdiv (10 * q * (m - p)) m ≤ 10 * q := by
  have h1 : 0 ≤ 10 * q * (m - p) := Int.mul_nonneg (by omega) (by omega)
  refine ⟨rdiv_nonneg h1 h0, rdiv_le ?_ h0 (by omega)⟩
  rw [Int.mul_comm m]
  exact Int.mul_le_mul_of_nonneg_left (by omega) (by omega)
theorem stop_same {q p : Int} (h0 : 0 < p) : rdiv (10 * q * (p - p)) p = 0 := by
  rw [Int.sub_self, Int.mul_zero, rdiv_pos (by omega) h0]
  simp
  omega
theorem read_back {p q r s : Int} (h : cordB p q r s = true) : readQ cordB (quadT (cordB p q r s) p q r s) = some (p, q, r, s) := by
  have hn := (cordB_ok h).nums
  have hr := read_list (xs := [p, q, r, s]) (by simp) (by simp) hn
  rw [show quadT (cordB p q r s) p q r s = listT [p, q, r, s] by unfold quadT; rw [if_pos h]]
  exact readQ_good hr h
theorem text_len {p q r s : Int} (h : cordB p q r s = true) : (quadT (cordB p q r s) p q r s).length ≤ 1048576 := by
  rw [show quadT (cordB p q r s) p q r s = listT [p, q, r, s] by unfold quadT; rw [if_pos h]]
  have hn := (cordB_ok h).nums
  unfold listT
  rw [if_neg (by simp)]
  have := jt_len (sep := 44) hn.len 4 (by simp [numTs])
  simp at this ⊢
  omega
end Go.Proofs.YtpklckpnhjhnhaaDoor
