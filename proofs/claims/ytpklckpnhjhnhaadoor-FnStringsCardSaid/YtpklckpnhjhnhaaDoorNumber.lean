/- Reading a number: the reference's own way. -/
import Derived.Test.YtpklckpnhjhnhaaDoorParse
import Derived.Test.YtpklckpnhjhnhaaDoorSplit
namespace Go.Proofs.YtpklckpnhjhnhaaDoor
open Go.RowKit Go.ChangeShapes Go.WideShapes
set_option linter.unusedVariables false

theorem l01Digit_c (x : UInt8) (w : World) : Calls Tryd.prog 72 #[.int .u8 (x.toNat : Int)] w fun e w' => e = .returned (.bool (Lib.digitVal x).isSome) ∧ w = w' := by
  by_cases h1 : 48 ≤ x.toNat
  · have d1 : decide (x.toNat ≥ 48) = true := decide_eq_true h1
    have HF := Lib.hid (show (Lib.digitVal x).isSome = decide (x.toNat ≤ 57) by unfold Lib.digitVal; by_cases h2 : x.toNat ≤ 57 <;> simp [h1, h2])
    go_enter Tryd.func72, Tryd.ntmps72
    go_wp2
    all_goals
      go_ret
      refine ⟨?_, rfl⟩
      rw [HF.out]
      first | done | rfl | (simp; done) | (simp; omega)
  · have HF := Lib.hid (show (Lib.digitVal x).isSome = false by unfold Lib.digitVal; simp; omega)
    go_enter Tryd.func72, Tryd.ntmps72
    go_wp2
    all_goals
      go_ret
      refine ⟨?_, rfl⟩
      rw [HF.out]
      first | done | rfl | (simp; done) | (simp; omega)
/-- What stands of the digits up to place k, the first of them at place i. -/
def NumTo (l : List UInt8) (i k : Nat) (m : Nat) : Prop := Lib.decFrom 0 ((l.drop i).take (k - i)) = some m
theorem NumTo.step {l : List UInt8} {i k m d : Nat} (h : NumTo l i k m) (hik : i ≤ k) (hk : k < l.length) (hd : Lib.digitVal l[k] = some d) : NumTo l i (k + 1) (m * 10 + d) := by
  unfold NumTo at h ⊢
  rw [show k + 1 - i = (k - i) + 1 by omega]
  exact Lib.decFrom_take _ _ _ _ _ _ h (by rw [List.getElem?_drop, show i + (k - i) = k by omega, List.getElem?_eq_getElem hk]) hd
theorem NumTo.all {l : List UInt8} {i m : Nat} (h : NumTo l i l.length m) : Lib.decFrom 0 (l.drop i) = some m := by
  unfold NumTo at h
  rwa [List.take_of_length_le (by rw [List.length_drop]; omega)] at h
theorem NumTo.lt {l : List UInt8} {i k m : Nat} (h : NumTo l i k m) (hik : i ≤ k) (hk : k < l.length) (hl : l.length - i ≤ 18) : m < 100000000000000000 := by
  have h1 := Lib.decFrom_take_lt (l := l.drop i) (k := k - i) h (by omega)
  exact h1
theorem no_digit {l : List UInt8} {i k : Nat} (hik : i ≤ k) (hk : k < l.length) (hd : Lib.digitVal l[k] = none) : Lib.decFrom 0 (l.drop i) = none := by
  cases h : Lib.decFrom 0 (l.drop i) with
  | none => rfl
  | some n =>
    obtain ⟨d, e⟩ := Lib.digit_of_decFrom _ _ _ h (k - i) l[k] (by rw [List.getElem?_drop, show i + (k - i) = k by omega, List.getElem?_eq_getElem hk])
    rw [hd] at e
    cases e

set_option maxRecDepth 100000 in
theorem l01Number_c (l : List UInt8) (hl : l.length ≤ 1048576) (w : World) :
    Calls Tryd.prog 60 #[.string ⟨l.toArray⟩] w fun e w' => e = .returned (.tuple #[.int .i64 (numV (numF l)), .bool (numF l).isSome]) ∧ w = w' := by
  by_cases h0 : l.length = 0
  · obtain rfl := List.length_eq_zero_iff.1 h0
    have HF := Lib.hid (show numF [] = none from rfl)
    clear h0
    go_enter Tryd.func60, Tryd.ntmps60
    go_wp2
    go_returns
    exact ⟨by rw [HF.out]; rfl, rfl⟩
  · have hp : 0 < l.length := by omega
    have HB0 := Lib.hid (byte_at hp)
    have d0 : decide (0 < l.length) = true := decide_eq_true hp
    by_cases hs : l[0] = 45
    · have q0 : ((⟨l.toArray⟩ : ByteArray)[0]'(by simpa [ByteArray.size] using hp)).toNat = 45 := by rw [HB0.out, hs]; rfl
      have HM := Lib.hid (show magOf l = l.drop 1 by
        cases l with
        | nil => simp at hp
        | cons c r => simp at hs; subst hs; rfl)
      have HH := Lib.hid (show l.head? = some 45 by
        cases l with
        | nil => simp at hp
        | cons c r => simp at hs; subst hs; rfl)
      clear hs
      by_cases h1 : l.length = 1
      · have HF := Lib.hid (show numF l = none by unfold numF; rw [if_pos (.inl (by rw [HM.out]; exact List.drop_eq_nil_of_le (by omega)))])
        have e1 : ((l.length : Int) == 1) = true := by rw [beq_iff_eq]; omega
        clear h0
        go_enter Tryd.func60, Tryd.ntmps60
        go_wp2
        all_goals
          go_returns
          exact ⟨by rw [HF.out]; rfl, rfl⟩
      have e1 : ((l.length : Int) == 1) = false := by rw [beq_eq_false_iff_ne]; omega
      have hlm : (magOf l).length = l.length - 1 := by rw [HM.out, List.length_drop]
      by_cases h2 : 18 < (magOf l).length
      · have HF := Lib.hid (numF_long h2)
        rw [hlm] at h2
        clear hlm
        have e2 : decide ((18 : Int) < (l.length : Int) - 1) = true := decide_eq_true (by omega)
        go_enter Tryd.func60, Tryd.ntmps60
        go_wp2
        all_goals
          first
            | (exfalso; omega)
            | (go_returns; exact ⟨by rw [HF.out]; rfl, rfl⟩)
      have h2' := h2
      rw [hlm] at h2'
      have e2 : decide ((18 : Int) < (l.length : Int) - 1) = false := decide_eq_false (by omega)
      have hp1 : 1 < l.length := by omega
      have HB1 := Lib.hid (byte_at hp1)
      have HD1 := Lib.hid (show (magOf l).head? = some l[1] by rw [HM.out, List.head?_drop, List.getElem?_eq_getElem hp1])
      by_cases h3 : l[1] = 48 ∧ 1 < l.length
      · have HF := Lib.hid (show numF l = none by unfold numF; rw [if_pos (.inr (.inr ⟨by rw [HD1.out, h3.1], h3.2⟩))])
        have q1 : ((⟨l.toArray⟩ : ByteArray)[1]'(by simpa [ByteArray.size] using hp1)).toNat = 48 := by rw [HB1.out, h3.1]; rfl
        have e3 : decide ((1 : Int) < (l.length : Int)) = true := decide_eq_true (by have := h3.2; omega)
        clear h3 hlm h2 h0
        go_enter Tryd.func60, Tryd.ntmps60
        go_wp2
        all_goals
          first
            | (exfalso; omega)
            | (go_returns; exact ⟨by rw [HF.out]; rfl, rfl⟩)
      have HG := Lib.hid (show numF l = Option.map (fun u : Nat => -(u : Int)) (Lib.decFrom 0 (l.drop 1)) by
        unfold numF
        rw [if_neg (by
          rintro (h | h | h)
          · rw [h] at hlm; simp at hlm; omega
          · exact h2 h
          · rw [HD1.out] at h; exact h3 ⟨Option.some.inj h.1, h.2⟩), HM.out]
        simp only [HH.out, if_true]
        cases Lib.decFrom 0 (l.drop 1) <;> rfl)
      have HLL := Lib.hid (show l.length - 1 ≤ 18 by omega)
      have q3 : ¬ (((⟨l.toArray⟩ : ByteArray)[1]'(by simpa [ByteArray.size] using hp1)).toNat = 48 ∧ 1 < l.length) := by rw [HB1.out]; exact fun e => h3 ⟨UInt8.toNat_inj.1 e.1, e.2⟩
      clear h3 hlm h2 h0
      by_cases q1 : ((⟨l.toArray⟩ : ByteArray)[1]'(by simpa [ByteArray.size] using hp1)).toNat = 48
      · have e4 : ¬ 1 < l.length := fun h => q3 ⟨q1, h⟩
        exact absurd hp1 e4
      · skip
        clear q3
        go_enter Tryd.func60, Tryd.ntmps60
        go_wp2
        have HQ := Lib.hid q0
        have HQ1 := Lib.hid q1
        clear q0 q1
        clear e1 e2 d0
        go_loop [5, 6] (fun n j => ∃ k m : Nat, 1 ≤ k ∧ k ≤ l.length ∧ j = .int .i64 k ∧ n = .int .i64 m ∧ NumTo l 1 k m) (fun _ j => l.length - (intOf j).toNat)
        case atStart => exact ⟨1, 0, Nat.le_refl _, by omega, rfl, rfl, by unfold NumTo; simp [Lib.decFrom]⟩
        case round =>
          obtain ⟨k, m, hik, hk, rfl, rfl, hnt⟩ := hrel
          have HN := Lib.hid hnt
          clear hnt
          by_cases hlt : k < l.length
          · have HBY := Lib.hid (byte_at hlt)
            cases hd : Lib.digitVal l[k] with
            | none =>
              have HF := Lib.hid (show numF l = none by rw [HG.out, no_digit hik hlt hd]; rfl)
              have qd : (Lib.digitVal ((⟨l.toArray⟩ : ByteArray)[k]'(by simpa [ByteArray.size] using hlt))).isSome = false := by rw [HBY.out, hd]; rfl
              clear hd
              go_wp2_with (go_at_call 72; refine call_same (l01Digit_c _ _) ?_; rw [qd])
              go_returns
              exact ⟨by rw [HF.out]; rfl, rfl⟩
            | some d =>
              have hm := HN.out.lt hik hlt HLL.out
              have HS := Lib.hid (HN.out.step hik hlt hd)
              have qd : (Lib.digitVal ((⟨l.toArray⟩ : ByteArray)[k]'(by simpa [ByteArray.size] using hlt))).isSome = true := by rw [HBY.out, hd]; rfl
              have hx : 48 ≤ (((⟨l.toArray⟩ : ByteArray)[k]'(by simpa [ByteArray.size] using hlt)).toNat) ∧ ((((⟨l.toArray⟩ : ByteArray)[k]'(by simpa [ByteArray.size] using hlt)).toNat : Int) - 48 = d) ∧ d < 10 := by
                rw [HBY.out]
                unfold Lib.digitVal at hd
                split at hd
                · rename_i hb
                  simp only [Option.some.injEq] at hd
                  omega
                · cases hd
              clear hd
              obtain ⟨hx0, hx1, hx2⟩ := hx
              have qw : IntKind.u8.wrap ((((⟨l.toArray⟩ : ByteArray)[k]'(by simpa [ByteArray.size] using hlt)).toNat : Int) - 48) = d := by rw [hx1]; exact wrap8 (by omega) (by omega)
              clear hx1 hx0
              go_wp2_with (go_at_call 72; refine call_same (l01Digit_c _ _) ?_; rw [qd])
              refine ⟨⟨k + 1, m * 10 + d, by omega, hlt, by simp, congrArg (Value.int .i64) (by omega), HS.out⟩, by simp only [intOf]; omega⟩
          · have hkl : k = l.length := by omega
            subst hkl
            have HF := Lib.hid (show numF l = some (-(m : Int)) by rw [HG.out, HN.out.all]; rfl)
            have hm18 := Lib.decFrom_lt18 HN.out.all (by rw [List.length_drop]; exact HLL.out)
            have i1 := IntWalk.i64_in (-(m : Int)) (by omega)
            go_wp2
            go_returns
            exact ⟨by rw [HF.out]; rfl, rfl⟩
    · have q0 : ¬ ((⟨l.toArray⟩ : ByteArray)[0]'(by simpa [ByteArray.size] using hp)).toNat = 45 := by rw [HB0.out]; exact fun e => hs (UInt8.toNat_inj.1 e)
      have HH := Lib.hid (show ¬ l.head? = some 45 by
        cases l with
        | nil => simp at hp
        | cons c r => simpa using hs)
      have HM := Lib.hid (show magOf l = l.drop 0 by unfold magOf; rw [if_neg HH.out]; rfl)
      clear hs
      have e1 : ((l.length : Int) == 0) = false := by rw [beq_eq_false_iff_ne]; omega
      have hlm : (magOf l).length = l.length - 0 := by rw [HM.out, List.length_drop]
      by_cases h2 : 18 < (magOf l).length
      · have HF := Lib.hid (numF_long h2)
        rw [hlm] at h2
        clear hlm
        have e2 : decide ((18 : Int) < (l.length : Int)) = true := decide_eq_true (by omega)
        go_enter Tryd.func60, Tryd.ntmps60
        go_wp2
        all_goals
          first
            | (exfalso; omega)
            | (go_returns; exact ⟨by rw [HF.out]; rfl, rfl⟩)
      have h2' := h2
      rw [hlm] at h2'
      have e2 : decide ((18 : Int) < (l.length : Int)) = false := decide_eq_false (by omega)
      have hp1 : 0 < l.length := by omega
      have HB1 := Lib.hid (byte_at hp1)
      have HD1 := Lib.hid (show (magOf l).head? = some l[0] by rw [HM.out, List.head?_drop, List.getElem?_eq_getElem hp1])
      by_cases h3 : l[0] = 48 ∧ 1 < l.length
      · have HF := Lib.hid (show numF l = none by unfold numF; rw [if_pos (.inr (.inr ⟨by rw [HD1.out, h3.1], h3.2⟩))])
        have q1 : ((⟨l.toArray⟩ : ByteArray)[0]'(by simpa [ByteArray.size] using hp1)).toNat = 48 := by rw [HB1.out, h3.1]; rfl
        have e3 : decide ((1 : Int) < (l.length : Int)) = true := decide_eq_true (by have := h3.2; omega)
        clear h3 hlm h2 h0
        go_enter Tryd.func60, Tryd.ntmps60
        go_wp2
        all_goals
          first
            | (exfalso; omega)
            | (go_returns; exact ⟨by rw [HF.out]; rfl, rfl⟩)
      have HG := Lib.hid (show numF l = Option.map (fun u : Nat => (u : Int)) (Lib.decFrom 0 (l.drop 0)) by
        unfold numF
        rw [if_neg (by
          rintro (h | h | h)
          · rw [h] at hlm; simp at hlm; omega
          · exact h2 h
          · rw [HD1.out] at h; exact h3 ⟨Option.some.inj h.1, h.2⟩), HM.out]
        simp only [HH.out, if_false]
        cases Lib.decFrom 0 (l.drop 0) <;> rfl)
      have HLL := Lib.hid (show l.length - 0 ≤ 18 by omega)
      have q3 : ¬ (((⟨l.toArray⟩ : ByteArray)[0]'(by simpa [ByteArray.size] using hp1)).toNat = 48 ∧ 1 < l.length) := by rw [HB1.out]; exact fun e => h3 ⟨UInt8.toNat_inj.1 e.1, e.2⟩
      clear h3 hlm h2 h0
      by_cases q1 : ((⟨l.toArray⟩ : ByteArray)[0]'(by simpa [ByteArray.size] using hp1)).toNat = 48
      · have e4 : ¬ 1 < l.length := fun h => q3 ⟨q1, h⟩
        have e3 : decide ((1 : Int) < (l.length : Int)) = false := decide_eq_false (by omega)
        clear q3
        go_enter Tryd.func60, Tryd.ntmps60
        go_wp2
        have HQ := Lib.hid q0
        have HQ1 := Lib.hid q1
        clear q0 q1
        clear e1 e2 d0
        go_loop [5, 6] (fun n j => ∃ k m : Nat, 0 ≤ k ∧ k ≤ l.length ∧ j = .int .i64 k ∧ n = .int .i64 m ∧ NumTo l 0 k m) (fun _ j => l.length - (intOf j).toNat)
        case atStart => exact ⟨0, 0, Nat.le_refl _, by omega, rfl, rfl, by unfold NumTo; simp [Lib.decFrom]⟩
        case round =>
          obtain ⟨k, m, hik, hk, rfl, rfl, hnt⟩ := hrel
          have HN := Lib.hid hnt
          clear hnt
          by_cases hlt : k < l.length
          · have HBY := Lib.hid (byte_at hlt)
            cases hd : Lib.digitVal l[k] with
            | none =>
              have HF := Lib.hid (show numF l = none by rw [HG.out, no_digit hik hlt hd]; rfl)
              have qd : (Lib.digitVal ((⟨l.toArray⟩ : ByteArray)[k]'(by simpa [ByteArray.size] using hlt))).isSome = false := by rw [HBY.out, hd]; rfl
              clear hd
              go_wp2_with (go_at_call 72; refine call_same (l01Digit_c _ _) ?_; rw [qd])
              go_returns
              exact ⟨by rw [HF.out]; rfl, rfl⟩
            | some d =>
              have hm := HN.out.lt hik hlt HLL.out
              have HS := Lib.hid (HN.out.step hik hlt hd)
              have qd : (Lib.digitVal ((⟨l.toArray⟩ : ByteArray)[k]'(by simpa [ByteArray.size] using hlt))).isSome = true := by rw [HBY.out, hd]; rfl
              have hx : 48 ≤ (((⟨l.toArray⟩ : ByteArray)[k]'(by simpa [ByteArray.size] using hlt)).toNat) ∧ ((((⟨l.toArray⟩ : ByteArray)[k]'(by simpa [ByteArray.size] using hlt)).toNat : Int) - 48 = d) ∧ d < 10 := by
                rw [HBY.out]
                unfold Lib.digitVal at hd
                split at hd
                · rename_i hb
                  simp only [Option.some.injEq] at hd
                  omega
                · cases hd
              clear hd
              obtain ⟨hx0, hx1, hx2⟩ := hx
              have qw : IntKind.u8.wrap ((((⟨l.toArray⟩ : ByteArray)[k]'(by simpa [ByteArray.size] using hlt)).toNat : Int) - 48) = d := by rw [hx1]; exact wrap8 (by omega) (by omega)
              clear hx1 hx0
              go_wp2_with (go_at_call 72; refine call_same (l01Digit_c _ _) ?_; rw [qd])
              refine ⟨⟨k + 1, m * 10 + d, by omega, hlt, by simp, congrArg (Value.int .i64) (by omega), HS.out⟩, by simp only [intOf]; omega⟩
          · have hkl : k = l.length := by omega
            subst hkl
            have HF := Lib.hid (show numF l = some ((m : Int)) by rw [HG.out, HN.out.all]; rfl)
            have hm18 := Lib.decFrom_lt18 HN.out.all (by rw [List.length_drop]; exact HLL.out)
            go_wp2
            go_returns
            exact ⟨by rw [HF.out]; rfl, rfl⟩
      · skip
        clear q3
        go_enter Tryd.func60, Tryd.ntmps60
        go_wp2
        have HQ := Lib.hid q0
        have HQ1 := Lib.hid q1
        clear q0 q1
        clear e1 e2 d0
        go_loop [5, 6] (fun n j => ∃ k m : Nat, 0 ≤ k ∧ k ≤ l.length ∧ j = .int .i64 k ∧ n = .int .i64 m ∧ NumTo l 0 k m) (fun _ j => l.length - (intOf j).toNat)
        case atStart => exact ⟨0, 0, Nat.le_refl _, by omega, rfl, rfl, by unfold NumTo; simp [Lib.decFrom]⟩
        case round =>
          obtain ⟨k, m, hik, hk, rfl, rfl, hnt⟩ := hrel
          have HN := Lib.hid hnt
          clear hnt
          by_cases hlt : k < l.length
          · have HBY := Lib.hid (byte_at hlt)
            cases hd : Lib.digitVal l[k] with
            | none =>
              have HF := Lib.hid (show numF l = none by rw [HG.out, no_digit hik hlt hd]; rfl)
              have qd : (Lib.digitVal ((⟨l.toArray⟩ : ByteArray)[k]'(by simpa [ByteArray.size] using hlt))).isSome = false := by rw [HBY.out, hd]; rfl
              clear hd
              go_wp2_with (go_at_call 72; refine call_same (l01Digit_c _ _) ?_; rw [qd])
              go_returns
              exact ⟨by rw [HF.out]; rfl, rfl⟩
            | some d =>
              have hm := HN.out.lt hik hlt HLL.out
              have HS := Lib.hid (HN.out.step hik hlt hd)
              have qd : (Lib.digitVal ((⟨l.toArray⟩ : ByteArray)[k]'(by simpa [ByteArray.size] using hlt))).isSome = true := by rw [HBY.out, hd]; rfl
              have hx : 48 ≤ (((⟨l.toArray⟩ : ByteArray)[k]'(by simpa [ByteArray.size] using hlt)).toNat) ∧ ((((⟨l.toArray⟩ : ByteArray)[k]'(by simpa [ByteArray.size] using hlt)).toNat : Int) - 48 = d) ∧ d < 10 := by
                rw [HBY.out]
                unfold Lib.digitVal at hd
                split at hd
                · rename_i hb
                  simp only [Option.some.injEq] at hd
                  omega
                · cases hd
              clear hd
              obtain ⟨hx0, hx1, hx2⟩ := hx
              have qw : IntKind.u8.wrap ((((⟨l.toArray⟩ : ByteArray)[k]'(by simpa [ByteArray.size] using hlt)).toNat : Int) - 48) = d := by rw [hx1]; exact wrap8 (by omega) (by omega)
              clear hx1 hx0
              go_wp2_with (go_at_call 72; refine call_same (l01Digit_c _ _) ?_; rw [qd])
              refine ⟨⟨k + 1, m * 10 + d, by omega, hlt, by simp, congrArg (Value.int .i64) (by omega), HS.out⟩, by simp only [intOf]; omega⟩
          · have hkl : k = l.length := by omega
            subst hkl
            have HF := Lib.hid (show numF l = some ((m : Int)) by rw [HG.out, HN.out.all]; rfl)
            have hm18 := Lib.decFrom_lt18 HN.out.all (by rw [List.length_drop]; exact HLL.out)
            go_wp2
            go_returns
            exact ⟨by rw [HF.out]; rfl, rfl⟩
end Go.Proofs.YtpklckpnhjhnhaaDoor
