/- Numerals: what a text of digits spells, and that the canonical ones are those that are written. Plain: no program in sight. -/
import Derived.Lib.ParseIntBTie
import Derived.Lib.ParseIntBCases
import Derived.Lib.AtoiTie
import Derived.Lib.AtoiAllCases
import Derived.Lib.AtoiErr
import Derived.Lib.ItoaNum
import Derived.Lib.ItoaMem
import Derived.Test.YtpklckpnhjhnhaaDoorBase
namespace Go.Proofs.YtpklckpnhjhnhaaDoor
set_option linter.unusedVariables false

theorem decFrom_snoc : ∀ (l : List UInt8) (acc : Nat) (b : UInt8), Lib.decFrom acc (l ++ [b]) = (Lib.decFrom acc l).bind fun m => (Lib.digitVal b).map fun d => m * 10 + d
  | [], acc, b => by
    simp only [List.nil_append, Lib.decFrom, Option.bind_some]
    cases Lib.digitVal b <;> rfl
  | c :: r, acc, b => by
    simp only [List.cons_append, Lib.decFrom]
    cases Lib.digitVal c with
    | none => rfl
    | some d => exact decFrom_snoc r _ b
theorem digitVal_some {b : UInt8} {d : Nat} (h : Lib.digitVal b = some d) : d < 10 ∧ b = UInt8.ofNat (48 + d) := by
  unfold Lib.digitVal at h
  split at h
  · rename_i hb
    simp only [Option.some.injEq] at h
    subst h
    refine ⟨by omega, ?_⟩
    rw [show 48 + (b.toNat - 48) = b.toNat by omega, UInt8.ofNat_toNat]
  · cases h
/-- A row of digits that has a zero too many in front. -/
def Padded (r : List UInt8) : Prop := r.head? = some 48 ∧ 1 < r.length
instance (r : List UInt8) : Decidable (Padded r) := by unfold Padded; infer_instance
theorem decDigits_ne (u : Nat) : Lib.decDigits u ≠ [] := by
  rw [Lib.decDigits]
  split
  · simp
  · simp
theorem decDigits_one_len {u : Nat} (h : u < 10) : (Lib.decDigits u).length = 1 := by rw [Lib.decDigits, dif_pos h]; rfl
/-- The digits of a number that a row spells are the row, where nothing stands in front in vain. -/
theorem canon : ∀ (n : Nat) (r : List UInt8) (u : Nat), r.length = n → r ≠ [] → Lib.decFrom 0 r = some u → (Lib.decDigits u = r ↔ ¬ Padded r) := by
  intro n
  induction n with
  | zero => intro r u hn h0; exact absurd (List.length_eq_zero_iff.1 hn) h0
  | succ n ih =>
    intro r u hn h0 hu
    obtain ⟨l, b, rfl⟩ : ∃ l b, r = l ++ [b] := ⟨r.dropLast, r.getLast h0, (List.dropLast_concat_getLast h0).symm⟩
    rw [decFrom_snoc] at hu
    cases hm : Lib.decFrom 0 l with
    | none => rw [hm] at hu; cases hu
    | some m =>
      rw [hm, Option.bind_some] at hu
      cases hd : Lib.digitVal b with
      | none => rw [hd] at hu; cases hu
      | some d =>
        rw [hd, Option.map_some, Option.some.injEq] at hu
        obtain ⟨hd10, hb⟩ := digitVal_some hd
        subst hu
        by_cases hl : l = []
        · subst hl
          simp only [Lib.decFrom, Option.some.injEq] at hm
          subst hm
          rw [Lib.decDigits, dif_pos (by omega), hb]
          simp [Padded]
        · have hln : l.length = n := by simpa using hn
          have hi := ih l m hln hl hm
          have hpos : 0 < l.length := List.length_pos_iff.2 hl
          have hhead : (l ++ [b]).head? = l.head? := by cases l with
            | nil => exact absurd rfl hl
            | cons c q => rfl
          have hP : Padded (l ++ [b]) ↔ l.head? = some 48 := by
            unfold Padded
            rw [hhead]
            simp only [List.length_append, List.length_cons, List.length_nil]
            exact ⟨fun h => h.1, fun h => ⟨h, by omega⟩⟩
          rw [hP]
          by_cases h48 : l.head? = some 48
          · refine ⟨fun e => ?_, fun e => absurd h48 e⟩
            exfalso
            by_cases hu10 : m * 10 + d < 10
            · have := congrArg List.length e
              rw [decDigits_one_len hu10] at this
              simp only [List.length_append, List.length_cons, List.length_nil] at this
              omega
            · rw [Lib.decDigits, dif_neg hu10, show (m * 10 + d) / 10 = m by omega] at e
              have e1 := (List.append_inj' e rfl).1
              have hnp := hi.1 e1
              have hl1 : l.length = 1 := by
                unfold Padded at hnp
                by_cases hq : 1 < l.length
                · exact absurd ⟨h48, hq⟩ hnp
                · omega
              match l, hl1, h48 with
              | [c], _, h48 =>
                simp only [List.head?_cons, Option.some.injEq] at h48
                subst h48
                simp [Lib.decFrom, Lib.digitVal] at hm
                omega
          · refine ⟨fun _ => h48, fun _ => ?_⟩
            have hnp : ¬ Padded l := fun hp => h48 hp.1
            have e1 := hi.2 hnp
            have hm1 : m ≠ 0 := by
              intro h0'
              subst h0'
              rw [Lib.decDigits, dif_pos (by omega)] at e1
              rw [← e1] at h48
              exact h48 rfl
            rw [Lib.decDigits, dif_neg (by omega), show (m * 10 + d) / 10 = m by omega, show (m * 10 + d) % 10 = d by omega, e1, hb]

/-- What is behind the sign. -/
def magOf (l : List UInt8) : List UInt8 := if l.head? = some 45 then l.tail else l
/-- The number that a text spells, where it is one that is written so. -/
def numF (l : List UInt8) : Option Int :=
  if magOf l = [] ∨ 18 < (magOf l).length ∨ ((magOf l).head? = some 48 ∧ 1 < l.length) then none
  else (Lib.decFrom 0 (magOf l)).map fun u => if l.head? = some 45 then -(u : Int) else (u : Int)
theorem parseMag_short {l : List UInt8} (h : l ≠ []) (hl : l.length ≤ 18) : Lib.parseMag l = Lib.NumEnd.ofOption (Lib.decFrom 0 l) := by
  unfold Lib.parseMag
  rw [if_neg h]
  exact Lib.parseUint10_short l 0 0 (by simp) (by omega)
theorem itoa_head_ne (u : Nat) : (Lib.decDigits u).head? ≠ some 43 ∧ (Lib.decDigits u).head? ≠ some 45 := by
  induction u using Nat.strongRecOn with
  | _ u ih =>
    have key : ∀ d, d < 10 → UInt8.ofNat (48 + d) ≠ 43 ∧ UInt8.ofNat (48 + d) ≠ 45 := by decide
    rw [Lib.decDigits]
    split
    · rename_i h
      obtain ⟨k1, k2⟩ := key u h
      exact ⟨fun e => k1 (Option.some.inj e), fun e => k2 (Option.some.inj e)⟩
    · rename_i h
      have := ih (u / 10) (by omega)
      cases hc : Lib.decDigits (u / 10) with
      | nil => exact absurd hc (decDigits_ne _)
      | cons c q => rw [hc] at this; simpa using this
/-- THE TWO WAYS AGREE: a text of at most eighteen digits is read and written back as itself just where it spells a number in the written form. -/
theorem parse_iff (l : List UInt8) (hl : (magOf l).length ≤ 18) (v : Int) : (Lib.parseIntB 64 l = .ok v ∧ Lib.itoa v = l) ↔ numF l = some v := by
  rw [Lib.parseIntB_64]
  cases l with
  | nil =>
    have h1 : numF [] = none := rfl
    rw [h1]
    constructor
    · intro h; cases h.1
    · intro h; cases h
  | cons c r =>
    by_cases h45 : c = 45
    · subst h45
      have hm : magOf (45 :: r) = r := rfl
      rw [hm] at hl
      rw [Lib.atoiAll_minus]
      unfold numF
      rw [hm]
      by_cases hr : r = []
      · subst hr
        simp [Lib.parseMag, Lib.signed]
      · have hrl : 0 < r.length := List.length_pos_iff.2 hr
        rw [parseMag_short hr hl]
        cases hd : Lib.decFrom 0 r with
        | none =>
          simp only [Lib.NumEnd.ofOption, Lib.signed]
          constructor
          · intro h; cases h.1
          · intro h; split at h <;> cases h
        | some u =>
          have hc := canon _ r u rfl hr hd
          have hu := Lib.decFrom_lt18 hd hl
          simp only [Lib.NumEnd.ofOption, Lib.signed]
          rw [if_neg (by omega)]
          simp only [List.head?_cons, if_true, List.length_cons]
          by_cases h48 : r.head? = some 48
          · rw [if_pos (.inr (.inr ⟨h48, by omega⟩))]
            constructor
            · rintro ⟨h1, h2⟩
              exfalso
              cases h1
              by_cases hu0 : u = 0
              · subst hu0
                rw [Lib.itoa, if_neg (by omega)] at h2
                rw [show (-(((0 : Nat) : Int))).toNat = 0 from rfl] at h2
                have := (itoa_head_ne 0).2
                rw [h2] at this
                exact this rfl
              · rw [Lib.itoa_neg u (by omega)] at h2
                have e := (List.cons.inj h2).2
                have hp := hc.1 e
                have hr1 : r.length = 1 := by
                  unfold Padded at hp
                  by_cases hq : 1 < r.length
                  · exact absurd ⟨h48, hq⟩ hp
                  · omega
                match r, hr1, h48, hd with
                | [x], _, h48, hd =>
                  simp only [List.head?_cons, Option.some.injEq] at h48
                  subst h48
                  simp [Lib.decFrom, Lib.digitVal] at hd
                  omega
            · intro h; cases h
          · rw [if_neg (by intro h; rcases h with h | h | h; exact hr h; omega; exact h48 h.1)]
            have hp : ¬ Padded r := fun h => h48 h.1
            have e := hc.2 hp
            have hu0 : u ≠ 0 := by
              rintro rfl
              rw [Lib.decDigits, dif_pos (by omega)] at e
              rw [← e] at h48
              exact h48 rfl
            constructor
            · rintro ⟨h1, h2⟩
              cases h1
              rfl
            · intro h
              cases h
              exact ⟨rfl, by rw [Lib.itoa_neg u (by omega), e]⟩
    · have hm : magOf (c :: r) = c :: r := by unfold magOf; rw [if_neg (by simpa using h45)]
      have h45n : c.toNat ≠ 45 := fun h => h45 (UInt8.toNat_inj.1 h)
      rw [hm] at hl
      unfold numF
      rw [hm]
      have hs : ¬ (c :: r).head? = some 45 := by simpa using h45
      simp only [hs, if_false]
      by_cases h43 : c = 43
      · subst h43
        have hd : Lib.decFrom 0 (43 :: r) = none := rfl
        rw [hd]
        constructor
        · rintro ⟨h1, h2⟩
          exfalso
          rw [Lib.itoa] at h2
          split at h2
          · have := (List.cons.inj h2).1; revert this; decide
          · have := (itoa_head_ne v.toNat).1
            rw [h2] at this
            exact this rfl
        · intro h; split at h <;> cases h
      · have h43n : c.toNat ≠ 43 := fun h => h43 (UInt8.toNat_inj.1 h)
        rw [Lib.atoiAll_plain c r h43n h45n, parseMag_short (by simp) hl]
        cases hd : Lib.decFrom 0 (c :: r) with
        | none =>
          simp only [Lib.NumEnd.ofOption, Lib.signless]
          constructor
          · intro h; cases h.1
          · intro h; split at h <;> cases h
        | some u =>
          have hc := canon _ (c :: r) u rfl (by simp) hd
          have hu := Lib.decFrom_lt18 hd hl
          simp only [Lib.NumEnd.ofOption, Lib.signless]
          rw [if_neg (by omega)]
          by_cases hp : Padded (c :: r)
          · rw [if_pos (.inr (.inr hp))]
            constructor
            · rintro ⟨h1, h2⟩
              exfalso
              cases h1
              rw [Lib.itoa_nonneg] at h2
              exact hc.1 h2 hp
            · intro h; cases h
          · rw [if_neg (by intro h; rcases h with h | h | h; cases h; omega; exact hp h)]
            have e := hc.2 hp
            constructor
            · rintro ⟨h1, h2⟩
              cases h1
              rfl
            · intro h
              cases h
              exact ⟨rfl, by rw [Lib.itoa_nonneg, e]⟩
theorem numF_long {l : List UInt8} (h : 18 < (magOf l).length) : numF l = none := by unfold numF; rw [if_pos (.inr (.inl h))]
end Go.Proofs.YtpklckpnhjhnhaaDoor
