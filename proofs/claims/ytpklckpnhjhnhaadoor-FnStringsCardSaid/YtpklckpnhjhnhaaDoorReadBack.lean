/- Plain: a list of numbers that is written out is read back as itself. No program in sight. -/
import Derived.Test.YtpklckpnhjhnhaaDoorReadList
import Derived.Test.YtpklckpnhjhnhaaDoorQuadText
namespace Go.Proofs.YtpklckpnhjhnhaaDoor
set_option linter.unusedVariables false

theorem digitVal_of {d : Nat} (h : d < 10) : Lib.digitVal (UInt8.ofNat (48 + d)) = some d := by
  have key : ∀ d, d < 10 → Lib.digitVal (UInt8.ofNat (48 + d)) = some d := by decide
  exact key d h
theorem dec_digits (u : Nat) : Lib.decFrom 0 (Lib.decDigits u) = some u := by
  induction u using Nat.strongRecOn with
  | _ u ih =>
    rw [Lib.decDigits]
    split
    · rename_i h
      rw [Lib.decFrom, digitVal_of h]
      simp [Lib.decFrom]
    · rename_i h
      rw [decFrom_snoc, ih (u / 10) (by omega), Option.bind_some, digitVal_of (by omega), Option.map_some]
      congr 1
      omega
theorem digits_no44 (u : Nat) : ∀ b ∈ Lib.decDigits u, b ≠ 44 := by
  have key : ∀ d, d < 10 → UInt8.ofNat (48 + d) ≠ 44 := by decide
  induction u using Nat.strongRecOn with
  | _ u ih =>
    rw [Lib.decDigits]
    split
    · rename_i h
      intro b hb
      rw [List.mem_singleton] at hb
      subst hb
      exact key u h
    · rename_i h
      intro b hb
      rcases List.mem_append.1 hb with h1 | h1
      · exact ih (u / 10) (by omega) b h1
      · rw [List.mem_singleton] at h1
        subst h1
        exact key _ (by omega)
theorem numF_itoa {n : Int} (h0 : 0 ≤ n) (h1 : n ≤ 1000000000000) : numF (Lib.itoa n) = some n := by
  obtain ⟨u, rfl⟩ : ∃ u : Nat, n = u := ⟨n.toNat, by omega⟩
  have hlen := itoa_len (n := u) (by omega)
  rw [Lib.itoa_nonneg] at hlen ⊢
  have h45 := (itoa_head_ne u).2
  have hm : magOf (Lib.decDigits u) = Lib.decDigits u := by unfold magOf; rw [if_neg h45]
  have hp := (canon _ (Lib.decDigits u) u rfl (decDigits_ne u) (dec_digits u)).1 rfl
  unfold numF
  rw [hm, if_neg (by
    intro h
    rcases h with h | h | h
    · exact decDigits_ne u h
    · omega
    · exact hp h), dec_digits]
  show some (if (Lib.decDigits u).head? = some 45 then -(u : Int) else (u : Int)) = some (u : Int)
  rw [if_neg h45]
theorem split_join {c : UInt8} : ∀ (ts : List (List UInt8)) (x : List UInt8), (∀ t ∈ x :: ts, ∀ b ∈ t, b ≠ c) → splitL c (Lib.join (x :: ts) [c]) = x :: ts
  | [], x, h => by rw [Lib.join_one]; exact split_end (h x (by simp))
  | y :: ts, x, h => by
    have e : Lib.join (x :: y :: ts) [c] = x ++ c :: Lib.join (y :: ts) [c] := by
      rw [Lib.join_cons, Lib.join_cons]
      simp [Lib.joinTail]
    rw [e, split_hit (h x (by simp)), split_join ts y (fun t ht => h t (by simp at ht ⊢; exact .inr ht))]
/-- A row of one to sixty-four numbers within bounds is read back. -/
theorem read_list {xs : List Int} (h0 : 0 < xs.length) (h1 : xs.length ≤ 64) (hx : NumOk xs) : readF (listT xs) = some xs := by
  have hn : ∀ n ∈ xs, 0 ≤ n ∧ n ≤ 1000000000000 := by
    intro n hn
    obtain ⟨j, hj, rfl⟩ := List.getElem_of_mem hn
    have := hx j hj
    simpa [nth, hj] using this
  have hl : listT xs = Lib.join (numTs xs) [44] := by
    unfold listT
    rw [if_neg (by omega), ← numTs_len xs, jt_all]
  have hs : splitL 44 (listT xs) = numTs xs := by
    rw [hl]
    cases xs with
    | nil => simp at h0
    | cons a r =>
      refine split_join _ _ ?_
      intro t ht b hb
      have ht' : t ∈ numTs (a :: r) := ht
      unfold numTs at ht'
      obtain ⟨n, hm, rfl⟩ := List.mem_map.1 ht'
      obtain ⟨u, rfl⟩ : ∃ u : Nat, n = u := ⟨n.toNat, by have := hn n hm; omega⟩
      rw [Lib.itoa_nonneg] at hb
      exact digits_no44 u b hb
  have hv : ∀ t ∈ numTs xs, okT t = true := by
    intro t ht
    unfold numTs at ht
    obtain ⟨n, hm, rfl⟩ := List.mem_map.1 ht
    have := hn n hm
    unfold okT
    rw [numF_itoa this.1 this.2]
    exact decide_eq_true (p := -1000000000000 ≤ n ∧ n ≤ 1000000000000) ⟨by omega, by omega⟩
  have hd : listT xs ≠ [45] := by
    intro e
    rw [e] at hs
    have h45 : splitL 44 [45] = [[45]] := by decide
    rw [h45] at hs
    have : okT [45] = true := hv _ (by rw [← hs]; simp)
    revert this
    decide
  unfold readF
  rw [if_neg hd, if_neg (by rw [hs, numTs_len]; omega), hs, if_pos (List.all_eq_true.2 hv)]
  congr 1
  unfold numTs
  rw [List.map_map]
  conv => rhs; rw [← List.map_id xs]
  refine List.map_congr_left fun n hm => ?_
  have := hn n hm
  simp [valT, numF_itoa this.1 this.2, numV]
end Go.Proofs.YtpklckpnhjhnhaaDoor
