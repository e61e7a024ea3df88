/- All ways; the chance of some ways: the program's functions and the reference's. -/
import Derived.Test.YthkjnemlklndfaaWays
import Derived.Test.YthkjnemlklndfaaExperts
namespace Go.Proofs.Ythkjnemlklndfaa
open Go.RowKit Go.ChangeShapes Go.WideShapes

theorem allWays_c (n : Nat) (w : World) (hn : n ≤ 5) : Calls Try.prog 80 #[.int .i64 n] w fun e w' => e = .returned (.int .i64 (allF n)) ∧ w = w' := by
  go_enter Try.func80, Try.ntmps80
  go_wp2
  go_loop [3, 5] (fun s i => ∃ k : Nat, k ≤ n ∧ i = .int .i64 k ∧ s = .int .i64 (allF k)) (fun _ i => n - (intOf i).toNat)
  case atStart => exact ⟨0, Nat.zero_le _, rfl, rfl⟩
  case round =>
    obtain ⟨k, hk, rfl, rfl⟩ := hrel
    by_cases hlt : k < n
    · have h1 := allF_le (k + 1) (by omega)
      have h2 := allF_pos k
      have HE := Lib.hid (show allF (k + 1) = allF k * 1000 from rfl)
      rw [HE.out] at h1
      go_wp2
      go_round
      case rel => exact ⟨k + 1, by omega, by go_num, by rw [HE.out]⟩
      case measure => simp [intOf]; omega
    · obtain rfl : k = n := by omega
      go_wp2
      go_ret
      exact ⟨rfl, rfl⟩
theorem l15All_c (n : Nat) (w : World) (hn : n ≤ 5) : Calls Try.prog 78 #[.int .i64 n] w fun e w' => e = .returned (.int .i64 (allF n)) ∧ w = w' := by
  go_enter Try.func78, Try.ntmps78
  go_wp2
  go_loop [3, 4] (fun s i => ∃ k : Nat, k ≤ n ∧ i = .int .i64 k ∧ s = .int .i64 (allF k)) (fun _ i => n - (intOf i).toNat)
  case atStart => exact ⟨0, Nat.zero_le _, rfl, rfl⟩
  case round =>
    obtain ⟨k, hk, rfl, rfl⟩ := hrel
    by_cases hlt : k < n
    · have h1 := allF_le (k + 1) (by omega)
      have h2 := allF_pos k
      have HE := Lib.hid (show allF (k + 1) = allF k * 1000 from rfl)
      rw [HE.out] at h1
      go_wp2
      go_round
      case rel => exact ⟨k + 1, by omega, by go_num, by rw [HE.out]⟩
      case measure => simp [intOf]; omega
    · obtain rfl : k = n := by omega
      go_wp2
      go_ret
      exact ⟨rfl, rfl⟩

theorem chance_c (m : Int) (n : Nat) (w : World) (h0 : 0 ≤ m) (h1 : m ≤ 1000000000000000) (hn : 1 ≤ n ∧ n ≤ 5) : Calls Try.prog 75 #[.int .i64 m, .int .i64 n] w fun e w' => e = .returned (.int .i64 (partF m n)) ∧ w = w' := by
  by_cases h : n = 1
  · subst h
    go_enter Try.func75, Try.ntmps75
    go_wp2
    go_ret
    exact ⟨by simp [partF], rfl⟩
  · have HF := Lib.hid (show partF m n = m.tdiv (allF (n - 2)) by simp [partF, h])
    have hq : (allF n).tdiv 1000000 = allF (n - 2) ∧ 1 ≤ allF (n - 2) := by
      obtain rfl | rfl | rfl | rfl : n = 2 ∨ n = 3 ∨ n = 4 ∨ n = 5 := by omega
      all_goals exact ⟨by simp [allF], by simp [allF]⟩
    obtain ⟨hq, hp⟩ := hq
    have hb := allF_le n hn.2
    have hb1 := allF_pos n
    have hne : ((n : Int) == 1) = false := by simp; omega
    have hd0 : 0 ≤ m.tdiv (allF (n - 2)) := Int.tdiv_nonneg h0 (by omega)
    have hd1 : m.tdiv (allF (n - 2)) ≤ m := Int.tdiv_le_self _ h0
    have hz : ¬ allF (n - 2) = 0 := by omega
    have hb2 := allF_le (n - 2) (by omega)
    have hw1 := IntWalk.wrap64_in (allF (n - 2)) (by omega)
    have hw2 := IntWalk.wrap64_in (m.tdiv (allF (n - 2))) (by omega)
    go_enter Try.func75, Try.ntmps75
    go_wp2_with (go_at_call 80; refine call_same (allWays_c _ _ hn.2) ?_)
    go_ret
    exact ⟨by rw [HF.out]; rfl, rfl⟩

theorem tdiv_steps {m : Int} (h0 : 0 ≤ m) (k : Nat) : (m.tdiv (allF k)).tdiv 1000 = m.tdiv (allF (k + 1)) := by
  have := allF_pos k
  rw [tdiv_two h0 _ _ (by omega)]; rfl
theorem l15Part_c (m : Int) (n : Nat) (w : World) (h0 : 0 ≤ m) (h1 : m ≤ 1000000000000000) (hn : 1 ≤ n ∧ n ≤ 5) : Calls Try.prog 72 #[.int .i64 m, .int .i64 n] w fun e w' => e = .returned (.int .i64 (partF m n)) ∧ w = w' := by
  by_cases h : n = 1
  · subst h
    go_enter Try.func72, Try.ntmps72
    go_wp2
    go_loop [0, 1] (fun s i => s = .int .i64 m ∧ i = .int .i64 1) (fun _ i => (intOf i).toNat)
    case atStart => exact ⟨rfl, rfl⟩
    case round =>
      obtain ⟨rfl, rfl⟩ := hrel
      go_wp2
      go_loop [0, 1] (fun s i => (s = .int .i64 m ∧ i = .int .i64 1) ∨ (s = .int .i64 (m * 1000) ∧ i = .int .i64 2)) (fun _ i => 2 - (intOf i).toNat)
      case atStart => exact .inl ⟨rfl, rfl⟩
      case round =>
        rcases hrel with ⟨rfl, rfl⟩ | ⟨rfl, rfl⟩
        · go_wp2
          go_round
          case rel => exact .inr ⟨rfl, rfl⟩
          case measure => simp [intOf]
        · go_wp2
          go_ret
          exact ⟨by simp [partF], rfl⟩
  · have HF := Lib.hid (show partF m n = m.tdiv (allF (n - 2)) by simp [partF, h])
    go_enter Try.func72, Try.ntmps72
    go_wp2
    go_loop [0, 1] (fun s i => ∃ k : Nat, k ≤ n - 2 ∧ i = .int .i64 ((n - k : Nat) : Int) ∧ s = .int .i64 (m.tdiv (allF k))) (fun _ i => (intOf i).toNat)
    case atStart => exact ⟨0, Nat.zero_le _, rfl, by simp [allF]⟩
    case round =>
      obtain ⟨k, hk, rfl, rfl⟩ := hrel
      have hp := allF_pos k
      have hd0 : 0 ≤ m.tdiv (allF k) := Int.tdiv_nonneg h0 (by omega)
      have hd1 : m.tdiv (allF k) ≤ m := Int.tdiv_le_self _ h0
      by_cases hlt : k < n - 2
      · have HE := Lib.hid (tdiv_steps h0 k)
        have hnk : ((n - k : Nat) : Int) = n - k := by omega
        have hp1 := allF_pos (k + 1)
        have he0 : 0 ≤ m.tdiv (allF (k + 1)) := Int.tdiv_nonneg h0 (by omega)
        have he1 : m.tdiv (allF (k + 1)) ≤ m := Int.tdiv_le_self _ h0
        have hw := IntWalk.wrap64_in ((m.tdiv (allF k)).tdiv 1000) (by rw [HE.out]; omega)
        go_wp2
        go_round
        case rel => exact ⟨k + 1, by omega, by congr 1; omega, by rw [← HE.out, Int.tdiv_eq_ediv_of_nonneg hd0]⟩
        case measure => simp [intOf]; omega
      · obtain rfl : k = n - 2 := by omega
        have hnk : ((n - (n - 2) : Nat) : Int) = 2 := by omega
        rw [hnk]
        go_wp2
        go_loop [0, 1] (fun s i => s = .int .i64 (m.tdiv (allF (n - 2))) ∧ i = .int .i64 2) (fun _ i => (intOf i).toNat)
        case atStart => exact ⟨rfl, rfl⟩
        case round =>
          obtain ⟨rfl, rfl⟩ := hrel
          go_wp2
          go_ret
          exact ⟨by rw [HF.out]; rfl, rfl⟩
end Go.Proofs.Ythkjnemlklndfaa
