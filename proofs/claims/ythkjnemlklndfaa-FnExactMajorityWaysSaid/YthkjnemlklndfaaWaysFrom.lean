/- The ways in which at least so many experts are right. -/
import Derived.Test.YthkjnemlklndfaaWaysOf
namespace Go.Proofs.Ythkjnemlklndfaa
open Go.RowKit Go.ChangeShapes Go.WideShapes

/-- The ways from l experts on. -/
def fromF (zs : List Int) (l : Nat) : Int := waySum zs zs.length (zs.length + 1) - waySum zs zs.length l
theorem fromF_bd {zs : List Int} (h : Sure zs) {l : Nat} (hl : l ≤ zs.length + 1) : 0 ≤ fromF zs l ∧ fromF zs l ≤ allF zs.length := by
  have h1 := waySum_bd h (Nat.le_refl _) hl
  have h2 := waySum_mono h (Nat.le_refl _) hl
  have h3 := waySum_all zs zs.length
  unfold fromF
  omega

theorem waysFrom_c (a : Option Addr) (cap : Nat) (zs : List Int) (l : Nat) (w : World) (h : Nums .i64 w a zs) (hn : zs.length ≤ 5) (hs : Sure zs) (hl : l ≤ zs.length) :
    Calls Try.prog 81 #[.slice a zs.length cap, .int .i64 l] w fun e w' => e = .returned (.int .i64 (fromF zs l)) ∧ Below w.heap.size w w' := by
  have HS := Lib.hid (fun m (hm : m ≤ zs.length + 1) => waySum_bd hs (Nat.le_refl zs.length) hm)
  have HM := Lib.hid (fun m n (hm : m ≤ n) => waySum_mono hs (Nat.le_refl zs.length) (m := m) (n := n) hm)
  have hal := allF_le zs.length hn
  have HN := Lib.hid (fun k (hk : k ≤ zs.length) => waysL_nth (zs := zs) hk)
  have HLN := Lib.hid (waysL_len zs zs.length)
  go_enter Try.func81, Try.ntmps81
  go_wp2_with fail
  refine (rightWays_c _ _ zs _ h hn hs).mono ?_
  rintro e w2 ⟨b, rfl, hnu, hb2⟩
  have HNU := Lib.hid hnu
  clear hnu h
  go_wp2
  obtain ⟨t, ht⟩ : ∃ t, t = zs.length + 1 - l := ⟨_, rfl⟩
  rw [← ht]
  have HT := Lib.hid ht
  have htl : l + t = zs.length + 1 := by omega
  clear ht
  go_loop [5, 13] (fun s i => ∃ c : Nat, c ≤ t ∧ i = .int .i64 c ∧ s = .int .i64 (waySum zs zs.length (l + c) - waySum zs zs.length l)) (fun _ i => t - (intOf i).toNat)
  case atStart => exact ⟨0, Nat.zero_le _, rfl, by rw [Nat.add_zero, Int.sub_self]⟩
  case round =>
    obtain ⟨c, hc, rfl, rfl⟩ := hrel
    have h1 := HS.out (l + c) (by omega)
    have h2 := HS.out l (by omega)
    have h3 := HM.out l (l + c) (by omega)
    by_cases hct : c < t
    · obtain ⟨_, _, e2, _, hc2⟩ := HNU.out.pos (j := l + c) (by rw [HLN.out]; omega)
      obtain ⟨rfl, rfl⟩ : b = _ ∧ 0 = _ := by simpa using e2
      rw [Nat.zero_add, HN.out (l + c) (by omega)] at hc2
      have h4 := HS.out (l + c + 1) (by omega)
      have HE := Lib.hid (show waySum zs zs.length (l + (c + 1)) = waySum zs zs.length (l + c) + wayF zs zs.length (l + c) from rfl)
      have h5 : waySum zs zs.length (l + c + 1) = waySum zs zs.length (l + c) + wayF zs zs.length (l + c) := rfl
      have h6 := HM.out l (l + c + 1) (by omega)
      rw [h5] at h4 h6
      clear h5 e2
      go_wp2
      go_round
      case rel => exact ⟨c + 1, by omega, by go_num, by rw [HE.out]; congr 1; omega⟩
      case measure => simp [intOf]; omega
    · obtain rfl : c = t := by omega
      have HF := Lib.hid (show fromF zs l = waySum zs zs.length (zs.length + 1) - waySum zs zs.length l from rfl)
      go_wp2
      go_ret
      exact ⟨by rw [HF.out]; rfl, hb2⟩
end Go.Proofs.Ythkjnemlklndfaa
