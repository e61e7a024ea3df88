/- Experts: both sides' test of validity. -/
import Derived.Test.YthkjnemlklndfaaInts
namespace Go.Proofs.Ythkjnemlklndfaa
open Go.RowKit

/-- Valid experts. -/
def expertsB (zs : List Int) : Bool := zs.all (inB · 0 1000) && inB zs.length 1 5

theorem isSure_c (n : Int) (w : World) : Calls Try.prog 111 #[.int .i64 n] w fun e w' => e = .returned (.bool (inB n 0 1000)) ∧ w = w' := by
  go_enter Try.func111, Try.ntmps111
  go_wp2_with (go_at_call 69; refine call_same (within_c _ _ _ _) ?_)
  go_ret
  exact ⟨rfl, rfl⟩
theorem l15Share_c (n : Int) (w : World) : Calls Try.prog 110 #[.int .i64 n] w fun e w' => e = .returned (.bool (inB n 0 1000)) ∧ w = w' := by
  go_enter Try.func110, Try.ntmps110
  go_wp2_with (go_at_call 66; refine call_same (l00In_c _ _ _ _) ?_)
  go_ret
  exact ⟨rfl, rfl⟩

theorem validExperts_c (a : Option Addr) (cap : Nat) (zs : List Int) (w : World) (h : Nums .i64 w a zs) (hn : zs.length ≤ 1048576) :
    Calls Try.prog 74 #[.slice a zs.length cap] w fun e w' => e = .returned (.bool (expertsB zs)) ∧ w = w' := by
  go_enter Try.func74, Try.ntmps74
  go_wp2
  go_loop [7] (fun i => ∃ k : Nat, k ≤ zs.length ∧ i = .int .i64 k ∧ AllTo (inB · 0 1000) zs k) (fun i => zs.length - (intOf i).toNat)
  case atStart => exact ⟨0, Nat.zero_le _, rfl, AllTo.zero _ _⟩
  case round =>
    obtain ⟨k, hk, rfl, hall⟩ := hrel
    by_cases hlt : k < zs.length
    · obtain ⟨b, o, rfl, hb, hc⟩ := h.pos hlt
      clear h
      cases hv : inB (nth zs k) 0 1000
      · go_wp2_with (go_at_call 111; refine call_same (isSure_c _ _) ?_)
        go_ret
        exact ⟨by rw [expertsB, all_not (p := (inB · 0 1000)) hlt hv]; rfl, rfl⟩
      · go_wp2_with (go_at_call 111; refine call_same (isSure_c _ _) ?_)
        go_round
        case rel => exact ⟨k + 1, by omega, by go_num, hall.step hv⟩
        case measure => simp [intOf]; omega
    · obtain rfl : k = zs.length := by omega
      go_wp2_with (go_at_call 69; refine call_same (within_c _ _ _ _) ?_)
      go_ret
      exact ⟨by rw [expertsB, hall.all]; rfl, rfl⟩

theorem l15Ok_c (a : Option Addr) (cap : Nat) (zs : List Int) (w : World) (h : Nums .i64 w a zs) (hn : zs.length ≤ 1048576) :
    Calls Try.prog 71 #[.slice a zs.length cap] w fun e w' => e = .returned (.bool (expertsB zs)) ∧ w = w' := by
  go_enter Try.func71, Try.ntmps71
  go_wp2
  go_loop [3] (fun i => ∃ k : Nat, k ≤ zs.length ∧ i = .int .i64 k ∧ AllTo (inB · 0 1000) zs k) (fun i => zs.length - (intOf i).toNat)
  case atStart => exact ⟨0, Nat.zero_le _, rfl, AllTo.zero _ _⟩
  case round =>
    obtain ⟨k, hk, rfl, hall⟩ := hrel
    by_cases hlt : k < zs.length
    · obtain ⟨b, o, rfl, hb, hc⟩ := h.pos hlt
      clear h
      cases hv : inB (nth zs k) 0 1000
      · go_wp2_with (go_at_call 110; refine call_same (l15Share_c _ _) ?_)
        go_ret
        exact ⟨by rw [expertsB, all_not (p := (inB · 0 1000)) hlt hv]; rfl, rfl⟩
      · go_wp2_with (go_at_call 110; refine call_same (l15Share_c _ _) ?_)
        go_round
        case rel => exact ⟨k + 1, by omega, by go_num, hall.step hv⟩
        case measure => simp [intOf]; omega
    · obtain rfl : k = zs.length := by omega
      have ha := hall.all
      by_cases h0 : 0 < zs.length
      · by_cases h5 : zs.length ≤ 5
        · go_wp2
          go_ret
          exact ⟨by rw [expertsB, ha]; simp [inB]; omega, rfl⟩
        · go_wp2
          go_ret
          exact ⟨by rw [expertsB, ha]; simp [inB]; omega, rfl⟩
      · go_wp2
        go_ret
        exact ⟨by rw [expertsB, ha]; simp [inB]; omega, rfl⟩
end Go.Proofs.Ythkjnemlklndfaa
