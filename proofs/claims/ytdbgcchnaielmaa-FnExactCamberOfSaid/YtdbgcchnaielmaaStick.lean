/- Heights of a stick: both sides' test of validity. -/
import Derived.Test.YtdbgcchnaielmaaHeights
namespace Go.Proofs.Ytdbgcchnaielmaa
open Go.RowKit

/-- Valid heights. -/
def heightsB (zs : List Int) : Bool := zs.all (inB · (-8000) 8000) && inB zs.length 3 64
theorem heightsB_true {zs : List Int} (h : heightsB zs = true) : (∀ k, k < zs.length → -8000 ≤ nth zs k ∧ nth zs k ≤ 8000) ∧ 3 ≤ zs.length ∧ zs.length ≤ 64 := by
  simp only [heightsB, Bool.and_eq_true] at h
  have := inB_true h.2
  exact ⟨fun k hk => inB_true (all_nth h.1 hk), by omega, by omega⟩

theorem areHeights_c (a : Option Addr) (cap : Nat) (zs : List Int) (w : World) (h : Nums .i64 w a zs) (hn : zs.length ≤ 1048576) :
    Calls Try.prog 59 #[.slice a zs.length cap] w fun e w' => e = .returned (.bool (heightsB zs)) ∧ w = w' := by
  go_enter Try.func59, Try.ntmps59
  go_wp2
  go_loop [7] (fun i => ∃ k : Nat, k ≤ zs.length ∧ i = .int .i64 k ∧ AllTo (inB · (-8000) 8000) zs k) (fun i => zs.length - (intOf i).toNat)
  case atStart => exact ⟨0, Nat.zero_le _, rfl, AllTo.zero _ _⟩
  case round =>
    obtain ⟨k, hk, rfl, hall⟩ := hrel
    by_cases hlt : k < zs.length
    · obtain ⟨b, o, rfl, hb, hc⟩ := h.pos hlt
      clear h
      cases hv : (inB · (-8000) 8000) (nth zs k)
      · have hv' : inB (nth zs k) (-8000) 8000 = false := hv
        go_wp2_with (go_at_call 51; refine call_same (within_c _ _ _ _) ?_)
        go_ret
        exact ⟨by rw [heightsB, all_not (p := (inB · (-8000) 8000)) hlt hv]; rfl, rfl⟩
      · have hv' : inB (nth zs k) (-8000) 8000 = true := hv
        go_wp2_with (go_at_call 51; refine call_same (within_c _ _ _ _) ?_)
        go_round
        case rel => exact ⟨k + 1, by omega, by go_num, hall.step hv⟩
        case measure => simp [intOf]; omega
    · obtain rfl : k = zs.length := by omega
      have ha := hall.all
      go_wp2_with (go_at_call 51; refine call_same (within_c _ _ _ _) ?_)
      go_ret
      exact ⟨by rw [heightsB, ha]; rfl, rfl⟩

theorem l11Heights_c (a : Option Addr) (cap : Nat) (zs : List Int) (w : World) (h : Nums .i64 w a zs) (hn : zs.length ≤ 1048576) :
    Calls Try.prog 57 #[.slice a zs.length cap] w fun e w' => e = .returned (.bool (heightsB zs)) ∧ w = w' := by
  go_enter Try.func57, Try.ntmps57
  go_wp2
  go_loop [3] (fun i => ∃ k : Nat, k ≤ zs.length ∧ i = .int .i64 k ∧ AllTo (inB · (-8000) 8000) zs k) (fun i => zs.length - (intOf i).toNat)
  case atStart => exact ⟨0, Nat.zero_le _, rfl, AllTo.zero _ _⟩
  case round =>
    obtain ⟨k, hk, rfl, hall⟩ := hrel
    by_cases hlt : k < zs.length
    · obtain ⟨b, o, rfl, hb, hc⟩ := h.pos hlt
      clear h
      cases hv : (inB · (-8000) 8000) (nth zs k)
      · have hv' : inB (nth zs k) (-8000) 8000 = false := hv
        go_wp2_with (go_at_call 48; refine call_same (l00In_c _ _ _ _) ?_)
        go_ret
        exact ⟨by rw [heightsB, all_not (p := (inB · (-8000) 8000)) hlt hv]; rfl, rfl⟩
      · have hv' : inB (nth zs k) (-8000) 8000 = true := hv
        go_wp2_with (go_at_call 48; refine call_same (l00In_c _ _ _ _) ?_)
        go_round
        case rel => exact ⟨k + 1, by omega, by go_num, hall.step hv⟩
        case measure => simp [intOf]; omega
    · obtain rfl : k = zs.length := by omega
      have ha := hall.all
      by_cases h3 : 3 ≤ zs.length
      · by_cases h64 : zs.length ≤ 64
        all_goals
          go_wp2
          go_ret
          exact ⟨by rw [heightsB, ha]; simp [inB]; omega, rfl⟩
      · go_wp2
        go_ret
        exact ⟨by rw [heightsB, ha]; simp [inB]; omega, rfl⟩

end Go.Proofs.Ytdbgcchnaielmaa
