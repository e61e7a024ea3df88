/- Colours: both sides' test of validity, and the gap. -/
import Derived.Test.YtdbgcchnaielmaaHeights
namespace Go.Proofs.Ytdbgcchnaielmaa
open Go.RowKit

/-- A colour. -/
def colourB (zs : List Int) : Bool := zs.all (inB · 0 255) && decide (zs.length = 3)
theorem colourB_true {zs : List Int} (h : colourB zs = true) : (∀ k, k < zs.length → 0 ≤ nth zs k ∧ nth zs k ≤ 255) ∧ zs.length = 3 := by
  simp only [colourB, Bool.and_eq_true] at h
  exact ⟨fun k hk => inB_true (all_nth h.1 hk), of_decide_eq_true h.2⟩

theorem isColour_c (a : Option Addr) (cap : Nat) (zs : List Int) (w : World) (h : Nums .i64 w a zs) (hn : zs.length ≤ 1048576) :
    Calls Try.prog 63 #[.slice a zs.length cap] w fun e w' => e = .returned (.bool (colourB zs)) ∧ w = w' := by
  go_enter Try.func63, Try.ntmps63
  go_wp2
  go_loop [7] (fun i => ∃ k : Nat, k ≤ zs.length ∧ i = .int .i64 k ∧ AllTo (inB · 0 255) zs k) (fun i => zs.length - (intOf i).toNat)
  case atStart => exact ⟨0, Nat.zero_le _, rfl, AllTo.zero _ _⟩
  case round =>
    obtain ⟨k, hk, rfl, hall⟩ := hrel
    by_cases hlt : k < zs.length
    · obtain ⟨b, o, rfl, hb, hc⟩ := h.pos hlt
      clear h
      cases hv : (inB · 0 255) (nth zs k)
      · have hv' : inB (nth zs k) 0 255 = false := hv
        go_wp2_with (go_at_call 51; refine call_same (within_c _ _ _ _) ?_)
        go_ret
        exact ⟨by rw [colourB, all_not (p := (inB · 0 255)) hlt hv]; rfl, rfl⟩
      · have hv' : inB (nth zs k) 0 255 = true := hv
        go_wp2_with (go_at_call 51; refine call_same (within_c _ _ _ _) ?_)
        go_round
        case rel => exact ⟨k + 1, by omega, by go_num, hall.step hv⟩
        case measure => simp [intOf]; omega
    · obtain rfl : k = zs.length := by omega
      have ha := hall.all
      by_cases h3 : zs.length = 3
      · have h3a : ((zs.length : Int) == 3) = true := by simp; omega
        have HF := Lib.hid (show colourB zs = true by rw [colourB, ha]; simpa using h3)
        clear h3
        go_wp2
        go_ret
        exact ⟨by rw [HF.out]; rfl, rfl⟩
      · have h3a : ((zs.length : Int) == 3) = false := by simp; omega
        have HF := Lib.hid (show colourB zs = false by rw [colourB, ha]; simpa using h3)
        clear h3
        go_wp2
        go_ret
        exact ⟨by rw [HF.out]; rfl, rfl⟩

theorem l13Colour_c (a : Option Addr) (cap : Nat) (zs : List Int) (w : World) (h : Nums .i64 w a zs) (hn : zs.length ≤ 1048576) :
    Calls Try.prog 61 #[.slice a zs.length cap] w fun e w' => e = .returned (.bool (colourB zs)) ∧ w = w' := by
  go_enter Try.func61, Try.ntmps61
  go_wp2
  go_loop [3] (fun i => ∃ k : Nat, k ≤ zs.length ∧ i = .int .i64 k ∧ AllTo (inB · 0 255) zs k) (fun i => zs.length - (intOf i).toNat)
  case atStart => exact ⟨0, Nat.zero_le _, rfl, AllTo.zero _ _⟩
  case round =>
    obtain ⟨k, hk, rfl, hall⟩ := hrel
    by_cases hlt : k < zs.length
    · obtain ⟨b, o, rfl, hb, hc⟩ := h.pos hlt
      clear h
      cases hv : (inB · 0 255) (nth zs k)
      · have hv' : inB (nth zs k) 0 255 = false := hv
        go_wp2_with (go_at_call 48; refine call_same (l00In_c _ _ _ _) ?_)
        go_ret
        exact ⟨by rw [colourB, all_not (p := (inB · 0 255)) hlt hv]; rfl, rfl⟩
      · have hv' : inB (nth zs k) 0 255 = true := hv
        go_wp2_with (go_at_call 48; refine call_same (l00In_c _ _ _ _) ?_)
        go_round
        case rel => exact ⟨k + 1, by omega, by go_num, hall.step hv⟩
        case measure => simp [intOf]; omega
    · obtain rfl : k = zs.length := by omega
      have ha := hall.all
      by_cases h3 : zs.length = 3
      · have h3a : ((zs.length : Int) == 3) = true := by simp; omega
        have HF := Lib.hid (show colourB zs = true by rw [colourB, ha]; simpa using h3)
        clear h3
        go_wp2
        go_ret
        exact ⟨by rw [HF.out]; rfl, rfl⟩
      · have h3a : ((zs.length : Int) == 3) = false := by simp; omega
        have HF := Lib.hid (show colourB zs = false by rw [colourB, ha]; simpa using h3)
        clear h3
        go_wp2
        go_ret
        exact ⟨by rw [HF.out]; rfl, rfl⟩

/-- The gap of the first k numbers. -/
def gapTo (xs ys : List Int) : Nat → Int
  | 0 => 0
  | k + 1 => gapTo xs ys k + distF (nth xs k) (nth ys k)
theorem gapTo_bd {xs ys : List Int} (hx : ∀ k, k < xs.length → 0 ≤ nth xs k ∧ nth xs k ≤ 255) (hy : ∀ k, k < xs.length → 0 ≤ nth ys k ∧ nth ys k ≤ 255) : ∀ k, k ≤ xs.length → 0 ≤ gapTo xs ys k ∧ gapTo xs ys k ≤ 255 * k
  | 0, _ => by simp [gapTo]
  | k + 1, h => by
    have ih := gapTo_bd hx hy k (by omega)
    have h1 := hx k (by omega)
    have h2 := hy k (by omega)
    have h3 := distF_bd (a := nth xs k) (b := nth ys k) (A := 255) (by omega) (by omega)
    simp only [gapTo]
    omega

theorem colourGap_c (a b : Option Addr) (ca cb : Nat) (xs ys : List Int) (w : World) (h1 : Nums .i64 w a xs) (h2 : Nums .i64 w b ys) (hx : colourB xs = true) (hy : colourB ys = true) :
    Calls Try.prog 64 #[.slice a xs.length ca, .slice b ys.length cb] w fun e w' => e = .returned (.int .i64 (gapTo xs ys xs.length)) ∧ Below w.heap.size w w' := by
  have bx := colourB_true hx
  have by_ := colourB_true hy
  have hl : xs.length ≤ 3 := by omega
  have hl2 : xs.length ≤ ys.length := by omega
  have BX := Lib.hid bx.1
  have BY := Lib.hid (fun k (hk : k < xs.length) => by_.1 k (by omega))
  clear bx by_ hx hy
  go_enter Try.func64, Try.ntmps64
  go_wp2
  go_loop [5, 10] (fun s i => ∃ k : Nat, k ≤ xs.length ∧ i = .int .i64 k ∧ s = .int .i64 (gapTo xs ys k)) (fun _ i => xs.length - (intOf i).toNat)
  case atStart => exact ⟨0, Nat.zero_le _, rfl, rfl⟩
  case round =>
    obtain ⟨k, hk, rfl, rfl⟩ := hrel
    by_cases hlt : k < xs.length
    · obtain ⟨b1, o1, rfl, hb1, hc1⟩ := h1.pos hlt
      obtain ⟨b2, o2, rfl, hb2, hc2⟩ := h2.pos (j := k) (by omega)
      have g1 := gapTo_bd BX.out BY.out k hk
      have e1 := BX.out k hlt
      have e2 := BY.out k hlt
      have e3 := distF_bd (a := nth xs k) (b := nth ys k) (A := 255) (by omega) (by omega)
      clear h1 h2
      go_wp2_with (go_at_call 60; refine call_same (distance_c _ _ _ (by omega) (by omega)) ?_)
      go_round
      case rel => exact ⟨k + 1, by omega, by go_num, rfl⟩
      case measure => simp [intOf]; omega
    · obtain rfl : k = xs.length := by omega
      go_wp2
      go_ret
      exact ⟨rfl, Below.refl _ _⟩

theorem l13Gap_c (a b : Option Addr) (ca cb : Nat) (xs ys : List Int) (w : World) (h1 : Nums .i64 w a xs) (h2 : Nums .i64 w b ys) (hx : colourB xs = true) (hy : colourB ys = true) :
    Calls Try.prog 62 #[.slice a xs.length ca, .slice b ys.length cb] w fun e w' => e = .returned (.int .i64 (gapTo xs ys xs.length)) ∧ Below w.heap.size w w' := by
  have bx := colourB_true hx
  have by_ := colourB_true hy
  have hl : xs.length ≤ 3 := by omega
  have hl2 : xs.length ≤ ys.length := by omega
  have BX := Lib.hid bx.1
  have BY := Lib.hid (fun k (hk : k < xs.length) => by_.1 k (by omega))
  clear bx by_ hx hy
  go_enter Try.func62, Try.ntmps62
  go_wp2
  go_loopw [5, 6] (fun s i wr => ∃ k : Nat, k ≤ xs.length ∧ i = .int .i64 k ∧ s = .int .i64 (gapTo xs ys k) ∧ Below w.heap.size w wr) (fun _ i _ => xs.length - (intOf i).toNat)
  case atStart => exact ⟨0, Nat.zero_le _, rfl, rfl, Below.refl _ _⟩
  case round =>
    obtain ⟨k, hk, rfl, rfl, hbl⟩ := hrel
    by_cases hlt : k < xs.length
    · obtain ⟨b1, o1, rfl, hb1, hc1⟩ := (h1.below hbl).pos hlt
      obtain ⟨b2, o2, rfl, hb2, hc2⟩ := (h2.below hbl).pos (j := k) (by omega)
      have g1 := gapTo_bd BX.out BY.out k hk
      have e1 := BX.out k hlt
      have e2 := BY.out k hlt
      have e3 := distF_bd (a := nth xs k) (b := nth ys k) (A := 255) (by omega) (by omega)
      have i1 := IntWalk.i64_in (gapTo xs ys k + distF (nth xs k) (nth ys k)) (by omega)
      have hi0 : (0 : Int) ≤ (k : Int) := by omega
      have hi1 : (k : Int) < (xs.length : Int) := by omega
      have hi2 : (k : Int) < (ys.length : Int) := by omega
      clear h1 h2
      go_wp2_with fail
      go_quiet ((go_at_call 67; exact quiet_at (l03Abs_c _ _ _ (by omega) (by omega))))
      go_wp2
      go_roundw
      case rel => exact ⟨k + 1, by omega, by go_num, rfl, below_drewN hbl _⟩
      case measure => simp [intOf]; omega
    · obtain rfl : k = xs.length := by omega
      go_wp2
      go_ret
      exact ⟨rfl, hbl⟩
end Go.Proofs.Ytdbgcchnaielmaa
