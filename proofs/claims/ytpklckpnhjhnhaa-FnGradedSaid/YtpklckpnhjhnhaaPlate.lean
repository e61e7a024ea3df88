/- A plate: both sides' test of validity. -/
import Derived.Test.YtpklckpnhjhnhaaGridOk
namespace Go.Proofs.Ytpklckpnhjhnhaa
open Go.RowKit

theorem l08Thick_c (n : Int) (w : World) : Calls Try.prog 60 #[.int .i64 n] w fun e w' => e = .returned (.bool (inB n 1 200)) ∧ w = w' := by
  go_enter Try.func60, Try.ntmps60
  go_wp2_with (go_at_call 63; refine call_same (l00In_c _ _ _ _) ?_)
  go_ret
  exact ⟨rfl, rfl⟩
theorem validPlate_c (a : Option Addr) (cap : Nat) (g : List (List Int)) (w : World) (h : Grid w a g) (hs : Small g) :
    Calls Try.prog 55 #[.slice a g.length cap] w fun e w' => e = .returned (.bool (gridB 1 200 g)) ∧ w = w' := by
  go_enter Try.func55, Try.ntmps55
  go_wp2_with (go_at_call 43; refine call_same (isGrid_c _ _ g 1 200 _ h hs) ?_)
  go_ret
  exact ⟨rfl, rfl⟩

/-- A grid whose row k is too short, too long or of another length is not valid. -/
theorem gridB_len {lo hi : Int} {g : List (List Int)} {k : Nat} (hk : k < g.length) (h : (nthL g k).length < 1 ∨ 10 < (nthL g k).length ∨ (nthL g k).length ≠ (nthL g 0).length) : gridB lo hi g = false := by
  rw [Bool.eq_false_iff]
  intro hg
  have := gridB_true hg
  have h1 := this.same k hk
  have h2 := this.cols
  omega
theorem gridB_num {lo hi : Int} {g : List (List Int)} {k m : Nat} (hk : k < g.length) (hm : m < (nthL g k).length) (h : inB (nth (nthL g k) m) lo hi = false) : gridB lo hi g = false := by
  rw [gridB, allL_not (q := rowB lo hi (nthL g 0).length) hk (by rw [rowB, all_not (p := (inB · lo hi)) hm h, Bool.and_false])]; simp
theorem gridB_out {lo hi : Int} {g : List (List Int)} (h : inB g.length 1 10 = false) : gridB lo hi g = false := by rw [gridB, h]; rfl
/-- A row in order: of the first row's length, of 1 to 10 numbers in a range. -/
def RowOk (lo hi : Int) (g : List (List Int)) (j : Nat) : Prop := (1 ≤ (nthL g j).length ∧ (nthL g j).length ≤ 10) ∧ (nthL g j).length = (nthL g 0).length ∧ (nthL g j).all (inB · lo hi) = true
theorem gridB_rows {lo hi : Int} {g : List (List Int)} (h : inB g.length 1 10 = true) (hr : ∀ j, j < g.length → RowOk lo hi g j) : gridB lo hi g = true := by
  have h1 := inB_true h
  have h2 := (hr 0 (by omega)).1
  have h3 : g.all (rowB lo hi (nthL g 0).length) = true := NAll.all fun j hj => by
    obtain ⟨_, h5, h6⟩ := hr j hj
    show (decide _ && _) = true
    rw [h6, decide_eq_true h5]; rfl
  have h4 : inB (nthL g 0).length 1 10 = true := by simp [inB]; omega
  rw [gridB, h, h4, h3]; rfl

theorem l08Ok_g (a : Option Addr) (cap : Nat) (g : List (List Int)) (w : World) (h : Grid w a g) (hn : g.length ≤ 4194304) (hs : ∀ j, j < g.length → (nthL g j).length ≤ 4194304) :
    Calls Try.prog 52 #[.slice a g.length cap] w fun e w' => e = .returned (.bool (gridB 1 200 g)) ∧ Below w.heap.size w w' := by
  go_enter Try.func52, Try.ntmps52
  go_wp2
  go_loopw [3] (fun i wr => ∃ k : Nat, k ≤ g.length ∧ i = .int .i64 k ∧ Below w.heap.size w wr ∧ ∀ j, j < k → RowOk 1 200 g j) (fun i _ => g.length - (intOf i).toNat)
  case atStart => exact ⟨0, Nat.zero_le _, rfl, Below.refl _ _, fun _ hj => absurd hj (Nat.not_lt_zero _)⟩
  case round =>
    obtain ⟨k, hk, rfl, hbl, hall⟩ := hrel
    have HALL := Lib.hid hall
    clear hall
    by_cases hlt : k < g.length
    · obtain ⟨b, o, rfl, hb, ak, ck, hc, hnu⟩ := (h.below hbl).pos hlt
      obtain ⟨a0, c0, hc0, _⟩ := (h.below hbl).at_ (j := 0) (by omega)
      rw [Nat.add_zero] at hc0
      have hlk := hs k hlt
      have hl0 := hs 0 (by omega)
      have hi0 : (0 : Int) ≤ (k : Int) := by omega
      have hi1 : (k : Int) < (g.length : Int) := by omega
      have hi2 : (0 : Int) < (g.length : Int) := by omega
      have HG := Lib.hid h
      clear h
      by_cases t1 : (nthL g k).length < 1
      · have d1 : decide (((nthL g k).length : Int) < 1) = true := decide_eq_true (by omega)
        have HF := Lib.hid (gridB_len (lo := 1) (hi := 200) hlt (.inl t1))
        go_wp2_with fail
        go_quiet (fail)
        go_wp2
        go_ret
        exact ⟨by rw [HF.out]; rfl, below_drewN hbl _⟩
      · have d1 : decide (((nthL g k).length : Int) < 1) = false := decide_eq_false (by omega)
        by_cases t2 : 10 < (nthL g k).length
        · have d2 : decide ((10 : Int) < ((nthL g k).length : Int)) = true := decide_eq_true (by omega)
          have HF := Lib.hid (gridB_len (lo := 1) (hi := 200) hlt (.inr (.inl t2)))
          go_wp2_with fail
          go_quiet (fail)
          go_wp2
          go_ret
          exact ⟨by rw [HF.out]; rfl, below_drewN hbl _⟩
        · have d2 : decide ((10 : Int) < ((nthL g k).length : Int)) = false := decide_eq_false (by omega)
          by_cases t3 : (nthL g k).length = (nthL g 0).length
          · have d3 : (((nthL g k).length : Int) == ((nthL g 0).length : Int)) = true := by simp; omega
            have d4 : (((nthL g k).length : Int) != ((nthL g 0).length : Int)) = false := by simp; omega
            have HR := Lib.hid (show (1 ≤ (nthL g k).length ∧ (nthL g k).length ≤ 10) ∧ (nthL g k).length = (nthL g 0).length from ⟨⟨by omega, by omega⟩, t3⟩)
            clear t3
            go_wp2_with fail
            go_quiet (fail)
            clear d1 d2 d3 d4
            go_wp2
            obtain ⟨wo, hwo⟩ : ∃ wo : World, wo = wr.drewN nq := ⟨_, rfl⟩
            rw [← hwo]
            have hbo : Below w.heap.size w wo := by rw [hwo]; exact below_drewN hbl _
            clear hwo
            go_loopw [4] (fun i wi => ∃ m : Nat, m ≤ (nthL g k).length ∧ i = .int .i64 m ∧ AllTo (inB · 1 200) (nthL g k) m ∧ Below w.heap.size w wi) (fun i _ => (nthL g k).length - (intOf i).toNat)
            case atStart => exact ⟨0, Nat.zero_le _, rfl, AllTo.zero _ _, hbo⟩
            case round =>
              obtain ⟨m, hm, rfl, hal, hbi⟩ := hrel
              have HAL := Lib.hid hal
              clear hal hc hnu hc0
              obtain ⟨ak', ck', hc', hnu'⟩ := (HG.out.below hbi).at_ hlt
              by_cases hml : m < (nthL g k).length
              · obtain ⟨b2, o2, rfl, _, hc2⟩ := hnu'.pos hml
                cases hv : inB (nth (nthL g k) m) 1 200
                · have HF := Lib.hid (gridB_num (lo := 1) (hi := 200) hlt hml hv)
                  go_wp2_with (go_at_call 60; refine call_same (l08Thick_c _ _) ?_)
                  go_ret
                  exact ⟨by rw [HF.out]; rfl, hbi⟩
                · go_wp2_with (go_at_call 60; refine call_same (l08Thick_c _ _) ?_)
                  go_roundw
                  case rel => exact ⟨m + 1, by omega, by go_num, HAL.out.step hv, hbi⟩
                  case measure => simp [intOf]; omega
              · obtain rfl : m = (nthL g k).length := by omega
                go_wp2
                go_roundw
                case rel => exact ⟨k + 1, by omega, by go_num, hbi, fun j hj => by
                  rcases Nat.lt_or_eq_of_le (Nat.le_of_lt_succ hj) with h1 | rfl
                  · exact HALL.out j h1
                  · exact ⟨HR.out.1, HR.out.2, HAL.out.all⟩⟩
                case measure => simp [intOf]; omega
          · have d3 : (((nthL g k).length : Int) == ((nthL g 0).length : Int)) = false := by simp; omega
            have d4 : (((nthL g k).length : Int) != ((nthL g 0).length : Int)) = true := by simp; omega
            have HF := Lib.hid (gridB_len (lo := 1) (hi := 200) hlt (.inr (.inr t3)))
            go_wp2_with fail
            go_quiet (fail)
            go_wp2
            go_ret
            exact ⟨by rw [HF.out]; rfl, below_drewN hbl _⟩
    · obtain rfl : k = g.length := by omega
      by_cases t1 : 1 ≤ g.length
      · by_cases t2 : g.length ≤ 10
        · have HF := Lib.hid (gridB_rows (lo := 1) (hi := 200) (by simp [inB]; omega) HALL.out)
          have d : decide ((g.length : Int) ≤ 10) = true := decide_eq_true (by omega)
          go_wp2
          go_ret
          exact ⟨by rw [HF.out]; rfl, hbl⟩
        · have HF := Lib.hid (gridB_out (lo := 1) (hi := 200) (g := g) (by simp [inB]; omega))
          have d : decide ((g.length : Int) ≤ 10) = false := decide_eq_false (by omega)
          go_wp2
          go_ret
          exact ⟨by rw [HF.out]; rfl, hbl⟩
      · have HF := Lib.hid (gridB_out (lo := 1) (hi := 200) (g := g) (by simp [inB]; omega))
        go_wp2
        go_ret
        exact ⟨by rw [HF.out]; rfl, hbl⟩
theorem l08Ok_c (a : Option Addr) (cap : Nat) (g : List (List Int)) (w : World) (h : Grid w a g) (hs : Small g) :
    Calls Try.prog 52 #[.slice a g.length cap] w fun e w' => e = .returned (.bool (gridB 1 200 g)) ∧ Below w.heap.size w w' :=
  l08Ok_g a cap g w h (by have := hs.len; omega) fun j hj => by have := hs.row hj; omega
end Go.Proofs.Ytpklckpnhjhnhaa
