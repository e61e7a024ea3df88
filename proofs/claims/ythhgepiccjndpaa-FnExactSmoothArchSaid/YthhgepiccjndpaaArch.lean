/- An arching: both sides' test of validity; the heights around a place. -/
import Derived.Test.YthhgepiccjndpaaPlate
import Derived.Test.YthhgepiccjndpaaOwnInts
import Derived.Deep.DeepCutAuto
namespace Go.Proofs.Ythhgepiccjndpaa
open Go.RowKit Go.ChangeShapes Go.WideShapes
set_option linter.unusedVariables false

theorem l07Height_c (n : Int) (w : World) : Calls Try.prog 90 #[.int .i64 n] w fun e w' => e = .returned (.bool (inB n 0 1000)) ∧ w = w' := by
  go_enter Try.func90, Try.ntmps90
  go_wp2_with (go_at_call 43; refine call_same (l00In_c _ _ _ _) ?_)
  go_ret
  exact ⟨rfl, rfl⟩
theorem validArch_c (a : Option Addr) (cap : Nat) (g : List (List Int)) (w : World) (h : Grid w a g) (hs : Small g) :
    Calls Try.prog 24 #[.slice a g.length cap] w fun e w' => e = .returned (.bool (gridB 0 1000 g)) ∧ w = w' := by
  go_enter Try.func24, Try.ntmps24
  go_wp2_with (go_at_call 75; refine call_same (isGrid_c _ _ g 0 1000 _ h hs) ?_)
  go_ret
  exact ⟨rfl, rfl⟩

theorem l07Ok_c (a : Option Addr) (cap : Nat) (g : List (List Int)) (w : World) (h : Grid w a g) (hs : Small g) :
    Calls Try.prog 55 #[.slice a g.length cap] w fun e w' => e = .returned (.bool (gridB 0 1000 g)) ∧ Below w.heap.size w w' := by
  have hn := hs.len
  go_enter Try.func55, Try.ntmps55
  go_wp2
  go_loopw [3] (fun i wr => ∃ k : Nat, k ≤ g.length ∧ i = .int .i64 k ∧ Below w.heap.size w wr ∧ ∀ j, j < k → RowOk 0 1000 g j) (fun i _ => g.length - (intOf i).toNat)
  case atStart => exact ⟨0, Nat.zero_le _, rfl, Below.refl _ _, fun _ hj => absurd hj (Nat.not_lt_zero _)⟩
  case round =>
    obtain ⟨k, hk, rfl, hbl, hall⟩ := hrel
    have HALL := Lib.hid hall
    clear hall
    by_cases hlt : k < g.length
    · obtain ⟨b, o, rfl, hb, ak, ck, hc, hnu⟩ := (h.below hbl).pos hlt
      obtain ⟨a0, c0, hc0, _⟩ := (h.below hbl).at_ (j := 0) (by omega)
      rw [Nat.add_zero] at hc0
      have hlk := hs.row hlt
      have hl0 := hs.row (j := 0) (by omega)
      have hi0 : (0 : Int) ≤ (k : Int) := by omega
      have hi1 : (k : Int) < (g.length : Int) := by omega
      have hi2 : (0 : Int) < (g.length : Int) := by omega
      have HG := Lib.hid h
      clear h
      by_cases t3 : (nthL g k).length = (nthL g 0).length
      rotate_left
      · have d3 : (((nthL g k).length : Int) == ((nthL g 0).length : Int)) = false := by simp; omega
        have d4 : (((nthL g k).length : Int) != ((nthL g 0).length : Int)) = true := by simp; omega
        have HF := Lib.hid (gridB_len (lo := 0) (hi := 1000) hlt (.inr (.inr t3)))
        clear t3
        go_wp2_with fail
        go_quiet (fail)
        go_wp2
        go_ret
        exact ⟨by rw [HF.out]; rfl, below_drewN hbl _⟩
      have d3 : (((nthL g k).length : Int) == ((nthL g 0).length : Int)) = true := by simp; omega
      have d4 : (((nthL g k).length : Int) != ((nthL g 0).length : Int)) = false := by simp; omega
      have HT3 := Lib.hid t3
      clear t3
      by_cases t1 : (nthL g k).length = 0
      · have d1 : (((nthL g k).length : Int) == 0) = true := by rw [beq_iff_eq]; omega
        have HF := Lib.hid (gridB_len (lo := 0) (hi := 1000) hlt (.inl (by omega)))
        have HT1 := Lib.hid t1
        clear t1
        go_wp2_with fail
        go_quiet (fail)
        go_wp2
        go_ret
        exact ⟨by rw [HF.out]; rfl, below_drewN hbl _⟩
      have d1 : (((nthL g k).length : Int) == 0) = false := by rw [beq_eq_false_iff_ne]; omega
      by_cases t2 : 10 < (nthL g k).length
      · have d2 : decide ((10 : Int) < ((nthL g k).length : Int)) = true := decide_eq_true (by omega)
        have HF := Lib.hid (gridB_len (lo := 0) (hi := 1000) hlt (.inr (.inl t2)))
        go_wp2_with fail
        go_quiet (fail)
        go_wp2
        go_ret
        exact ⟨by rw [HF.out]; rfl, below_drewN hbl _⟩
      · have d2 : decide ((10 : Int) < ((nthL g k).length : Int)) = false := decide_eq_false (by omega)
        have d5 : True := trivial
        have HR := Lib.hid (show (1 ≤ (nthL g k).length ∧ (nthL g k).length ≤ 10) ∧ (nthL g k).length = (nthL g 0).length from ⟨⟨by omega, by omega⟩, HT3.out⟩)
        go_wp2_with fail
        go_quiet (fail)
        clear d1 d2 d3 d4 d5
        go_wp2
        obtain ⟨wo, hwo⟩ : ∃ wo : World, wo = wr.drewN nq := ⟨_, rfl⟩
        rw [← hwo]
        have hbo : Below w.heap.size w wo := by rw [hwo]; exact below_drewN hbl _
        clear hwo
        go_loopw [4] (fun i wi => ∃ m : Nat, m ≤ (nthL g k).length ∧ i = .int .i64 m ∧ AllTo (inB · 0 1000) (nthL g k) m ∧ Below w.heap.size w wi) (fun i _ => (nthL g k).length - (intOf i).toNat)
        case atStart => exact ⟨0, Nat.zero_le _, rfl, AllTo.zero _ _, hbo⟩
        case round =>
          obtain ⟨m, hm, rfl, hal, hbi⟩ := hrel
          have HAL := Lib.hid hal
          clear hal hc hnu hc0
          obtain ⟨ak', ck', hc', hnu'⟩ := (HG.out.below hbi).at_ hlt
          by_cases hml : m < (nthL g k).length
          · obtain ⟨b2, o2, rfl, _, hc2⟩ := hnu'.pos hml
            cases hv : inB (nth (nthL g k) m) 0 1000
            · have HF := Lib.hid (gridB_num (lo := 0) (hi := 1000) hlt hml hv)
              go_wp2_with (go_at_call 90; refine call_same (l07Height_c _ _) ?_)
              go_ret
              exact ⟨by rw [HF.out]; rfl, hbi⟩
            · go_wp2_with (go_at_call 90; refine call_same (l07Height_c _ _) ?_)
              go_roundw
              case rel => exact ⟨m + 1, by omega, by go_num, HAL.out.step hv, hbi⟩
              case measure => simp [intOf]; omega
          · obtain rfl : m = (nthL g k).length := by omega
            go_wp2
            go_roundw
            case rel => exact ⟨k + 1, by omega, by go_num, hbi, fun j hj => by
              rcases Nat.lt_or_eq_of_le (Nat.le_of_lt_succ hj) with h1 | rfl
              · exact HALL.out j h1
              · exact ⟨HR.out.1, HR.out.2, HAL.out.all⟩⟩
            case measure => simp [intOf]; omega
    · obtain rfl : k = g.length := by omega
      by_cases t1 : 0 < g.length
      · have d0 : decide ((0 : Int) < (g.length : Int)) = true := decide_eq_true (by omega)
        by_cases t2 : g.length ≤ 10
        · have HF := Lib.hid (gridB_rows (lo := 0) (hi := 1000) (by simp [inB]; omega) HALL.out)
          have d : decide ((g.length : Int) ≤ 10) = true := decide_eq_true (by omega)
          go_wp2
          go_ret
          exact ⟨by rw [HF.out]; rfl, hbl⟩
        · have HF := Lib.hid (gridB_out (lo := 0) (hi := 1000) (g := g) (by simp [inB]; omega))
          have d : decide ((g.length : Int) ≤ 10) = false := decide_eq_false (by omega)
          go_wp2
          go_ret
          exact ⟨by rw [HF.out]; rfl, hbl⟩
      · have HF := Lib.hid (gridB_out (lo := 0) (hi := 1000) (g := g) (by simp [inB]; omega))
        have d0 : decide ((0 : Int) < (g.length : Int)) = false := decide_eq_false (by omega)
        go_wp2
        go_ret
        exact ⟨by rw [HF.out]; rfl, hbl⟩
end Go.Proofs.Ythhgepiccjndpaa
