/- Whether a grid has rows of one length and numbers in a range: the program's isGrid. -/
import Derived.Test.YtlenihncfhemkaaGrid
namespace Go.Proofs.Ytlenihncfhemkaa
open Go.RowKit

/-- p holds below k. -/
def NAll (p : Nat → Bool) (k : Nat) : Prop := ∀ j, j < k → p j = true
theorem NAll.zero (p : Nat → Bool) : NAll p 0 := fun _ h => absurd h (Nat.not_lt_zero _)
theorem NAll.step {p : Nat → Bool} {k : Nat} (h : NAll p k) (hk : p k = true) : NAll p (k + 1) := fun j hj => by
  rcases Nat.lt_or_eq_of_le (Nat.le_of_lt_succ hj) with h1 | rfl
  · exact h j h1
  · exact hk
theorem NAll.all {q : List Int → Bool} {g : List (List Int)} (h : NAll (fun j => q (nthL g j)) g.length) : g.all q = true := by
  rw [List.all_eq_true]
  intro x hx
  obtain ⟨j, hj, rfl⟩ := List.getElem_of_mem hx
  rw [← nthL_eq hj]; exact h j hj
theorem allL_not {q : List Int → Bool} {g : List (List Int)} {k : Nat} (hk : k < g.length) (h : q (nthL g k) = false) : g.all q = false := by
  rw [Bool.eq_false_iff]
  intro ha
  rw [List.all_eq_true] at ha
  rw [ha _ (nthL_mem hk)] at h
  cases h
theorem allL_nth {q : List Int → Bool} {g : List (List Int)} (h : g.all q = true) {k : Nat} (hk : k < g.length) : q (nthL g k) = true := by
  rw [List.all_eq_true] at h; exact h _ (nthL_mem hk)

/-- A row of n numbers in a range. -/
def rowB (lo hi : Int) (n : Nat) (r : List Int) : Bool := decide (r.length = n) && r.all (inB · lo hi)
/-- A grid of rows of one length with numbers in a range. -/
def gridB (lo hi : Int) (g : List (List Int)) : Bool := inB g.length 1 10 && (inB (nthL g 0).length 1 10 && g.all (rowB lo hi (nthL g 0).length))
/-- What a valid grid is. -/
structure GridOk (lo hi : Int) (g : List (List Int)) : Prop where
  rows : 1 ≤ g.length ∧ g.length ≤ 10
  cols : 1 ≤ (nthL g 0).length ∧ (nthL g 0).length ≤ 10
  same : ∀ j, j < g.length → (nthL g j).length = (nthL g 0).length
  range : ∀ j, j < g.length → ∀ i, i < (nthL g j).length → lo ≤ nth (nthL g j) i ∧ nth (nthL g j) i ≤ hi
theorem gridB_true {lo hi : Int} {g : List (List Int)} (h : gridB lo hi g = true) : GridOk lo hi g := by
  simp only [gridB, Bool.and_eq_true] at h
  have h1 := inB_true h.1
  have h2 := inB_true h.2.1
  have h3 : ∀ j, j < g.length → (nthL g j).length = (nthL g 0).length ∧ (nthL g j).all (inB · lo hi) = true := fun j hj => by
    have := allL_nth h.2.2 hj
    simp only [rowB, Bool.and_eq_true] at this
    exact ⟨of_decide_eq_true this.1, this.2⟩
  exact ⟨⟨by omega, by omega⟩, ⟨by omega, by omega⟩, fun j hj => (h3 j hj).1, fun j hj i hi => inB_true (all_nth (h3 j hj).2 hi)⟩

theorem isGrid_c (a : Option Addr) (cap : Nat) (g : List (List Int)) (lo hi : Int) (w : World) (h : Grid w a g) (hs : Small g) :
    Calls Try.prog 32 #[.slice a g.length cap, .int .i64 10, .int .i64 lo, .int .i64 hi] w fun e w' => e = .returned (.bool (gridB lo hi g)) ∧ w = w' := by
  have hn := hs.len
  cases h1 : inB g.length 1 10
  · go_enter Try.func32, Try.ntmps32
    go_wp2_with (go_at_call 39; refine call_same (within_c _ _ _ _) ?_)
    go_ret
    exact ⟨by rw [gridB, h1]; rfl, rfl⟩
  · have hb1 := inB_true h1
    obtain ⟨b, o, rfl, hb, ar, cr, hc0, _⟩ := h.pos (j := 0) (by omega)
    rw [Nat.add_zero] at hc0
    have hpos : (0 : Int) < (g.length : Int) := by omega
    cases h2 : inB (nthL g 0).length 1 10
    · go_enter Try.func32, Try.ntmps32
      go_wp2_with (go_at_call 39; refine call_same (within_c _ _ _ _) ?_)
      go_ret
      exact ⟨by rw [gridB, h1, h2]; rfl, rfl⟩
    · have hb2 := inB_true h2
      go_enter Try.func32, Try.ntmps32
      go_wp2_with (go_at_call 39; refine call_same (within_c _ _ _ _) ?_)
      go_loop [29] (fun i => ∃ k : Nat, k ≤ g.length ∧ i = .int .i64 k ∧ NAll (fun j => rowB lo hi (nthL g 0).length (nthL g j)) k) (fun i => g.length - (intOf i).toNat)
      case atStart => exact ⟨0, Nat.zero_le _, rfl, NAll.zero _⟩
      case round =>
        obtain ⟨k, hk, rfl, hall⟩ := hrel
        have HALL := Lib.hid hall
        clear hall
        by_cases hlt : k < g.length
        · obtain ⟨ak, ck, hc, hnu⟩ := h.at_ hlt
          have hlk := hs.row hlt
          by_cases hL : (nthL g k).length = (nthL g 0).length
          · have ht : (((nthL g k).length : Int) == ((nthL g 0).length : Int)) = true := by simp; omega
            have HL := Lib.hid hL
            clear hL
            go_wp2
            go_loop [42] (fun i => ∃ m : Nat, m ≤ (nthL g k).length ∧ i = .int .i64 m ∧ AllTo (inB · lo hi) (nthL g k) m) (fun i => (nthL g k).length - (intOf i).toNat)
            case atStart => exact ⟨0, Nat.zero_le _, rfl, AllTo.zero _ _⟩
            case round =>
              obtain ⟨m, hm, rfl, hal⟩ := hrel
              have HAL := Lib.hid hal
              clear hal
              by_cases hml : m < (nthL g k).length
              · obtain ⟨b2, o2, rfl, _, hc2⟩ := hnu.pos hml
                cases hv : inB (nth (nthL g k) m) lo hi
                · have HF := Lib.hid (show gridB lo hi g = false by rw [gridB, allL_not (q := rowB lo hi (nthL g 0).length) hlt (by rw [rowB, all_not (p := (inB · lo hi)) hml hv, Bool.and_false])]; simp)
                  go_wp2_with (go_at_call 39; refine call_same (within_c _ _ _ _) ?_)
                  go_ret
                  exact ⟨by rw [HF.out]; rfl, rfl⟩
                · go_wp2_with (go_at_call 39; refine call_same (within_c _ _ _ _) ?_)
                  go_round
                  case rel => exact ⟨m + 1, by omega, by go_num, HAL.out.step hv⟩
                  case measure => simp [intOf]; omega
              · obtain rfl : m = (nthL g k).length := by omega
                go_wp2
                go_round
                case rel => exact ⟨k + 1, by omega, by go_num, HALL.out.step (by rw [rowB, HAL.out.all, decide_eq_true HL.out]; rfl)⟩
                case measure => simp [intOf]; omega
          · have ht : (((nthL g k).length : Int) == ((nthL g 0).length : Int)) = false := by simp; omega
            have HF := Lib.hid (show gridB lo hi g = false by rw [gridB, allL_not (q := rowB lo hi (nthL g 0).length) hlt (by rw [rowB, decide_eq_false hL]; rfl)]; simp)
            clear hL
            go_wp2
            go_ret
            exact ⟨by rw [HF.out]; rfl, rfl⟩
        · obtain rfl : k = g.length := by omega
          have HF := Lib.hid (show gridB lo hi g = true by rw [gridB, h1, h2, HALL.out.all]; rfl)
          go_wp2
          go_ret
          exact ⟨by rw [HF.out]; rfl, rfl⟩
end Go.Proofs.Ytlenihncfhemkaa
