/- The greatest difference of mirrored places, and of two neighbours: what the program's functions answer. -/
import Derived.Test.YtlenihncfhemkaaSteep
import Derived.Test.YtlenihncfhemkaaArch
import Derived.Test.YtlenihncfhemkaaHeights
namespace Go.Proofs.Ytlenihncfhemkaa
open Go.RowKit Go.ChangeShapes Go.WideShapes
set_option linter.unusedVariables false

theorem steepStep_c (a : Option Addr) (cap : Nat) (g : List (List Int)) (w : World) (h : Grid w a g) (hs : Small g) (hv : gridB 0 1000 g = true) :
    Calls Try.prog 7 #[.slice a g.length cap] w fun e w' => e = .returned (.tuple #[.int .i64 (steepF g), .int .i64 0]) ∧ Below w.heap.size w w' := by
  have HVA := Lib.hid (validArch_c a cap g w h hs)
  rw [hv] at HVA
  have HST := Lib.hid (steepest_c a cap g 0 1000 w h hs (gridB_true hv) (by omega) (by omega))
  clear hv
  go_enter Try.func7, Try.ntmps7
  go_wp2_with fail
  refine call_same HVA.out ?_
  go_wp2_with fail
  refine call_below HST.out ?_
  intro w1 hb1
  go_wp2
  go_returns
  exact ⟨rfl, hb1⟩

/-- The difference of a place and its mirror. -/
def mirD (g : List (List Int)) (i c : Nat) : Int := distF (nth (nthL g i) c) (nth (nthL g i) ((nthL g i).length - 1 - c))
/-- m is at least what has been seen. -/
def MirTo (g : List (List Int)) (k c : Nat) (m : Int) : Prop := (0 ≤ m ∧ m ≤ 1000) ∧ (∀ i, i < k → ∀ c', c' < (nthL g i).length → mirD g i c' ≤ m) ∧ ∀ c', c' < c → mirD g k c' ≤ m
theorem MirTo.zero (g : List (List Int)) : MirTo g 0 0 0 := ⟨by omega, fun i hi => absurd hi (Nat.not_lt_zero _), fun c hc => absurd hc (Nat.not_lt_zero _)⟩
theorem MirTo.next {g : List (List Int)} {k : Nat} {m : Int} (h : MirTo g k (nthL g k).length m) : MirTo g (k + 1) 0 m := by
  refine ⟨h.1, fun i hi c hc => ?_, fun c hc => absurd hc (Nat.not_lt_zero _)⟩
  rcases Nat.lt_or_eq_of_le (Nat.le_of_lt_succ hi) with h1 | rfl
  · exact h.2.1 i h1 c hc
  · exact h.2.2 c hc
theorem MirTo.step {g : List (List Int)} {k c : Nat} {m x : Int} (h : MirTo g k c m) (hx : mirD g k c = x) (h1 : x ≤ 1000) : MirTo g k (c + 1) (max m x) := by
  obtain ⟨h0, h2, h3⟩ := h
  refine ⟨by omega, fun i hi c' hc' => by have := h2 i hi c' hc'; omega, fun c' hc' => ?_⟩
  rcases Nat.lt_or_eq_of_le (Nat.le_of_lt_succ hc') with h4 | rfl
  · have := h3 c' h4; omega
  · omega
set_option maxRecDepth 100000 in
theorem mirrorGap_c (a : Option Addr) (cap : Nat) (g : List (List Int)) (w : World) (h : Grid w a g) (hs : Small g) (hv : gridB 0 1000 g = true) :
    Calls Try.prog 9 #[.slice a g.length cap] w fun e w' => ∃ m : Int, e = .returned (.tuple #[.int .i64 m, .int .i64 0]) ∧ MirTo g g.length 0 m ∧ Below w.heap.size w w' := by
  have HOK := Lib.hid (gridB_true hv)
  have hl10 := HOK.out.rows
  have HG := Lib.hid h
  have HVA := Lib.hid (validArch_c a cap g w h hs)
  rw [hv] at HVA
  clear hv h
  go_enter Try.func9, Try.ntmps9
  go_wp2_with fail
  refine call_same HVA.out ?_
  go_wp2
  go_loopw [4, 14] (fun v i wr => ∃ (k : Nat) (m : Int), k ≤ g.length ∧ i = .int .i64 k ∧ v = .int .i64 m ∧ MirTo g k 0 m ∧ Below w.heap.size w wr) (fun _ i _ => g.length - (intOf i).toNat)
  case atStart => exact ⟨0, 0, Nat.zero_le _, rfl, rfl, MirTo.zero g, Below.refl _ _⟩
  case round =>
    obtain ⟨k, m, hk, rfl, rfl, hm, hbl⟩ := hrel
    have HM := Lib.hid hm
    have HL := Lib.hid hbl
    clear hm hbl
    by_cases hlt : k < g.length
    · obtain ⟨b, o, rfl, hb, ak, ck, hc, hnu⟩ := (HG.out.below HL.out).pos hlt
      have hrl : (nthL g k).length ≤ 10 := by have := HOK.out.same k hlt; have := HOK.out.cols; omega
      have HNU := Lib.hid hnu
      clear hnu hb
      go_wp2
      go_loopw [4, 20] (fun v i wi => ∃ (q : Nat) (m : Int), q ≤ (nthL g k).length ∧ i = .int .i64 q ∧ v = .int .i64 m ∧ MirTo g k q m ∧ Below wr.heap.size wr wi) (fun _ i _ => (nthL g k).length - (intOf i).toNat)
      case atStart => exact ⟨0, m, Nat.zero_le _, rfl, rfl, HM.out, Below.refl _ _⟩
      case round =>
        clear hc
        obtain ⟨q, m2, hq, rfl, rfl, hm2, hbi⟩ := hrel
        have HM2 := Lib.hid hm2
        have HI := Lib.hid hbi
        have hm0 := hm2.1
        have hnu := HNU.out.below hbi
        clear hm2 hbi
        by_cases hql : q < (nthL g k).length
        · obtain ⟨v, hvq⟩ : ∃ v : Nat, ((nthL g k).length : Int) - 1 - (q : Int) = v := ⟨(nthL g k).length - 1 - q, by omega⟩
          have hvn : v = (nthL g k).length - 1 - q := by omega
          obtain ⟨b2, o2, rfl, _, hc2⟩ := hnu.pos hql
          obtain ⟨b3, o3, e3, _, hc3⟩ := hnu.pos (j := v) (by omega)
          cases e3
          have hr2 := HOK.out.range k hlt q hql
          have hr3 := HOK.out.range k hlt v (by omega)
          have HD := Lib.hid (show mirD g k q = distF (nth (nthL g k) q) (nth (nthL g k) v) by rw [hvn]; rfl)
          have hv1 : (v : Int) < ((nthL g k).length : Int) := by omega
          have hv0 : (0 : Int) ≤ (v : Int) := by omega
          have hx : 0 ≤ distF (nth (nthL g k) q) (nth (nthL g k) v) ∧ distF (nth (nthL g k) q) (nth (nthL g k) v) ≤ 1000 := by unfold distF; omega
          have HDC := Lib.hid (fun w' : World => distance_c (nth (nthL g k) q) (nth (nthL g k) v) w' (by omega) (by omega))
          generalize hxv : distF (nth (nthL g k) q) (nth (nthL g k) v) = x at hx HD HDC
          have HST := Lib.hid (HM2.out.step HD.out hx.2)
          clear hvn hxv HD hnu
          go_wp2_with (go_at_call 25; refine call_same (HDC.out _) ?_)
          all_goals
            go_roundw
            case rel => exact ⟨q + 1, max m2 x, hql, by go_num, by congr 1 <;> omega, HST.out, HI.out⟩
            case measure => simp [intOf]; omega
        · obtain rfl : q = (nthL g k).length := by omega
          go_wp2
          go_roundw
          case rel => exact ⟨k + 1, m2, hlt, by go_num, rfl, HM2.out.next, below_next HL.out HI.out⟩
          case measure => simp [intOf]; omega
    · obtain rfl : k = g.length := by omega
      go_wp2
      go_returns
      exact ⟨m, rfl, HM.out, HL.out⟩
end Go.Proofs.Ytlenihncfhemkaa
