/- Lists of necks: the code; how far two necks are apart. -/
import Derived.Test.YtejcglenjhkhhaaNecks
import Derived.Test.YtejcglenjhkhhaaHeights
namespace Go.Proofs.Ytejcglenjhkhhaa
open Go.RowKit Go.ChangeShapes Go.WideShapes Go.Deep

def neckOk (q : Int × Int × Int × Int) : Bool := neckB q.1 q.2.1 q.2.2.1 q.2.2.2
/-- What the list's code is. -/
def necksN (z : List (Int × Int × Int × Int)) : Int := if z.all neckOk then (if (z.length : Int) ≤ 64 then 0 else 2) else 1
theorem necksN_bad {z : List (Int × Int × Int × Int)} (h : z.all neckOk = false) : necksN z = 1 := by unfold necksN; rw [h]; rfl
theorem necksN_good {z : List (Int × Int × Int × Int)} (h : z.all neckOk = true) (hl : (z.length : Int) ≤ 64) : necksN z = 0 := by unfold necksN; rw [h, if_pos hl]; rfl
theorem necksN_long {z : List (Int × Int × Int × Int)} (h : z.all neckOk = true) (hl : ¬ (z.length : Int) ≤ 64) : necksN z = 2 := by unfold necksN; rw [h, if_neg hl]; rfl
theorem necksN_cases (z : List (Int × Int × Int × Int)) : (z.all neckOk = false) ∨ (z.all neckOk = true ∧ (z.length : Int) ≤ 64) ∨ (z.all neckOk = true ∧ ¬ (z.length : Int) ≤ 64) := by
  cases z.all neckOk
  · exact .inl rfl
  · by_cases h : (z.length : Int) ≤ 64
    · exact .inr (.inl ⟨rfl, h⟩)
    · exact .inr (.inr ⟨rfl, h⟩)

theorem few_c' (n m : Int) (w : World) : Calls Try.prog 121 #[.int .i64 n, .int .i64 m] w fun e w' => e = .returned (.bool (decide (n ≤ m))) ∧ w = w' := by
  go_enter Try.func121, Try.ntmps121
  go_wp2
  go_ret
  exact ⟨rfl, rfl⟩

theorem necksCode_c (a : Option Addr) (cap : Nat) (z : List (Int × Int × Int × Int)) (w : World) (h : Quads w a z) (hn : z.length ≤ 1048576) :
    Calls Try.prog 103 #[.slice a z.length cap] w fun e w' => e = .returned (.int .i64 (necksN z)) ∧ Below w.heap.size w w' := by
  go_enter Try.func103, Try.ntmps103
  go_wp2
  go_loopw [7] (fun i wr => ∃ k : Nat, k ≤ z.length ∧ i = .int .i64 k ∧ QAllTo neckOk z k ∧ Below w.heap.size w wr) (fun i _ => z.length - (intOf i).toNat)
  case atStart => exact ⟨0, Nat.zero_le _, rfl, QAllTo.zero _ _, Below.refl _ _⟩
  case round =>
    obtain ⟨k, hk, rfl, hall, hbl⟩ := hrel
    have HA := Lib.hid hall
    have HL := Lib.hid hbl
    clear hall
    by_cases hlt : k < z.length
    · obtain ⟨b, o, rfl, hq⟩ := (h.below hbl).pos hlt
      obtain ⟨c0, c1, c2, c3⟩ := hq
      clear h hbl
      cases hv : neckOk (nthQ z k)
      · have hv' : neckB (nthQ z k).1 (nthQ z k).2.1 (nthQ z k).2.2.1 (nthQ z k).2.2.2 = false := hv
        have HF := Lib.hid (necksN_bad (qall_not hlt hv))
        go_wp2_with fail
        refine call_below (validNeck_c _ _ _ _ _) ?_
        intro w2 hb2
        go_wp2
        go_ret
        exact ⟨by rw [HF.out]; rfl, below_next HL.out (below_from hb2)⟩
      · have hv' : neckB (nthQ z k).1 (nthQ z k).2.1 (nthQ z k).2.2.1 (nthQ z k).2.2.2 = true := hv
        go_wp2_with fail
        refine call_below (validNeck_c _ _ _ _ _) ?_
        intro w2 hb2
        go_wp2
        go_roundw
        case rel => exact ⟨k + 1, by omega, by go_num, HA.out.step hv, below_next HL.out (below_from hb2)⟩
        case measure => simp [intOf]; omega
    · obtain rfl : k = z.length := by omega
      by_cases hl : (z.length : Int) ≤ 64
      · have HF := Lib.hid (necksN_good HA.out.all hl)
        have hl' : decide ((z.length : Int) ≤ 64) = true := decide_eq_true hl
        go_wp2_with (go_at_call 121; refine call_same (few_c' _ _ _) ?_)
        go_ret
        exact ⟨by rw [HF.out]; rfl, HL.out⟩
      · have HF := Lib.hid (necksN_long HA.out.all hl)
        have hl' : decide ((z.length : Int) ≤ 64) = false := decide_eq_false hl
        go_wp2_with (go_at_call 121; refine call_same (few_c' _ _ _) ?_)
        go_ret
        exact ⟨by rw [HF.out]; rfl, HL.out⟩

theorem l10List_c (a : Option Addr) (cap : Nat) (z : List (Int × Int × Int × Int)) (w : World) (h : Quads w a z) (hn : z.length ≤ 1048576) :
    Calls Try.prog 99 #[.slice a z.length cap] w fun e w' => e = .returned (.int .i64 (necksN z)) ∧ Below w.heap.size w w' := by
  go_enter Try.func99, Try.ntmps99
  go_wp2
  go_loopw [3] (fun i wr => ∃ k : Nat, k ≤ z.length ∧ i = .int .i64 k ∧ QAllTo neckOk z k ∧ Below w.heap.size w wr) (fun i _ => z.length - (intOf i).toNat)
  case atStart => exact ⟨0, Nat.zero_le _, rfl, QAllTo.zero _ _, Below.refl _ _⟩
  case round =>
    obtain ⟨k, hk, rfl, hall, hbl⟩ := hrel
    have HA := Lib.hid hall
    have HL := Lib.hid hbl
    clear hall
    by_cases hlt : k < z.length
    · obtain ⟨b, o, rfl, hq⟩ := (h.below hbl).pos hlt
      obtain ⟨c0, c1, c2, c3⟩ := hq
      clear h hbl
      cases hv : neckOk (nthQ z k)
      · have hv' : neckB (nthQ z k).1 (nthQ z k).2.1 (nthQ z k).2.2.1 (nthQ z k).2.2.2 = false := hv
        have HF := Lib.hid (necksN_bad (qall_not hlt hv))
        go_wp2_with fail
        refine call_same (l10Ok_c _ _ _ _ _ _ _ c0 c1 c2 c3) ?_
        go_wp2
        go_ret
        exact ⟨by rw [HF.out]; rfl, HL.out⟩
      · have hv' : neckB (nthQ z k).1 (nthQ z k).2.1 (nthQ z k).2.2.1 (nthQ z k).2.2.2 = true := hv
        go_wp2_with fail
        refine call_same (l10Ok_c _ _ _ _ _ _ _ c0 c1 c2 c3) ?_
        go_wp2
        go_roundw
        case rel => exact ⟨k + 1, by omega, by go_num, HA.out.step hv, HL.out⟩
        case measure => simp [intOf]; omega
    · obtain rfl : k = z.length := by omega
      by_cases hl : (z.length : Int) ≤ 64
      · have HF := Lib.hid (necksN_good HA.out.all hl)
        go_wp2
        go_ret
        exact ⟨by rw [HF.out]; rfl, HL.out⟩
      · have HF := Lib.hid (necksN_long HA.out.all hl)
        go_wp2
        go_ret
        exact ⟨by rw [HF.out]; rfl, HL.out⟩

/-- A neck's numbers within their bounds. -/
def NeckIn (q : Int × Int × Int × Int) : Prop := (0 ≤ q.1 ∧ q.1 ≤ 10000) ∧ (0 ≤ q.2.1 ∧ q.2.1 ≤ 10000) ∧ (0 ≤ q.2.2.1 ∧ q.2.2.1 ≤ 10000) ∧ (0 ≤ q.2.2.2 ∧ q.2.2.2 ≤ 10000)
theorem NeckIn.of {q : Int × Int × Int × Int} (h : neckOk q = true) : NeckIn q := by
  have := neckB_true h
  exact ⟨by omega, by omega, by omega, by omega⟩
/-- How far two necks are apart. -/
def apartF (q r : Int × Int × Int × Int) : Int := distF q.1 r.1 + distF q.2.1 r.2.1 + distF q.2.2.1 r.2.2.1 + distF q.2.2.2 r.2.2.2

theorem l08Abs_c (a b : Int) (w : World) (h1 : -1000000000000 ≤ a ∧ a ≤ 1000000000000) (h2 : -1000000000000 ≤ b ∧ b ≤ 1000000000000) : Calls Try.prog 72 #[.int .i64 (a - b)] w fun e w' => e = .returned (.int .i64 (distF a b)) ∧ w = w' := by
  have hF := Lib.hid (show max (a - b) (-(a - b)) = distF a b by unfold distF; omega)
  go_enter Try.func72, Try.ntmps72
  go_wp2_with (go_at_call 117; refine call_same (l00Max_c _ _ _) ?_)
  go_ret
  exact ⟨by rw [← hF.out]; rfl, rfl⟩
end Go.Proofs.Ytejcglenjhkhhaa
