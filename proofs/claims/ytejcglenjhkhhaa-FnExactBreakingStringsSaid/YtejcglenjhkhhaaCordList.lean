/- Lists of strings: the program's test and the reference's. -/
import Derived.Test.YtejcglenjhkhhaaCords
namespace Go.Proofs.Ytejcglenjhkhhaa
open Go.RowKit Go.ChangeShapes Go.WideShapes Go.Deep

def cordOk (q : Int × Int × Int × Int) : Bool := cordB q.1 q.2.1 q.2.2.1 q.2.2.2
/-- What the list's test answers. -/
def cordsB (z : List (Int × Int × Int × Int)) : Bool := z.all cordOk && decide ((z.length : Int) ≤ 4)

theorem few_c (n m : Int) (w : World) : Calls Try.prog 121 #[.int .i64 n, .int .i64 m] w fun e w' => e = .returned (.bool (decide (n ≤ m))) ∧ w = w' := by
  go_enter Try.func121, Try.ntmps121
  go_wp2
  go_ret
  exact ⟨rfl, rfl⟩

theorem validCords_c (a : Option Addr) (cap : Nat) (z : List (Int × Int × Int × Int)) (w : World) (h : Quads w a z) (hn : z.length ≤ 1048576) :
    Calls Try.prog 88 #[.slice a z.length cap] w fun e w' => e = .returned (.bool (cordsB z)) ∧ Below w.heap.size w w' := by
  go_enter Try.func88, Try.ntmps88
  go_wp2
  go_loopw [7] (fun i wr => ∃ k : Nat, k ≤ z.length ∧ i = .int .i64 k ∧ QAllTo cordOk z k ∧ Below w.heap.size w wr) (fun i _ => z.length - (intOf i).toNat)
  case atStart => exact ⟨0, Nat.zero_le _, rfl, QAllTo.zero _ _, Below.refl _ _⟩
  case round =>
    obtain ⟨k, hk, rfl, hall, hbl⟩ := hrel
    have HA := Lib.hid hall
    have HL := Lib.hid hbl
    clear hall
    by_cases hlt : k < z.length
    · obtain ⟨b, o, rfl, hq⟩ := (h.below hbl).pos hlt
      obtain ⟨c0, c1, c2, c3⟩ := hq
      clear h hbl
      cases hv : cordOk (nthQ z k)
      · have hv' : cordB (nthQ z k).1 (nthQ z k).2.1 (nthQ z k).2.2.1 (nthQ z k).2.2.2 = false := hv
        have HF := Lib.hid (show cordsB z = false by unfold cordsB; rw [qall_not hlt hv]; rfl)
        go_wp2_with fail
        refine call_below (validString_c _ _ _ _ _) ?_
        intro w2 hb2
        go_wp2
        go_ret
        exact ⟨by rw [HF.out]; rfl, below_next HL.out (below_from hb2)⟩
      · have hv' : cordB (nthQ z k).1 (nthQ z k).2.1 (nthQ z k).2.2.1 (nthQ z k).2.2.2 = true := hv
        go_wp2_with fail
        refine call_below (validString_c _ _ _ _ _) ?_
        intro w2 hb2
        go_wp2
        go_roundw
        case rel => exact ⟨k + 1, by omega, by go_num, HA.out.step hv, below_next HL.out (below_from hb2)⟩
        case measure => simp [intOf]; omega
    · obtain rfl : k = z.length := by omega
      have HF := Lib.hid (show cordsB z = decide ((z.length : Int) ≤ 4) by unfold cordsB; rw [HA.out.all]; simp)
      go_wp2_with (go_at_call 121; refine call_same (few_c _ _ _) ?_)
      go_ret
      exact ⟨by simp [HF.out], HL.out⟩

theorem l09List_c (a : Option Addr) (cap : Nat) (z : List (Int × Int × Int × Int)) (w : World) (h : Quads w a z) (hn : z.length ≤ 1048576) :
    Calls Try.prog 84 #[.slice a z.length cap] w fun e w' => e = .returned (.bool (cordsB z)) ∧ Below w.heap.size w w' := by
  go_enter Try.func84, Try.ntmps84
  go_wp2
  go_loopw [3] (fun i wr => ∃ k : Nat, k ≤ z.length ∧ i = .int .i64 k ∧ QAllTo cordOk z k ∧ Below w.heap.size w wr) (fun i _ => z.length - (intOf i).toNat)
  case atStart => exact ⟨0, Nat.zero_le _, rfl, QAllTo.zero _ _, Below.refl _ _⟩
  case round =>
    obtain ⟨k, hk, rfl, hall, hbl⟩ := hrel
    have HA := Lib.hid hall
    have HL := Lib.hid hbl
    clear hall
    by_cases hlt : k < z.length
    · obtain ⟨b, o, rfl, hq⟩ := (h.below hbl).pos hlt
      obtain ⟨c0, c1, c2, c3⟩ := hq
      clear h hbl
      cases hv : cordOk (nthQ z k)
      · have hv' : cordB (nthQ z k).1 (nthQ z k).2.1 (nthQ z k).2.2.1 (nthQ z k).2.2.2 = false := hv
        have HF := Lib.hid (show cordsB z = false by unfold cordsB; rw [qall_not hlt hv]; rfl)
        go_wp2_with fail
        refine call_same (l09One_c _ _ _ _ _ _ _ c0 c1 c2 c3) ?_
        go_wp2
        go_ret
        exact ⟨by rw [HF.out]; rfl, HL.out⟩
      · have hv' : cordB (nthQ z k).1 (nthQ z k).2.1 (nthQ z k).2.2.1 (nthQ z k).2.2.2 = true := hv
        go_wp2_with fail
        refine call_same (l09One_c _ _ _ _ _ _ _ c0 c1 c2 c3) ?_
        go_wp2
        go_roundw
        case rel => exact ⟨k + 1, by omega, by go_num, HA.out.step hv, HL.out⟩
        case measure => simp [intOf]; omega
    · obtain rfl : k = z.length := by omega
      have HF := Lib.hid (show cordsB z = decide ((z.length : Int) ≤ 4) by unfold cordsB; rw [HA.out.all]; simp)
      go_wp2
      go_ret
      exact ⟨by simp [HF.out], HL.out⟩
end Go.Proofs.Ytejcglenjhkhhaa
