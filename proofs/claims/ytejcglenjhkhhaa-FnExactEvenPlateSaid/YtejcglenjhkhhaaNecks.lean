/- Slices of necks: the laws' size, copy and comparison; the list's test. -/
import Derived.Test.YtejcglenjhkhhaaQuads
import Derived.Test.YtejcglenjhkhhaaNeck
namespace Go.Proofs.Ytejcglenjhkhhaa
open Go.RowKit Go.ChangeShapes Go.WideShapes Go.Deep

theorem szNeckS_c (a : Option Addr) (n cap : Nat) (l : Int) (w : World) (hn : n ≤ 9223372036854775807) (h0 : 0 ≤ l) (h1 : l ≤ 1048576) :
    Calls Try.prog 45 #[.slice a n cap, .int .i64 l] w fun e w' => e = .returned (.int .i64 (if (n : Int) ≤ l then l - n else -1)) ∧ w = w' := by
  by_cases h : (n : Int) ≤ l
  · rw [if_pos h]
    go_enter Try.func45, Try.ntmps45
    go_wp2
    go_ret
    exact ⟨rfl, rfl⟩
  · rw [if_neg h]
    go_enter Try.func45, Try.ntmps45
    go_wp2
    go_ret
    exact ⟨rfl, rfl⟩

theorem infoNeck : (Try.prog.info? 97).map (fun i => (i.zero, i.size, i.bytes)) = some (some (.agg #[.int .i64 0, .int .i64 0, .int .i64 0, .int .i64 0]), 4, 32) := by kernel_rfl

theorem toNeckS_c (a : Option Addr) (cap : Nat) (z : List (Int × Int × Int × Int)) (w : World) (h : Quads w a z) (hn : z.length ≤ 1048576) :
    Calls Try.prog 47 #[.slice a z.length cap] w fun e w' => e = .returned (.slice (some ⟨w.heap.size, 0, none⟩) z.length z.length) ∧
      (w'.rowIs w.heap.size 97 (z.length * 4) (cellQ z z.length) ∧ Below w.heap.size w w') := by
  have hmk := run_make4 (P := Try.prog) 57 97 (.int .i64 0) 32 Try.underlying57 infoNeck rfl .i64 .i64 z.length (by omega) (by omega)
  go_enter Try.func47, Try.ntmps47
  go_wp2
  go_loopw [4] (fun i wr => ∃ k : Nat, k ≤ z.length ∧ i = .int .i64 k ∧ wr.rowIs w.heap.size 97 (z.length * 4) (cellQ z k) ∧ Below w.heap.size w wr) (fun i _ => z.length - (intOf i).toNat)
  case atStart => exact ⟨0, Nat.zero_le _, rfl, quad_made w 97 z.length z, (Below.refl _ _).alloc (Nat.le_refl _) _⟩
  case round =>
    obtain ⟨k, hk, rfl, hcp, hbl⟩ := hrel
    clear hmk
    by_cases hlt : k < z.length
    · obtain ⟨b, o, rfl, hq⟩ := (h.below hbl).pos hlt
      obtain ⟨c0, c1, c2, c3⟩ := hq
      have HCP := Lib.hid hcp
      clear hcp h
      go_wp2_with fail
      refine call_below (toNeck_c _ _ _ _ _) ?_
      intro w2 hb2
      have hcp2 : w2.rowIs w.heap.size 97 (z.length * 4) (cellQ z k) := HCP.out.of_block (hb2.block _ HCP.out.lt)
      have d0 := hcp2.cell (i := k * 4) (by omega)
      have d1 := hcp2.cell (i := k * 4 + 1) (by omega)
      have d2 := hcp2.cell (i := k * 4 + 2) (by omega)
      have d3 := hcp2.cell (i := k * 4 + 3) (by omega)
      have f0 := hcp2.frozen (k * 4)
      have f1 := hcp2.frozen (k * 4 + 1)
      have f2 := hcp2.frozen (k * 4 + 2)
      have f3 := hcp2.frozen (k * 4 + 3)
      have hst := quad_step hcp2
      have hbl2 := below_next hbl hb2
      have HC := Lib.hid hst
      have HB := Lib.hid hbl2
      clear hst hcp2 hbl hbl2 hb2
      go_wp2
      go_roundw
      case rel => exact ⟨k + 1, by omega, by go_num, HC.out, by first | exact (((HB.out.setCell (Nat.le_refl _) _).setCell (Nat.le_refl _) _).setCell (Nat.le_refl _) _).setCell (Nat.le_refl _) _⟩
      case measure => simp [intOf]; omega
    · obtain rfl : k = z.length := by omega
      go_wp2
      go_ret
      exact ⟨rfl, hcp, hbl⟩

theorem eqNeck_c (p l g s : Int) (w : World) : Calls Try.prog 107 #[.agg #[.int .i64 p, .int .i64 l, .int .i64 g, .int .i64 s], .agg #[.int .i64 p, .int .i64 l, .int .i64 g, .int .i64 s]] w fun e w' => e = .returned (.bool true) ∧ Below w.heap.size w w' := by
  go_enter Try.func107, Try.ntmps107
  go_wp2
  go_returns
  exact ⟨rfl, by go_grown⟩

theorem eqNeckS_c (a b : Option Addr) (ca cb : Nat) (z : List (Int × Int × Int × Int)) (w : World) (h1 : Quads w a z) (h2 : Quads w b z) (hn : z.length ≤ 1048576) :
    Calls Try.prog 49 #[.slice a z.length ca, .slice b z.length cb] w fun e w' => e = .returned (.bool true) ∧ Below w.heap.size w w' := by
  go_enter Try.func49, Try.ntmps49
  go_wp2
  go_loopw [5] (fun i wr => ∃ k : Nat, k ≤ z.length ∧ i = .int .i64 k ∧ Below w.heap.size w wr) (fun i _ => z.length - (intOf i).toNat)
  case atStart => exact ⟨0, Nat.zero_le _, rfl, Below.refl _ _⟩
  case round =>
    obtain ⟨k, hk, rfl, hbl⟩ := hrel
    by_cases hlt : k < z.length
    · obtain ⟨ba, oa, rfl, qa⟩ := (h1.below hbl).pos hlt
      obtain ⟨bb, ob, rfl, qb⟩ := (h2.below hbl).pos hlt
      have HQ := Lib.hid (And.intro qa qb)
      have HL := Lib.hid hbl
      obtain ⟨a0, a1, a2, a3⟩ := qa
      obtain ⟨b0, b1, b2, b3⟩ := qb
      have hi0 : (0 : Int) ≤ (k : Int) := by omega
      have hi1 : (k : Int) < (z.length : Int) := by omega
      clear h1 h2 hbl
      go_wp2_with fail
      go_region_held3 (fun w' => w'.cell? ⟨ba, oa + k * 4, none⟩ = some (.int .i64 (nthQ z k).1) ∧ w'.cell? ⟨ba, oa + k * 4 + 1, none⟩ = some (.int .i64 (nthQ z k).2.1) ∧ w'.cell? ⟨ba, oa + k * 4 + 2, none⟩ = some (.int .i64 (nthQ z k).2.2.1) ∧ w'.cell? ⟨ba, oa + k * 4 + 3, none⟩ = some (.int .i64 (nthQ z k).2.2.2) ∧
          w'.cell? ⟨bb, ob + k * 4, none⟩ = some (.int .i64 (nthQ z k).1) ∧ w'.cell? ⟨bb, ob + k * 4 + 1, none⟩ = some (.int .i64 (nthQ z k).2.1) ∧ w'.cell? ⟨bb, ob + k * 4 + 2, none⟩ = some (.int .i64 (nthQ z k).2.2.1) ∧ w'.cell? ⟨bb, ob + k * 4 + 3, none⟩ = some (.int .i64 (nthQ z k).2.2.2) ∧ Below wr.heap.size wr w')
        (first | exact keepQQ HQ.out.1 HQ.out.2 (Below.refl _ _).drew | exact keepQQ HQ.out.1 HQ.out.2 (below_next (Below.refl _ _).drew hb2) | go_keep)
        (first | (go_at_call 107; refine call_below (eqNeck_c _ _ _ _ _) ?_; intro w2 hb2))
      go_wp2
      go_roundw
      case rel => exact ⟨k + 1, by omega, by go_num, below_next HL.out (below_next (Below.refl _ _).drew hb2)⟩
      case measure => simp [intOf]; omega
    · go_wp2
      go_ret
      exact ⟨rfl, hbl⟩
end Go.Proofs.Ytejcglenjhkhhaa
