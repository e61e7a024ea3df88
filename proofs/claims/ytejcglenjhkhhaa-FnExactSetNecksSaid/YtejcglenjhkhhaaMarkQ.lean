/- Slices of structs of four integers that the laws have copied: the laws mark them. -/
import Derived.Test.YtejcglenjhkhhaaMark
import Derived.Test.YtejcglenjhkhhaaQuads
namespace Go.Proofs.Ytejcglenjhkhhaa
open Go.RowKit Go.ChangeShapes Go.WideShapes Go.Deep

/-- A slice at 'a' of structs that the laws' copy has laid, in a block from B up to C. -/
def QuadA (T : TypeId) (B C : Nat) (w : World) (a : Option Addr) (z : List (Int × Int × Int × Int)) : Prop := ∃ b, a = some ⟨b, 0, none⟩ ∧ B ≤ b ∧ b < C ∧ w.rowIs b T (z.length * 4) (cellQ z z.length)
theorem QuadA.of_row {T : TypeId} {b : Nat} {w : World} {z : List (Int × Int × Int × Int)} (h : w.rowIs b T (z.length * 4) (cellQ z z.length)) : QuadA T b w.heap.size w (some ⟨b, 0, none⟩) z := ⟨b, rfl, Nat.le_refl _, h.lt, h⟩
theorem QuadA.quads {T : TypeId} {B C : Nat} {w : World} {a : Option Addr} {z : List (Int × Int × Int × Int)} (h : QuadA T B C w a z) : Quads w a z := by
  obtain ⟨b, rfl, _, _, h⟩ := h
  exact Quads.row h
theorem QuadA.below {T : TypeId} {B C : Nat} {w w' : World} {a : Option Addr} {z : List (Int × Int × Int × Int)} (h : QuadA T B C w a z) (hC : C ≤ w.heap.size) (hb : Below w.heap.size w w') : QuadA T B C w' a z := by
  obtain ⟨b, rfl, h1, h2, h⟩ := h
  exact ⟨b, rfl, h1, h2, h.of_block (hb.block _ (by omega))⟩
/-- A row of n cells that may be written, whatever they hold. -/
def Open4 (T : TypeId) (w : World) (b n : Nat) : Prop := ∃ f : Nat → Value, w.rowIs b T n f
theorem Open4.set {T : TypeId} {w : World} {b n : Nat} (h : Open4 T w b n) (i : Nat) (u : Value) : Open4 T (w.setCell ⟨b, i, none⟩ u) b n := by
  obtain ⟨f, h⟩ := h
  exact ⟨_, h.set i u⟩
theorem markCordS_c (T : TypeId) (B C : Nat) (a : Option Addr) (cap : Nat) (z : List (Int × Int × Int × Int)) (k : Int) (w : World) (h : QuadA T B C w a z) (hn : z.length ≤ 1048576) (h0 : 0 ≤ k) (h1 : k ≤ 1000000) :
    Calls Try.prog 42 #[.slice a z.length cap, .int .i64 k] w fun e w' => e = .returned (.int .i64 (k + 4 * z.length)) ∧ Mid B C w w' := by
  obtain ⟨b, rfl, hB, hC, hr⟩ := h
  have HO := Lib.hid (show Open4 T w b (z.length * 4) from ⟨_, hr⟩)
  clear hr
  go_enter Try.func42, Try.ntmps42
  go_wp2
  go_loopw [1, 5] (fun q i wr => ∃ c : Nat, c ≤ z.length ∧ i = .int .i64 c ∧ q = .int .i64 (k + 4 * c) ∧ Open4 T wr b (z.length * 4) ∧ Mid B C w wr) (fun _ i _ => z.length - (intOf i).toNat)
  case atStart => exact ⟨0, Nat.zero_le _, rfl, by simp, HO.out, Mid.refl _ _ _⟩
  case round =>
    obtain ⟨c, hcl, rfl, rfl, hop, hmid⟩ := hrel
    have HM := Lib.hid hmid
    have HP := Lib.hid hop
    clear hmid HO
    by_cases hlt : c < z.length
    · obtain ⟨f, hf⟩ := hop
      have d0 := hf.cell (i := c * 4) (by omega)
      have d1 := hf.cell (i := c * 4 + 1) (by omega)
      have d2 := hf.cell (i := c * 4 + 2) (by omega)
      have d3 := hf.cell (i := c * 4 + 3) (by omega)
      have f0 := hf.frozen (c * 4)
      have f1 := hf.frozen (c * 4 + 1)
      have f2 := hf.frozen (c * 4 + 2)
      have f3 := hf.frozen (c * 4 + 3)
      clear hf
      go_wp2
      go_roundw
      case rel => exact ⟨c + 1, by omega, by go_num, by congr 1; omega, (((HP.out.set _ _).set _ _).set _ _).set _ _, (((HM.out.setCell hB hC _).setCell hB hC _).setCell hB hC _).setCell hB hC _⟩
      case measure => simp [intOf]; omega
    · obtain rfl : c = z.length := by omega
      clear hop
      go_wp2
      go_ret
      exact ⟨rfl, HM.out⟩
theorem markNeckS_c (T : TypeId) (B C : Nat) (a : Option Addr) (cap : Nat) (z : List (Int × Int × Int × Int)) (k : Int) (w : World) (h : QuadA T B C w a z) (hn : z.length ≤ 1048576) (h0 : 0 ≤ k) (h1 : k ≤ 1000000) :
    Calls Try.prog 50 #[.slice a z.length cap, .int .i64 k] w fun e w' => e = .returned (.int .i64 (k + 4 * z.length)) ∧ Mid B C w w' := by
  obtain ⟨b, rfl, hB, hC, hr⟩ := h
  have HO := Lib.hid (show Open4 T w b (z.length * 4) from ⟨_, hr⟩)
  clear hr
  go_enter Try.func50, Try.ntmps50
  go_wp2
  go_loopw [1, 5] (fun q i wr => ∃ c : Nat, c ≤ z.length ∧ i = .int .i64 c ∧ q = .int .i64 (k + 4 * c) ∧ Open4 T wr b (z.length * 4) ∧ Mid B C w wr) (fun _ i _ => z.length - (intOf i).toNat)
  case atStart => exact ⟨0, Nat.zero_le _, rfl, by simp, HO.out, Mid.refl _ _ _⟩
  case round =>
    obtain ⟨c, hcl, rfl, rfl, hop, hmid⟩ := hrel
    have HM := Lib.hid hmid
    have HP := Lib.hid hop
    clear hmid HO
    by_cases hlt : c < z.length
    · obtain ⟨f, hf⟩ := hop
      have d0 := hf.cell (i := c * 4) (by omega)
      have d1 := hf.cell (i := c * 4 + 1) (by omega)
      have d2 := hf.cell (i := c * 4 + 2) (by omega)
      have d3 := hf.cell (i := c * 4 + 3) (by omega)
      have f0 := hf.frozen (c * 4)
      have f1 := hf.frozen (c * 4 + 1)
      have f2 := hf.frozen (c * 4 + 2)
      have f3 := hf.frozen (c * 4 + 3)
      clear hf
      go_wp2
      go_roundw
      case rel => exact ⟨c + 1, by omega, by go_num, by congr 1; omega, (((HP.out.set _ _).set _ _).set _ _).set _ _, (((HM.out.setCell hB hC _).setCell hB hC _).setCell hB hC _).setCell hB hC _⟩
      case measure => simp [intOf]; omega
    · obtain rfl : c = z.length := by omega
      clear hop
      go_wp2
      go_ret
      exact ⟨rfl, HM.out⟩
end Go.Proofs.Ytejcglenjhkhhaa
