/- The decimal form of a number that is not negative: the reference's own. -/
import Derived.Test.YtpklckpnhjhnhaaDoorOwn
import Derived.Lib.ItoaNum
import Derived.Lib.UnsafeStr
import Derived.Lib.VarintMem
import Derived.Laws.IdiomStrings
namespace Go.Proofs.YtpklckpnhjhnhaaDoor
open Go.RowKit Go.ChangeShapes Go.WideShapes
set_option linter.unusedVariables false

/-- The digits of a number, the last first; none of 0. -/
def digs (u : Nat) : List UInt8 :=
  if h : u = 0 then [] else UInt8.ofNat (48 + u % 10) :: digs (u / 10)
termination_by u
decreasing_by omega
theorem digs_zero : digs 0 = [] := by rw [digs]; rfl
theorem digs_step {u : Nat} (h : u ≠ 0) : digs u = UInt8.ofNat (48 + u % 10) :: digs (u / 10) := by rw [digs, dif_neg h]
theorem digs_dec : ∀ (u : Nat), u ≠ 0 → (digs u).reverse = Lib.decDigits u := by
  intro u
  induction u using Nat.strongRecOn with
  | _ u ih =>
    intro h
    rw [digs_step h, List.reverse_cons]
    by_cases h10 : u < 10
    · rw [Lib.decDigits, dif_pos h10, show u / 10 = 0 by omega, digs_zero, show u % 10 = u by omega]; rfl
    · rw [Lib.decDigits, dif_neg h10, ih (u / 10) (by omega) (by omega)]
theorem digs_len : ∀ (k u : Nat), u < 10 ^ k → (digs u).length ≤ k
  | 0, u, h => by
    have : u = 0 := by simpa using h
    rw [this, digs_zero]; simp
  | k + 1, u, h => by
    by_cases h0 : u = 0
    · rw [h0, digs_zero]; simp
    · rw [digs_step h0, List.length_cons]
      have := digs_len k (u / 10) (by rw [Nat.pow_succ] at h; omega)
      omega
theorem wrap8 {a : Int} (h0 : 0 ≤ a) (h1 : a < 256) : IntKind.u8.wrap a = a := by
  unfold IntKind.wrap
  simp [IntKind.bits, IntKind.signed]
  omega
theorem infoU : (Tryd.prog.info? 5).map (fun i => (i.zero, i.size, i.bytes)) = some (some (.int .u8 0), 1, 1) := by kernel_rfl
/-- The slice v owns the bytes l, in blocks from B on. -/
def OwnB (B : Nat) (w : World) (v : Value) (l : List UInt8) : Prop := w.ownsRow B 5 1 v l.length (Lib.byteCells l) ∧ v ≠ .slice none 0 0
theorem OwnB.lt {B : Nat} {w : World} {v : Value} {l : List UInt8} (h : OwnB B w v l) : ∀ k, v.ownBlock = some k → B ≤ k := fun k hk => (h.1.lt k hk).1
theorem OwnB.snoc {B : Nat} {w : World} {v : Value} {l : List UInt8} {a : Nat} (ha : a < 256) (h : w.ownsRow B 5 1 v (l.length + 1) (Lib.byteCells l ++ [.int .u8 (a : Int)])) (hn : v ≠ .slice none 0 0) : OwnB B w v (l ++ [UInt8.ofNat a]) :=
  ⟨by rw [show Lib.byteCells (l ++ [UInt8.ofNat a]) = Lib.byteCells l ++ [Value.int .u8 (a : Int)] from Lib.byteCells_snoc l ha]; simpa using h, hn⟩
theorem ownb_below {B : Nat} {w w' : World} {v : Value} {l : List UInt8} (h : OwnB B w v l) (hb : Below w.heap.size w w') : OwnB B w' v l :=
  ⟨h.1.kept (row := none) ⟨hb.os, hb.tape, hb.output, hb.size, fun k hk _ => hb.block k hk⟩ (by cases v.ownBlock <;> simp), h.2⟩
theorem OwnB.form {B : Nat} {w : World} {v : Value} {l : List UInt8} (h : OwnB B w v l) : ∃ b cap, v = .slice (some ⟨b, 0, none⟩) l.length cap ∧ (B ≤ b ∧ b < w.heap.size) ∧ ∀ j (hj : j < l.length), w.cell? ⟨b, j, none⟩ = some (.int .u8 (l[j].toNat : Int)) := by
  obtain ⟨h, hn⟩ := h
  rcases h.2 with ⟨rfl, _⟩ | ⟨b, cap, cur, rfl, hb, _⟩
  · exact absurd rfl hn
  · refine ⟨b, cap, rfl, ⟨hb, (h.lt b rfl).2⟩, fun j hj => ?_⟩
    have := h.cells (g := b) rfl j (.int .u8 (l[j].toNat : Int)) (by simp [Lib.byteCells, hj])
    rwa [add_at, Nat.zero_add] at this

end Go.Proofs.YtpklckpnhjhnhaaDoor
