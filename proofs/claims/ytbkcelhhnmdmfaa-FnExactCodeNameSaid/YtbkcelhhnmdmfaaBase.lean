/- Plain helpers for this seat's walks: a contract of a callee met at a call; what a slice that came in reads as; cells that a callee has left alone. -/
import Derived.Test.YtbkcelhhnmdmfaaProg
import Derived.Test.YtbkcelhhnmdmfaaMath
import Derived.WalkKit
import Derived.WalkSpells
import Derived.WalkLawsBesides
import Derived.Handy
import Derived.ProofKit
import Derived.Lib.Hide
import Derived.Deep.Matrix
namespace Go.Proofs.Ytbkcelhhnmdmfaa
open Go.RowKit Go.ChangeShapes Go.WideShapes

/-- What a callee has left alone reads as before. -/
theorem bcell {W w1 : World} (hb : Below W.heap.size W w1) : (∀ b o, b < W.heap.size → w1.cell? ⟨b, o, none⟩ = W.cell? ⟨b, o, none⟩) ∧ (∀ b o, b < W.heap.size → w1.frozen? ⟨b, o, none⟩ = W.frozen? ⟨b, o, none⟩) :=
  ⟨fun b o h => hb.cell (p := ⟨b, o, none⟩) h, fun b o h => hb.frozen (p := ⟨b, o, none⟩) h⟩

/-- A contract that leaves the world alone, met at a call. -/
theorem call_same {P : Program} {f : FuncId} {args : Array Value} {w : World} {v : Value} {Q : Ending → World → Prop}
    (c : Calls P f args w fun e w' => e = .returned v ∧ w = w') (k : Q (.returned v) w) : Calls P f args w Q :=
  c.mono fun _ _ ⟨he, hw⟩ => by rw [he, ← hw]; exact k

/-- A contract that at most lays new blocks, met at a call. -/
theorem call_below {P : Program} {f : FuncId} {args : Array Value} {w : World} {v : Value} {Q : Ending → World → Prop}
    (c : Calls P f args w fun e w' => e = .returned v ∧ Below w.heap.size w w') (k : ∀ w', Below w.heap.size w w' → Q (.returned v) w') : Calls P f args w Q :=
  c.mono fun _ w' ⟨he, hb⟩ => by rw [he]; exact k w' hb

theorem below_next {w W W' : World} (h : Below w.heap.size w W) (hb : Below W.heap.size W W') : Below w.heap.size w W' := h.trans (hb.mono h.size)
theorem below_from {w : World} {o : Obj} {W' : World} (h : Below (w.alloc o).heap.size (w.alloc o) W') : Below w.heap.size w W' :=
  ((Below.refl _ _).alloc (Nat.le_refl _) _).trans (h.mono (by simp))
/-- The cells of the block that the call has laid first, read in a later world. -/
theorem box_cell {w : World} {o : Obj} {W' : World} (h : Below (w.alloc o).heap.size (w.alloc o) W') (i : Nat) : W'.cell? ⟨w.heap.size, i, none⟩ = (w.alloc o).cell? ⟨w.heap.size, i, none⟩ :=
  h.cell (p := ⟨w.heap.size, i, none⟩) (by simp)

/-- A slice of integers that came in: nil; or a row of 'cap' cells that holds 'zs'. -/
def IsRow (k : IntKind) (w : World) (a : Option Addr) (len cap : Nat) (zs : List Int) : Prop :=
  (a = none ∧ len = 0 ∧ cap = 0 ∧ zs = []) ∨
  ∃ x, a = some x ∧ len ≤ cap ∧ cap ≤ maxLen ∧ zs.length = cap ∧ (∀ i, i < zs.length → w.cell? (x.add i) = some (.int k (zs.getD i 0))) ∧ ∀ n ∈ zs, (Lit.int k n).wf = true

theorem isRow_open {H : Type} {enc : TypeId × Value → H} {P : Program} {w : World} {base : Nat} {held : Bool} {t e : TypeId} {k : IntKind} {fuel len cap : Nat} {a : Option Addr} {x : DataW H × List MemPlace}
    (ht : P.underlying t = some (.slice e)) (he : P.underlying e = some (.int k)) (hc : P.cellsOf e = 1) (hf : DataW.trod enc P w base (fun _ => true) held fuel t (Value.cells (.slice a len cap)).toList = some x) :
    ∃ zs, IsRow k w a len cap zs := by
  rcases open_ints ht he hc hf with ⟨hcs, _⟩ | ⟨x, l, c, zs, hcs, _, hl, hm, hz, _, hcell, hwz⟩
  · simp [Value.cells] at hcs
    obtain ⟨rfl, rfl, rfl⟩ := hcs
    exact ⟨[], .inl ⟨rfl, rfl, rfl, rfl⟩⟩
  · simp [Value.cells] at hcs
    obtain ⟨rfl, rfl, rfl⟩ := hcs
    exact ⟨zs, .inr ⟨_, rfl, hl, hm, by simpa using hz, hcell, hwz⟩⟩

end Go.Proofs.Ytbkcelhhnmdmfaa
