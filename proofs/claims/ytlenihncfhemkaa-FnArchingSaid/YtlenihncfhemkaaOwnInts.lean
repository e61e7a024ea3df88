/- A row of integers that a call has made itself by append, read. -/
import Derived.Test.YtlenihncfhemkaaOwn
namespace Go.Proofs.Ytlenihncfhemkaa
open Go.RowKit Go.ChangeShapes Go.WideShapes

/-- The slice v owns the list zs, in blocks from B on. -/
def OwnI (B : Nat) (w : World) (v : Value) (zs : List Int) : Prop := w.ownsRow B 2 1 v zs.length (zs.map (Value.int .i64)) ∧ v ≠ .slice none 0 0
theorem OwnI.form {B : Nat} {w : World} {v : Value} {zs : List Int} (h : OwnI B w v zs) :
    ∃ b cap, v = .slice (some ⟨b, 0, none⟩) zs.length cap ∧ B ≤ b ∧ b < w.heap.size ∧ Nums .i64 w (some ⟨b, 0, none⟩) zs := by
  obtain ⟨h, hn⟩ := h
  rcases h.2 with ⟨rfl, _⟩ | ⟨b, cap, cur, rfl, hb, _⟩
  · exact absurd rfl hn
  · refine ⟨b, cap, rfl, hb, (h.lt b rfl).2, .inr ⟨b, 0, rfl, fun j hj => ?_⟩⟩
    have := h.cells (g := b) rfl j (.int .i64 (nth zs j)) (by simp [nth, hj])
    rwa [add_at] at this
theorem OwnI.lt {B : Nat} {w : World} {v : Value} {zs : List Int} (h : OwnI B w v zs) : ∀ k, v.ownBlock = some k → B ≤ k := fun k hk => (h.1.lt k hk).1
/-- What the row is behind an append of one number. -/
theorem OwnI.snoc {B : Nat} {w : World} {v : Value} {zs : List Int} {n : Int} (h : w.ownsRow B 2 1 v (zs.length + 1) (zs.map (Value.int .i64) ++ [.int .i64 n])) (hn : v ≠ .slice none 0 0) : OwnI B w v (zs ++ [n]) :=
  ⟨by simpa using h, hn⟩
theorem own_below {B : Nat} {w w' : World} {e : TypeId} {size n : Nat} {v : Value} {xs : List Value} (h : w.ownsRow B e size v n xs) (hb : Below w.heap.size w w') : w'.ownsRow B e size v n xs :=
  h.kept (row := none) ⟨hb.os, hb.tape, hb.output, hb.size, fun k hk _ => hb.block k hk⟩ (by cases v.ownBlock <;> simp)
theorem OwnI.below {B : Nat} {w w' : World} {v : Value} {zs : List Int} (h : OwnI B w v zs) (hb : Below w.heap.size w w') : OwnI B w' v zs := ⟨own_below h.1 hb, h.2⟩
theorem infoI' : (Try.prog.info? 2).map (fun i => (i.zero, i.size, i.bytes)) = some (some (.int .i64 0), 1, 8) := by kernel_rfl
end Go.Proofs.Ytlenihncfhemkaa
