/- The plates that the reference draws: what matters is that they are grids in memory of their own, small ones. -/
import Derived.Test.YtlenihncfhemkaaDraw
import Derived.Test.YtlenihncfhemkaaOwnG
namespace Go.Proofs.Ytlenihncfhemkaa
open Go.RowKit Go.ChangeShapes Go.WideShapes
set_option linter.unusedVariables false

theorem only_grown {b : Nat} {a w w' : World} {row : Option Nat} (h : Only b a w) (hg : w.grownBy w' row) (hrow : ∀ k, row = some k → a.heap.size ≤ k) : Only b a w' :=
  ⟨hg.os.trans h.os, hg.tape.trans h.tape, hg.output.trans h.output, Nat.le_trans h.size hg.size, fun k hk hne => (hg.block k (Nat.lt_of_lt_of_le hk h.size) (fun e => by have := hrow k e.symm; omega)).trans (h.block k hk hne)⟩
theorem own_only {B b : Nat} {w w' : World} {e : TypeId} {size n : Nat} {v : Value} {xs : List Value} (h : w.ownsRow B e size v n xs) (ho : Only b w w') (hb : b < B) : w'.ownsRow B e size v n xs :=
  h.kept (row := some b) ⟨ho.os, ho.tape, ho.output, ho.size, fun k hk hne => ho.block k hk (fun e => hne (by rw [e]))⟩ (.inr fun e => by have := (h.lt b e).1; omega)
theorem OwnI.only {B b : Nat} {w w' : World} {v : Value} {zs : List Int} (h : OwnI B w v zs) (ho : Only b w w') (hb : b < B) : OwnI B w' v zs := ⟨own_only h.1 ho hb, h.2⟩
theorem OwnG.only {B C b : Nat} {w w' : World} {v : Value} {g : List (List Int)} (h : OwnG B C w v g) (hC : C ≤ w.heap.size) (ho : Only b w w') (hb : b < B) : OwnG B C w' v g := by
  obtain ⟨r, c, h, hn, hr, hd, hv⟩ := h
  exact ⟨r, c, own_only h ho hb, hn, fun j hj => ⟨(hr j hj).1, (hr j hj).2.1, (hr j hj).2.2.of_block (ho.block _ (by have := (hr j hj).1; omega) (by have := (hr j hj).1; omega))⟩, hd, hv⟩
theorem GridA.only {B C b : Nat} {w w' : World} {a : Option Addr} {g : List (List Int)} (h : GridA B C w a g) (hC : C ≤ w.heap.size) (ho : Only b w w') (hb : b < B) : GridA B C w' a g :=
  h.keep fun k h1 h2 => ho.block k (by omega) (by omega)
/-- The source, behind an append to a row of the call's own. -/
theorem Src.grown {b : Nat} {w0 w w' : World} {a : Option Addr} {cap : Nat} {z : List Int} {n0 n : Int} {row : Option Nat} (h0 : Src b w0 a cap z n0) (h : Src b w a cap z n) (hg : w.grownBy w' row) (hne : row ≠ some b) (ho : Only b w0 w') : Src b w' a cap z n := by
  have hlt := h.lt
  have hk : w'.heap[b]? = w.heap[b]? := hg.block b hlt (fun e => hne e.symm)
  obtain ⟨⟨c0, c1, s, c2⟩, ⟨f1, f2⟩, _, hB, ha⟩ := h
  refine ⟨⟨(World.cell?_of_block (w := w) hk).trans c0, (World.cell?_of_block (w := w) hk).trans c1, s, (World.cell?_of_block (w := w) hk).trans c2⟩, ⟨(World.frozen?_of_block (w := w) hk).trans f1, (World.frozen?_of_block (w := w) hk).trans f2⟩, ?_, hB, ha⟩
  obtain ⟨-, -, hz, -, ha0⟩ := h0
  rcases hz with rfl | ⟨b2, o2, rfl, hc⟩
  · exact .inl rfl
  · refine .inr ⟨b2, o2, rfl, fun j hj => ?_⟩
    have h1 := hc j hj
    exact (ho.cell (p := ⟨b2, o2 + j, none⟩) (World.block_lt_of_cell? _ _ h1) (show b2 ≠ b from ha0 (by omega) ⟨b2, o2, none⟩ rfl)).trans h1
/-- A grid of rows of one length. -/
def Even (g : List (List Int)) (c : Nat) : Prop := ∀ j, j < g.length → (nthL g j).length = c
theorem Even.nil (c : Nat) : Even [] c := fun j hj => absurd hj (Nat.not_lt_zero _)
theorem Even.snoc {g : List (List Int)} {c : Nat} (h : Even g c) {row : List Int} (hr : row.length = c) : Even (g ++ [row]) c := fun j hj => by
  simp only [List.length_append, List.length_singleton] at hj
  by_cases h1 : j < g.length
  · rw [nthL_left h1]; exact h j h1
  · obtain rfl : j = g.length := by omega
    rw [nthL_last]; exact hr
theorem small_of {g : List (List Int)} (h : g.length ≤ 100) (hr : ∀ j, j < g.length → (nthL g j).length ≤ 100) : Small g := by
  have key : ∀ i, i ≤ g.length → sumL g i ≤ 100 * i := by
    intro i
    induction i with
    | zero => intro _; simp [sumL]
    | succ i ih =>
      intro hi
      have h1 := ih (by omega)
      have h2 := hr i (by omega)
      simp only [sumL]
      omega
  have := key _ (Nat.le_refl _)
  unfold Small
  omega

end Go.Proofs.Ytlenihncfhemkaa
