/- A row of integers that a call hands back: the laws mark it and look at the marks again. -/
import Derived.Test.YtlenihncfhemkaaOwnInts
namespace Go.Proofs.Ytlenihncfhemkaa
open Go.RowKit Go.ChangeShapes Go.WideShapes

/-- Nothing has turned but cells of the blocks from B up to C. -/
structure Mid (B C : Nat) (w w' : World) : Prop where
  os : w'.os = w.os
  tape : w'.tape = w.tape
  output : w'.output = w.output
  size : w'.heap.size = w.heap.size
  block : ∀ k, ¬ (B ≤ k ∧ k < C) → w'.heap[k]? = w.heap[k]?
theorem Mid.refl (B C : Nat) (w : World) : Mid B C w w := ⟨rfl, rfl, rfl, rfl, fun _ _ => rfl⟩
theorem Mid.setCell {B C : Nat} {a w : World} (h : Mid B C a w) {p : Addr} (h1 : B ≤ p.block) (h2 : p.block < C) (u : Value) : Mid B C a (w.setCell p u) :=
  ⟨h.os, h.tape, h.output, by simp [h.size], fun k hk => (Below.heap_setCell _ _ _ _ (by rintro rfl; exact hk ⟨h1, h2⟩)).trans (h.block k hk)⟩
theorem Mid.drewN {B C : Nat} {a w : World} (h : Mid B C a w) (n : Nat) : Mid B C a (w.drewN n) := ⟨h.os, h.tape, h.output, h.size, h.block⟩
theorem Mid.below {B C : Nat} {w w' : World} (h : Mid B C w w') : Below B w w' := ⟨h.os, h.tape, h.output, by rw [h.size]; exact Nat.le_refl _, fun k hk => h.block k (by omega)⟩
theorem Mid.wide {B C D E : Nat} {w w' : World} (h : Mid B C w w') (h1 : D ≤ B) (h2 : C ≤ E) : Mid D E w w' := ⟨h.os, h.tape, h.output, h.size, fun k hk => h.block k (by omega)⟩
theorem Mid.cell {B C : Nat} {w w' : World} (h : Mid B C w w') {p : Addr} (hp : C ≤ p.block) : w'.cell? p = w.cell? p := World.cell?_of_block (w := w) (h.block p.block (by omega))
theorem Mid.frozen {B C : Nat} {w w' : World} (h : Mid B C w w') {p : Addr} (hp : C ≤ p.block) : w'.frozen? p = w.frozen? p := World.frozen?_of_block (w := w) (h.block p.block (by omega))

/-- Cells of one row that may be written. -/
def RowC (w : World) (b : Nat) (n : Nat) (f : Nat → Int) : Prop := ∀ j, j < n → w.cell? ⟨b, j, none⟩ = some (.int .i64 (f j)) ∧ w.frozen? ⟨b, j, none⟩ = false
theorem RowC.of_block {w w' : World} {b n : Nat} {f : Nat → Int} (h : RowC w b n f) (hb : w'.heap[b]? = w.heap[b]?) : RowC w' b n f := fun j hj =>
  ⟨(World.cell?_of_block (w := w) hb).trans (h j hj).1, (World.frozen?_of_block (w := w) hb).trans (h j hj).2⟩
theorem RowC.set {w : World} {b n : Nat} {f : Nat → Int} (h : RowC w b n f) {i : Nat} (hi : i < n) (u : Int) : RowC (w.setCell ⟨b, i, none⟩ (.int .i64 u)) b n (fun j => if j = i then u else f j) := by
  intro j hj
  constructor
  · by_cases e : j = i
    · subst e
      simp only [if_true]
      exact World.cell?_setCell_same _ _ _ (h j hj).1
    · simp only [if_neg e]
      exact (World.cell?_setCell_other _ _ _ _ (by simp)).trans (h j hj).1
  · have := (h j hj).2
    simpa using this
theorem RowC.of_row {w : World} {b n : Nat} {t : TypeId} {f : Nat → Int} (h : w.rowIs b t n (fun j => .int .i64 (f j))) : RowC w b n f := fun j hj => ⟨h.cell hj, h.frozen j⟩

/-- A slice at 'a' that reads as the list, in a block from B up to C. -/
def RowA (B C : Nat) (w : World) (a : Option Addr) (zs : List Int) : Prop := zs = [] ∨ ∃ b, a = some ⟨b, 0, none⟩ ∧ B ≤ b ∧ b < C ∧ RowC w b zs.length (nth zs)
theorem RowA.nums {B C : Nat} {w : World} {a : Option Addr} {zs : List Int} (h : RowA B C w a zs) : Nums .i64 w a zs := by
  rcases h with rfl | ⟨b, rfl, _, _, hc⟩
  · exact .inl rfl
  · exact .inr ⟨b, 0, rfl, fun j hj => by rw [Nat.zero_add]; exact (hc j hj).1⟩
theorem RowA.below {B C : Nat} {w w' : World} {a : Option Addr} {zs : List Int} (h : RowA B C w a zs) (hC : C ≤ w.heap.size) (hb : Below w.heap.size w w') : RowA B C w' a zs := by
  rcases h with rfl | ⟨b, rfl, h1, h2, hc⟩
  · exact .inl rfl
  · exact .inr ⟨b, rfl, h1, h2, hc.of_block (hb.block _ (by omega))⟩
theorem RowA.mid {B C D E : Nat} {w w' : World} {a : Option Addr} {zs : List Int} (h : RowA B C w a zs) (hb : Mid D E w w') (hd : E ≤ B ∨ C ≤ D) : RowA B C w' a zs := by
  rcases h with rfl | ⟨b, rfl, h1, h2, hc⟩
  · exact .inl rfl
  · exact .inr ⟨b, rfl, h1, h2, hc.of_block (hb.block _ (by omega))⟩
theorem OwnI.rowA {B : Nat} {w : World} {v : Value} {zs : List Int} (h : OwnI B w v zs) : ∃ a cap, v = .slice a zs.length cap ∧ RowA B w.heap.size w a zs := by
  obtain ⟨h, hn⟩ := h
  rcases h.2 with ⟨rfl, _⟩ | ⟨b, cap, cur, rfl, hb, hh, hnc, _, hcs, _⟩
  · exact absurd rfl hn
  · refine ⟨_, _, rfl, .inr ⟨b, rfl, hb, (h.lt b rfl).2, fun j hj => ⟨?_, ?_⟩⟩⟩
    · have := h.cells (g := b) rfl j (.int .i64 (nth zs j)) (by simp [nth, hj])
      rwa [add_at, Nat.zero_add] at this
    · simp [World.frozen?, hh]

/-- The marks from k on. -/
def marksF (k : Int) (n : Nat) : List Int := (List.range n).map fun (j : Nat) => k + (j : Int)
theorem marksF_len (k : Int) (n : Nat) : (marksF k n).length = n := by simp [marksF]
theorem marksF_nth {k : Int} {n j : Nat} (h : j < n) : nth (marksF k n) j = k + j := by simp [nth, marksF, List.getD_eq_getElem?_getD, h]

end Go.Proofs.Ytlenihncfhemkaa
