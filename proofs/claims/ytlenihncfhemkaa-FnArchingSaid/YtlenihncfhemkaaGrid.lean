/- Slices of slices of integers: what is known of one that is read; the laws' size, copy and comparison. -/
import Derived.Test.YtlenihncfhemkaaInts
namespace Go.Proofs.Ytlenihncfhemkaa
open Go.RowKit Go.ChangeShapes Go.WideShapes Go.Deep

/-- Row j, behind a name that the walk does not open. -/
def nthL (g : List (List Int)) (j : Nat) : List Int := g.getD j []
theorem nthL_eq {g : List (List Int)} {j : Nat} (h : j < g.length) : nthL g j = g[j] := by simp [nthL, h]
theorem nthL_mem {g : List (List Int)} {j : Nat} (h : j < g.length) : nthL g j ∈ g := by rw [nthL_eq h]; exact List.getElem_mem h

/-- A slice at 'a' of as many slices as the list reads as the list. -/
def Grid (w : World) (a : Option Addr) (g : List (List Int)) : Prop :=
  g = [] ∨ ∃ b o, a = some ⟨b, o, none⟩ ∧ ∀ j, j < g.length → ∃ ar cr, w.cell? ⟨b, o + j, none⟩ = some (.slice ar (nthL g j).length cr) ∧ Nums .i64 w ar (nthL g j)
theorem Grid.pos {w : World} {a : Option Addr} {g : List (List Int)} (h : Grid w a g) {j : Nat} (hj : j < g.length) :
    ∃ b o, a = some ⟨b, o, none⟩ ∧ b < w.heap.size ∧ ∃ ar cr, w.cell? ⟨b, o + j, none⟩ = some (.slice ar (nthL g j).length cr) ∧ Nums .i64 w ar (nthL g j) := by
  rcases h with rfl | ⟨b, o, rfl, hc⟩
  · simp at hj
  · obtain ⟨ar, cr, h1, h2⟩ := hc j hj
    exact ⟨b, o, rfl, World.block_lt_of_cell? w _ h1, ar, cr, h1, h2⟩
/-- Row j of a grid whose address is known. -/
theorem Grid.at_ {w : World} {b o : Nat} {g : List (List Int)} (h : Grid w (some ⟨b, o, none⟩) g) {j : Nat} (hj : j < g.length) :
    ∃ ar cr, w.cell? ⟨b, o + j, none⟩ = some (.slice ar (nthL g j).length cr) ∧ Nums .i64 w ar (nthL g j) := by
  obtain ⟨b', o', he, _, ar, cr, h1, h2⟩ := h.pos hj
  obtain ⟨rfl, rfl⟩ : b = b' ∧ o = o' := by simpa using he
  exact ⟨ar, cr, h1, h2⟩
theorem Grid.keep {w w' : World} {a : Option Addr} {g : List (List Int)} (h : Grid w a g) (hk : ∀ p : Addr, p.block < w.heap.size → w'.cell? p = w.cell? p) : Grid w' a g := by
  rcases h with rfl | ⟨b, o, rfl, hc⟩
  · exact .inl rfl
  · refine .inr ⟨b, o, rfl, fun j hj => ?_⟩
    obtain ⟨ar, cr, h1, h2⟩ := hc j hj
    exact ⟨ar, cr, (hk _ (World.block_lt_of_cell? w _ h1)).trans h1, h2.keep hk⟩
theorem Grid.below {w w' : World} {a : Option Addr} {g : List (List Int)} (h : Grid w a g) (hb : Below w.heap.size w w') : Grid w' a g :=
  h.keep fun _ hp => hb.cell hp

/-- A slice of slices of integers that came in. -/
theorem grid_open {H : Type} {enc : TypeId × Value → H} {P : Program} {w : World} {base : Nat} {held : Bool} {t e q : TypeId} {fuel len cap : Nat} {a : Option Addr} {x : DataW H × List MemPlace}
    (ht : P.underlying t = some (.slice e)) (he : P.underlying e = some (.slice q)) (hq : P.underlying q = some (.int .i64)) (ce : P.cellsOf e = 1) (cq : P.cellsOf q = 1)
    (hf : DataW.trod enc P w base (fun _ => true) held fuel t (Value.cells (.slice a len cap)).toList = some x) :
    ∃ g : List (List Int), g.length = len ∧ Grid w a g ∧ g.length ≤ maxLen ∧ ∀ j, j < g.length → (nthL g j).length ≤ maxLen := by
  rcases open_int_rows ht he hq ce cq hf with ⟨hcs, _⟩ | ⟨x, l, c, A, L, C, Z, hcs, _, hl, hm, _, hr⟩
  · simp [Value.cells] at hcs
    obtain ⟨rfl, rfl, rfl⟩ := hcs
    exact ⟨[], rfl, .inl rfl, Nat.zero_le _, fun j hj => absurd hj (Nat.not_lt_zero _)⟩
  · simp [Value.cells] at hcs
    obtain ⟨rfl, rfl, rfl⟩ := hcs
    have hrow : ∀ j, j < len → nthL ((List.range len).map fun r => (Z r).take (L r)) j = (Z j).take (L j) := fun j hj => by simp [nthL, List.getD_eq_getElem?_getD, hj]
    have hlen : ∀ j, j < len → ((Z j).take (L j)).length = L j := fun j hj => by
      obtain ⟨_, h1, _, h3, _⟩ := hr j (by omega)
      rw [List.length_take]; omega
    refine ⟨(List.range len).map fun r => (Z r).take (L r), by simp, ?_, by simp; omega, fun j hj => ?_⟩
    · by_cases h0 : len = 0
      · subst h0; exact .inl (by simp)
      · obtain ⟨b, o, s⟩ := x
        obtain ⟨hc0, _⟩ := hr 0 (by omega)
        have hs : s = none := by simpa [Addr.add] using World.cell?_spot hc0
        subst hs
        refine .inr ⟨b, o, rfl, fun j hj => ?_⟩
        have hjl : j < len := by simpa using hj
        obtain ⟨h1, h2, h3, h4, h5, h6, h7⟩ := hr j (by omega)
        rw [add_at] at h1
        refine ⟨A j, C j, by rw [hrow j hjl, hlen j hjl]; exact h1, ?_⟩
        rw [hrow j hjl]
        by_cases hL : L j = 0
        · rw [hL]; exact .inl (by simp)
        · cases hA : A j with
          | none => have := h6 hA; omega
          | some a' =>
            obtain ⟨_, hc⟩ := h7 a' hA
            obtain ⟨b', o', s'⟩ := a'
            have hs' : s' = none := by simpa [Addr.add] using World.cell?_spot (hc 0 (by omega))
            subst hs'
            refine .inr ⟨b', o', rfl, fun i hi => ?_⟩
            rw [hlen j hjl] at hi
            have := hc i (by omega)
            rw [add_at] at this
            have e : nth ((Z j).take (L j)) i = (Z j).getD i 0 := by simp [nth, List.getD_eq_getElem?_getD, hi]
            rw [e]; exact this
    · have hjl : j < len := by simpa using hj
      obtain ⟨_, h2, h3, _⟩ := hr j (by omega)
      rw [hrow j hjl, hlen j hjl]; omega

/-- How many values a grid's first k rows hold. -/
def sumL (g : List (List Int)) : Nat → Nat
  | 0 => 0
  | k + 1 => sumL g k + (nthL g k).length
theorem sumL_ge {g : List (List Int)} {j : Nat} : ∀ {k : Nat}, j < k → (nthL g j).length ≤ sumL g k
  | k + 1, h => by
    simp only [sumL]
    rcases Nat.lt_or_eq_of_le (Nat.le_of_lt_succ h) with h1 | rfl
    · have := sumL_ge (g := g) h1; omega
    · omega
theorem sumL_mono {g : List (List Int)} : ∀ {j k : Nat}, j ≤ k → sumL g j ≤ sumL g k
  | j, 0, h => by rw [Nat.le_zero.1 h]; exact Nat.le_refl _
  | j, k + 1, h => by
    rcases Nat.lt_or_eq_of_le h with h1 | rfl
    · have := sumL_mono (g := g) (Nat.le_of_lt_succ h1); simp only [sumL]; omega
    · exact Nat.le_refl _
/-- A grid small enough for the laws. -/
def Small (g : List (List Int)) : Prop := g.length + sumL g g.length ≤ 1048576
theorem Small.len {g : List (List Int)} (h : Small g) : g.length ≤ 1048576 := by unfold Small at h; omega
theorem Small.row {g : List (List Int)} (h : Small g) {j : Nat} (hj : j < g.length) : (nthL g j).length ≤ 1048576 := by
  unfold Small at h
  have := sumL_ge (g := g) hj
  omega

/-- What the size comes to: what is left of l, or -1. -/
def szF (l : Int) (n : Nat) : Int := if (n : Int) ≤ l then l - n else -1

theorem szF_yes {l : Int} {n : Nat} (h : (n : Int) ≤ l) : szF l n = l - n := if_pos h
theorem szF_no {l : Int} {n : Nat} (h : ¬ (n : Int) ≤ l) : szF l n = -1 := if_neg h

theorem infoS : (Try.prog.info? 26).map (fun i => (i.zero, i.size, i.bytes)) = some (some (.slice none 0 0), 1, 24) := by kernel_rfl

/-- A grid that the laws' copy has laid: the outer row in block B, row j in block B + 1 + j; its first k rows. -/
def Laid (w : World) (B n : Nat) (g : List (List Int)) (k : Nat) : Prop :=
  w.rowIs B 26 n (fun j => if j < k then .slice (some ⟨B + 1 + j, 0, none⟩) (nthL g j).length (nthL g j).length else .slice none 0 0) ∧
  (∀ j, j < k → w.rowIs (B + 1 + j) 2 (nthL g j).length (fun i => .int .i64 (nth (nthL g j) i))) ∧ w.heap.size = B + 1 + k
theorem Laid.below {w w' : World} {B n k : Nat} {g : List (List Int)} (h : Laid w B n g k) (hb : Below w.heap.size w w') :
    w'.rowIs B 26 n (fun j => if j < k then .slice (some ⟨B + 1 + j, 0, none⟩) (nthL g j).length (nthL g j).length else .slice none 0 0) ∧
    (∀ j, j < k → w'.rowIs (B + 1 + j) 2 (nthL g j).length (fun i => .int .i64 (nth (nthL g j) i))) :=
  ⟨h.1.of_block (hb.block _ h.1.lt), fun j hj => (h.2.1 j hj).of_block (hb.block _ (h.2.1 j hj).lt)⟩
theorem Laid.grid {w : World} {B : Nat} {g : List (List Int)} (h : Laid w B g.length g g.length) : Grid w (some ⟨B, 0, none⟩) g :=
  .inr ⟨B, 0, rfl, fun j hj => by
    rw [Nat.zero_add]
    have := h.1.cell hj
    rw [if_pos hj] at this
    exact ⟨_, _, this, Nums.row (h.2.1 j hj)⟩⟩

end Go.Proofs.Ytlenihncfhemkaa
