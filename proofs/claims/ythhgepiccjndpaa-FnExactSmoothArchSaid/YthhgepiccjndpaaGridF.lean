/- A grid of the call's own that is written in place; the reference's copies of rows and of grids. -/
import Derived.Test.YthhgepiccjndpaaOwnG
namespace Go.Proofs.Ythhgepiccjndpaa
open Go.RowKit Go.ChangeShapes Go.WideShapes
set_option linter.unusedVariables false

/-- The block b holds the rows of a grid of g's shape, row j in block r j, whose numbers are f. -/
def GridF (B C : Nat) (w : World) (b : Nat) (r c : Nat → Nat) (g : List (List Int)) (f : Nat → Nat → Int) : Prop :=
  (B ≤ b ∧ b < C) ∧ (∀ j, j < g.length → w.cell? ⟨b, j, none⟩ = some (.slice (some ⟨r j, 0, none⟩) (nthL g j).length (c j)) ∧ (B ≤ r j ∧ r j < C ∧ r j ≠ b) ∧ RowC w (r j) (nthL g j).length (f j)) ∧ (∀ i j, i < j → j < g.length → r i ≠ r j)
theorem GridF.congr {B C : Nat} {w : World} {b : Nat} {r c : Nat → Nat} {g : List (List Int)} {f f' : Nat → Nat → Int} (h : GridF B C w b r c g f) (e : ∀ j, j < g.length → ∀ k, k < (nthL g j).length → f j k = f' j k) : GridF B C w b r c g f' :=
  ⟨h.1, fun j hj => ⟨(h.2.1 j hj).1, (h.2.1 j hj).2.1, (h.2.1 j hj).2.2.congr fun k hk => e j hj k hk⟩, h.2.2⟩
theorem GridF.below {B C : Nat} {w w' : World} {b : Nat} {r c : Nat → Nat} {g : List (List Int)} {f : Nat → Nat → Int} (h : GridF B C w b r c g f) (hC : C ≤ w.heap.size) (hb : Below w.heap.size w w') : GridF B C w' b r c g f :=
  ⟨h.1, fun j hj => ⟨(World.cell?_of_block (w := w) (hb.block b (by have := h.1; omega))).trans (h.2.1 j hj).1, (h.2.1 j hj).2.1, (h.2.1 j hj).2.2.of_block (hb.block _ (by have := (h.2.1 j hj).2.1; omega))⟩, h.2.2⟩
theorem GridF.set {B C : Nat} {w : World} {b : Nat} {r c : Nat → Nat} {g : List (List Int)} {f : Nat → Nat → Int} (h : GridF B C w b r c g f) {i k : Nat} (hi : i < g.length) (hk : k < (nthL g i).length) (u : Int) :
    GridF B C (w.setCell ⟨r i, k, none⟩ (.int .i64 u)) b r c g (fun x y => if x = i ∧ y = k then u else f x y) := by
  have hri := (h.2.1 i hi).2.1
  refine ⟨h.1, fun j hj => ?_, h.2.2⟩
  obtain ⟨e1, e2, e3⟩ := h.2.1 j hj
  refine ⟨(World.cell?_setCell_other _ _ _ _ (by simp)).trans e1, e2, ?_⟩
  by_cases e : j = i
  · subst e
    refine (e3.set hk u).congr fun q _ => ?_
    by_cases hq : q = k <;> simp [hq]
  · have hne : r i ≠ r j := by
      rcases Nat.lt_or_gt_of_ne e with h1 | h1
      · exact fun e' => h.2.2 j i h1 hi e'.symm
      · exact h.2.2 i j h1 hj
    refine (e3.of_block (Below.heap_setCell _ _ _ _ (fun e' => hne e'.symm))).congr fun q _ => ?_
    show f j q = if j = i ∧ q = k then u else f j q
    rw [if_neg (fun h' => e h'.1)]
theorem GridF.gridA {B C : Nat} {w : World} {b : Nat} {r c : Nat → Nat} {g : List (List Int)} {E : Nat × Nat → Int} (h : GridF B C w b r c g (fun i k => E (i, k))) : GridA B C w (some ⟨b, 0, none⟩) (gridG E (lenG g) g.length) := by
  refine .inr ⟨b, r, c, rfl, h.1.1, h.1.2, fun j hj => ?_, ?_⟩
  · rw [gridG_len] at hj
    obtain ⟨e1, e2, e3⟩ := h.2.1 j hj
    rw [gridG_nth hj, rowG_len]
    exact ⟨e1, e2, e3.congr fun k hk => (rowG_nth hk).symm⟩
  · rw [gridG_len]; exact h.2.2
theorem GridA.gridF {B C : Nat} {w : World} {a : Option Addr} {g : List (List Int)} (h : GridA B C w a g) (hg : 0 < g.length) : ∃ b r c, a = some ⟨b, 0, none⟩ ∧ GridF B C w b r c g (fun j => nth (nthL g j)) := by
  rcases h with rfl | ⟨b, r, c, rfl, h1, h2, hc, hd⟩
  · simp at hg
  · exact ⟨b, r, c, rfl, ⟨h1, h2⟩, hc, hd⟩

theorem l00Own_c (a : Option Addr) (cap : Nat) (zs : List Int) (w : World) (h : Nums .i64 w a zs) (h1 : 1 ≤ zs.length) (h2 : zs.length ≤ 1048576) :
    Calls Try.prog 91 #[.slice a zs.length cap] w fun e w' => ∃ v, e = .returned v ∧ (OwnI w.heap.size w' v zs ∧ Below w.heap.size w w') := by
  obtain ⟨i0, hi, hz0, hz1, hz2⟩ := info_parts infoI'
  obtain ⟨b, o, rfl, hb, _⟩ := h.pos (j := 0) (by omega)
  have hnews : ∀ j x, (zs.map (Value.int .i64))[j]? = some x → (w.alloc (.cells #[] 2)).cell? ((⟨b, o, none⟩ : Addr).add j) = some x := by
    intro j x hj
    rw [List.getElem?_map] at hj
    by_cases hl : j < zs.length
    · obtain ⟨b', o', he, _, hc⟩ := h.pos hl
      obtain ⟨rfl, rfl⟩ : b = b' ∧ o = o' := by simpa using he
      rw [add_at, World.cell?_alloc_past _ _ _ hb, hc]
      simp [hl] at hj
      rw [nth_eq hl, hj]
    · simp [hl] at hj
  have HW := Lib.hid hnews
  clear h hnews
  go_enter Try.func91, Try.ntmps91
  go_wp2_with (at_builtin; refine wpList_append_own _ rfl _ _ 35 rfl w.heap.size 2 i0 (.int .i64 0) 1 8 Try.underlying35 hi hz0 hz1 hz2 rfl (by decide) _ 0 [] rfl (World.ownsRow_made w #[] 0 (Nat.le_refl _) (Nat.zero_le _) rfl) ⟨b, o, none⟩ zs.length cap (zs.map (Value.int .i64)) rfl (by simp) HW.out ?c2 ?c3 ?c4 ?c5 ?_)
  case c2 => intro u hu; simp at hu; obtain ⟨q, _, rfl⟩ := hu; rfl
  case c3 => unfold maxLen; omega
  case c4 => omega
  case c5 => simp
  · intro v' w1 hown' hgrow hnil
    have hb1 : Below w.heap.size w w1 := below_grown ((Below.refl _ _).alloc (Nat.le_refl _) _) (by simp) hgrow fun q hq => by simp [Value.ownBlock] at hq; omega
    have HX := Lib.hid (show OwnI w.heap.size w1 v' zs from ⟨by simpa using hown', hnil⟩)
    have HY := Lib.hid hb1
    clear hown' hgrow hnil hb1
    go_wp2
    go_ret
    exact ⟨_, rfl, HX.out, HY.out⟩
end Go.Proofs.Ythhgepiccjndpaa
