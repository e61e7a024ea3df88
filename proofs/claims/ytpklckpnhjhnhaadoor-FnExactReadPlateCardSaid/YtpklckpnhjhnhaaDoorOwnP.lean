/- A grid that a call builds by append out of rows that another call has made, some of them perhaps empty. -/
import Derived.Test.YtpklckpnhjhnhaaDoorOwnG
namespace Go.Proofs.YtpklckpnhjhnhaaDoor
open Go.RowKit Go.ChangeShapes Go.WideShapes
set_option linter.unusedVariables false

/-- A row by itself: empty, or in a block of its own from B up to C. -/
def RowFit (B C : Nat) (w : World) (u : Value) (zs : List Int) : Prop :=
  (zs = [] ∧ ∃ a c, u = .slice a 0 c) ∨ ∃ r c, u = .slice (some ⟨r, 0, none⟩) zs.length c ∧ (B ≤ r ∧ r < C) ∧ 1 ≤ zs.length ∧ RowC w r zs.length (nth zs)
theorem RowFit.form {B C : Nat} {w : World} {u : Value} {zs : List Int} (h : RowFit B C w u zs) : ∃ a c, u = .slice a zs.length c ∧ Nums .i64 w a zs := by
  rcases h with ⟨rfl, a, c, rfl⟩ | ⟨r, c, rfl, _, _, hc⟩
  · exact ⟨a, c, rfl, Nums.nil _ _ _⟩
  · exact ⟨_, c, rfl, hc.nums⟩
theorem RowFit.keep {B C : Nat} {w w' : World} {u : Value} {zs : List Int} (h : RowFit B C w u zs) (hb : ∀ r c, u = .slice (some ⟨r, 0, none⟩) zs.length c → 1 ≤ zs.length → w'.heap[r]? = w.heap[r]?) : RowFit B C w' u zs := by
  rcases h with h | ⟨r, c, rfl, h1, h2, hc⟩
  · exact .inl h
  · exact .inr ⟨r, c, rfl, h1, h2, hc.of_block (hb r c rfl h2)⟩
theorem RowFit.lt {B C : Nat} {w : World} {r n c : Nat} {zs : List Int} (h : RowFit B C w (.slice (some ⟨r, 0, none⟩) n c) zs) (h1 : 1 ≤ zs.length) : (B ≤ r ∧ r < C) ∧ n = zs.length ∧ RowC w r zs.length (nth zs) := by
  rcases h with ⟨rfl, _⟩ | ⟨r', c', e, h2, _, hc⟩
  · simp at h1
  · injection e with e1 e2 e3
    injection e1 with e1
    injection e1 with e1
    subst e1
    exact ⟨h2, e2, hc⟩
theorem RowFit.wide {B C D : Nat} {w : World} {u : Value} {zs : List Int} (h : RowFit B C w u zs) (hD : C ≤ D) : RowFit B D w u zs := by
  rcases h with h | ⟨r, c, rfl, h1, h2, hc⟩
  · exact .inl h
  · exact .inr ⟨r, c, rfl, by omega, h2, hc⟩
def valAt (vals : List Value) (j : Nat) : Value := vals.getD j .nilIface
/-- The slice v owns a grid, in blocks from B up to C. -/
def OwnP (B C : Nat) (w : World) (v : Value) (g : List (List Int)) : Prop := ∃ vals : List Value, vals.length = g.length ∧
  w.ownsRow B 52 1 v g.length vals ∧ v ≠ .slice none 0 0 ∧ (∀ j, j < g.length → RowFit B C w (valAt vals j) (nthL g j)) ∧
  (∀ i j, i < j → j < g.length → ∀ r n c n' c', valAt vals i = .slice (some ⟨r, 0, none⟩) n c → 1 ≤ (nthL g i).length → valAt vals j = .slice (some ⟨r, 0, none⟩) n' c' → 1 ≤ (nthL g j).length → False) ∧ ∀ k, v.ownBlock = some k → k < C
theorem OwnP.start {B C : Nat} {w : World} {v : Value} (h : w.ownsRow B 52 1 v 0 []) (hn : v ≠ .slice none 0 0) (hC : w.heap.size ≤ C) : OwnP B C w v [] :=
  ⟨[], rfl, h, hn, fun j hj => absurd hj (Nat.not_lt_zero _), fun i j _ hj => absurd hj (Nat.not_lt_zero _), fun k hk => Nat.lt_of_lt_of_le (h.lt k hk).2 hC⟩
theorem OwnP.lt {B C : Nat} {w : World} {v : Value} {g : List (List Int)} (h : OwnP B C w v g) : ∀ k, v.ownBlock = some k → B ≤ k := by
  obtain ⟨vals, _, h, _⟩ := h
  exact fun k hk => (h.lt k hk).1
theorem OwnP.below {B C : Nat} {w w' : World} {v : Value} {g : List (List Int)} (h : OwnP B C w v g) (hC : C ≤ w.heap.size) (hb : Below w.heap.size w w') : OwnP B C w' v g := by
  obtain ⟨vals, hl, h, hn, hr, hd, hv⟩ := h
  exact ⟨vals, hl, own_below h hb, hn, fun j hj => (hr j hj).keep fun r c e h1 => by
    have hj' := hr j hj
    rw [e] at hj'
    exact hb.block _ (by have := (hj'.lt h1).1; omega), hd, hv⟩
theorem OwnP.wide {B C D : Nat} {w : World} {v : Value} {g : List (List Int)} (h : OwnP B C w v g) (hD : C ≤ D) : OwnP B D w v g := by
  obtain ⟨vals, hl, h, hn, hr, hd, hv⟩ := h
  exact ⟨vals, hl, h, hn, fun j hj => (hr j hj).wide hD, hd, fun k hk => Nat.lt_of_lt_of_le (hv k hk) hD⟩
theorem valAt_cell {w : World} {B b n cap : Nat} {vals : List Value} (h : w.ownsRow B 52 1 (.slice (some ⟨b, 0, none⟩) n cap) n vals) {j : Nat} (hj : j < vals.length) : w.cell? ⟨b, j, none⟩ = some (valAt vals j) := by
  have := h.cells (g := b) rfl j (valAt vals j) (by simp [valAt, List.getD_eq_getElem?_getD, hj])
  rwa [add_at, Nat.zero_add] at this
theorem OwnP.form {B C : Nat} {w : World} {v : Value} {g : List (List Int)} (h : OwnP B C w v g) : ∃ b cap, v = .slice (some ⟨b, 0, none⟩) g.length cap ∧ B ≤ b ∧ b < C ∧ Grid w (some ⟨b, 0, none⟩) g := by
  obtain ⟨vals, hl, h, hn, hr, hd, hv⟩ := h
  rcases h.2 with ⟨rfl, _⟩ | ⟨b, cap, cur, rfl, hb, _⟩
  · exact absurd rfl hn
  · refine ⟨b, cap, rfl, hb, hv b rfl, .inr ⟨b, 0, rfl, fun j hj => ?_⟩⟩
    obtain ⟨a, c, e, hnu⟩ := (hr j hj).form
    have := valAt_cell h (j := j) (by omega)
    rw [e] at this
    exact ⟨a, c, by rw [Nat.zero_add]; exact this, hnu⟩
theorem ownp_ne {B b n : Nat} {w : World} {v : Value} {g : List (List Int)} {vals : List Value} {C : Nat} {f : Nat → Int} (hl : vals.length = g.length) (h : w.ownsRow B 52 1 v g.length vals) (hr : ∀ j, j < g.length → RowFit B C w (valAt vals j) (nthL g j)) (hg : 0 < g.length) (hc : RowC w b n f) (hn : 1 ≤ n) : v.ownBlock ≠ some b := by
  intro e
  have hv0 : vals[0]? = some (valAt vals 0) := by simp [valAt, List.getD_eq_getElem?_getD, show 0 < vals.length by omega]
  have h1 := h.cells e 0 _ hv0
  have h2 := (hc 0 (by omega)).1
  obtain ⟨a, c, e2, _⟩ := (hr 0 hg).form
  rw [add_at] at h1
  rw [h2, e2] at h1
  simp at h1
theorem ownp_push {B C : Nat} {w w1 : World} {o : Obj} {u v v' : Value} {g : List (List Int)} {row : List Int} {vals : List Value}
    (hl : vals.length = g.length) (hown : w.ownsRow B 52 1 v g.length vals) (hrows : ∀ j, j < g.length → RowFit B C w (valAt vals j) (nthL g j))
    (hdist : ∀ i j, i < j → j < g.length → ∀ r n c n' c', valAt vals i = .slice (some ⟨r, 0, none⟩) n c → 1 ≤ (nthL g i).length → valAt vals j = .slice (some ⟨r, 0, none⟩) n' c' → 1 ≤ (nthL g j).length → False)
    (hv : ∀ k, v.ownBlock = some k → k < C) (hBC : B ≤ C) (hC : C ≤ w.heap.size) (hrow : RowFit C w.heap.size w u row)
    (hown' : w1.ownsRow B 52 1 v' (g.length + 1) (vals ++ [u])) (hgrow : (w.alloc o).grownBy w1 v.ownBlock) (hnil : v' ≠ .slice none 0 0) : OwnP B w1.heap.size w1 v' (g ++ [row]) := by
  have hkeep : ∀ k, k < w.heap.size → v.ownBlock ≠ some k → w1.heap[k]? = w.heap[k]? := fun k hk hne =>
    (hgrow.block k (by simp; omega) (fun e => hne e.symm)).trans (((Below.refl w.heap.size w).alloc (Nat.le_refl _) o).block k hk)
  have hsz : w.heap.size ≤ w1.heap.size := Nat.le_trans (by simp) hgrow.size
  have eL : ∀ j, j < g.length → valAt (vals ++ [u]) j = valAt vals j := fun j hj => by simp [valAt, List.getD_eq_getElem?_getD, List.getElem?_append_left (show j < vals.length by omega)]
  have eR : valAt (vals ++ [u]) g.length = u := by simp [valAt, List.getD_eq_getElem?_getD, ← hl]
  refine ⟨vals ++ [u], by simp [hl], by simpa using hown', hnil, fun j hj => ?_, fun i j hi hj r n c n' c' e1 q1 e2 q2 => ?_, fun k hk => (hown'.lt k hk).2⟩
  · simp only [List.length_append, List.length_singleton] at hj
    by_cases h1 : j < g.length
    · rw [eL j h1, nthL_left h1]
      refine ((hrows j h1).keep fun r c e q => ?_).wide (by omega)
      have hj' := hrows j h1
      rw [e] at hj'
      have hx := hj'.lt q
      exact hkeep r (by omega) (ownp_ne hl hown hrows (by omega) hx.2.2 q)
    · obtain rfl : j = g.length := by omega
      rw [eR, nthL_last]
      have hk : RowFit C w.heap.size w1 u row := hrow.keep fun r c e q => by
        subst e
        have hx := hrow.lt q
        exact hkeep r hx.1.2 (fun e => by have := hv _ e; omega)
      rcases hk with h | ⟨r, c, e, h1, h2, hc⟩
      · exact .inl h
      · exact .inr ⟨r, c, e, by omega, h2, hc⟩
  · simp only [List.length_append, List.length_singleton] at hj
    have h0 : i < g.length := by omega
    rw [eL i h0] at e1
    rw [nthL_left h0] at q1
    by_cases h1 : j < g.length
    · rw [eL j h1] at e2
      rw [nthL_left h1] at q2
      exact hdist i j hi h1 r n c n' c' e1 q1 e2 q2
    · obtain rfl : j = g.length := by omega
      rw [eR] at e2
      rw [nthL_last] at q2
      subst e2
      have hi' := hrows i h0
      rw [e1] at hi'
      have := (hi'.lt q1).1
      have := (hrow.lt q2).1
      omega
/-- Where no row is empty, it is a grid of rows in blocks of their own. -/
theorem OwnP.ownG {B C : Nat} {w : World} {v : Value} {g : List (List Int)} (h : OwnP B C w v g) (hne : ∀ j, j < g.length → 1 ≤ (nthL g j).length) : OwnG B C w v g := by
  obtain ⟨vals, hl, h, hn, hr, hd, hv⟩ := h
  have key : ∀ j, j < g.length → ∃ r c, valAt vals j = .slice (some ⟨r, 0, none⟩) (nthL g j).length c ∧ (B ≤ r ∧ r < C) ∧ RowC w r (nthL g j).length (nth (nthL g j)) := fun j hj => by
    rcases hr j hj with ⟨e, _⟩ | ⟨r, c, e, h1, _, hc⟩
    · have := hne j hj; rw [e] at this; simp at this
    · exact ⟨r, c, e, h1, hc⟩
  let R : Nat → Nat := fun j => match valAt vals j with
    | .slice (some a) _ _ => a.block
    | _ => 0
  let K : Nat → Nat := fun j => match valAt vals j with
    | .slice _ _ c => c
    | _ => 0
  have hR : ∀ j, j < g.length → valAt vals j = .slice (some ⟨R j, 0, none⟩) (nthL g j).length (K j) ∧ (B ≤ R j ∧ R j < C) ∧ RowC w (R j) (nthL g j).length (nth (nthL g j)) := fun j hj => by
    obtain ⟨r, c, e, h1, hc⟩ := key j hj
    have eR : R j = r := by show (match valAt vals j with | .slice (some a) _ _ => a.block | _ => 0) = r; rw [e]
    have eK : K j = c := by show (match valAt vals j with | .slice _ _ c => c | _ => 0) = c; rw [e]
    rw [eR, eK]
    exact ⟨e, h1, hc⟩
  have hcells : gCells R K g = vals := by
    refine List.ext_getElem? fun j => ?_
    by_cases hj : j < g.length
    · rw [gCells_at hj, ← (hR j hj).1]
      simp [valAt, List.getD_eq_getElem?_getD, show j < vals.length by omega]
    · rw [List.getElem?_eq_none (by simp [gCells]; omega), List.getElem?_eq_none (by omega)]
  refine ⟨R, K, by rw [hcells]; exact h, hn, fun j hj => ⟨(hR j hj).2.1, hne j hj, (hR j hj).2.2⟩, fun i j hi hj e => ?_, hv⟩
  have h1 := (hR i (by omega)).1
  have h2 := (hR j hj).1
  rw [e] at h1
  exact hd i j hi hj _ _ _ _ _ h1 (hne i (by omega)) h2 (hne j hj)
end Go.Proofs.YtpklckpnhjhnhaaDoor
