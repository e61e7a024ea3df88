/- Plain facts of the law of archings: the highest place, steps, mirrors, sums, the lowest height, pits, smoothing, hollows. -/
import Derived.Test.YtlenihncfhemkaaShPitsOf
import Derived.Test.YtlenihncfhemkaaShSmoothArch
import Derived.Test.YtlenihncfhemkaaHollow
import Derived.Test.YtlenihncfhemkaaHighest
import Derived.Test.YtlenihncfhemkaaMirror
namespace Go.Proofs.Ytlenihncfhemkaa
open Go.RowKit Go.ChangeShapes Go.WideShapes
set_option linter.unusedVariables false

theorem mem_rowPl {i k c : Nat} (h : k < c) : (i, k) ∈ rowPl i c := by simp [rowPl, h]
theorem mem_plTo {g : List (List Int)} {i k : Nat} (hk : k < (nthL g i).length) : ∀ {n : Nat}, i < n → (i, k) ∈ plTo g n
  | 0, h => absurd h (Nat.not_lt_zero _)
  | n + 1, h => by
    show (i, k) ∈ plTo g n ++ rowPl n (nthL g n).length
    rw [List.mem_append]
    rcases Nat.lt_or_eq_of_le (Nat.le_of_lt_succ h) with h1 | rfl
    · exact .inl (mem_plTo hk h1)
    · exact .inr (mem_rowPl hk)
theorem near_up {g : List (List Int)} {i k : Nat} (hi : i < g.length) (hk : k < (nthL g 0).length) (h : 0 < i) : (i - 1, k) ∈ nearL g (i, k) := by
  unfold nearL; rw [shPitsOf.nearL_eq (p := (i, k)) hi hk]; simp [h]
theorem near_down {g : List (List Int)} {i k : Nat} (hi : i < g.length) (hk : k < (nthL g 0).length) (h : i + 1 < g.length) : (i + 1, k) ∈ nearL g (i, k) := by
  unfold nearL; rw [shPitsOf.nearL_eq (p := (i, k)) hi hk]; simp [h]
theorem near_left {g : List (List Int)} {i k : Nat} (hi : i < g.length) (hk : k < (nthL g 0).length) (h : 0 < k) : (i, k - 1) ∈ nearL g (i, k) := by
  unfold nearL; rw [shPitsOf.nearL_eq (p := (i, k)) hi hk]; simp [h]
theorem near_right {g : List (List Int)} {i k : Nat} (hi : i < g.length) (hk : k < (nthL g 0).length) (h : k + 1 < (nthL g 0).length) : (i, k + 1) ∈ nearL g (i, k) := by
  unfold nearL; rw [shPitsOf.nearL_eq (p := (i, k)) hi hk]; simp [h]
/-- No step is higher than the steepest. -/
theorem step_le {g : List (List Int)} {p q : Nat × Nat} (hp : p ∈ plTo g g.length) (hq : q ∈ nearL g p) : atG g p - atG g q ≤ steepF g := (stP_le.1 (Int.le_refl (steepF g))).2 p hp q hq
theorem steep_up {lo hi : Int} {g : List (List Int)} (ok : GridOk lo hi g) {i k : Nat} (hi : i < g.length) (hk : k < (nthL g i).length) (h : 0 < i) :
    max (nth (nthL g i) k - nth (nthL g (i - 1)) k) (-(nth (nthL g i) k - nth (nthL g (i - 1)) k)) ≤ steepF g := by
  have s1 := ok.same i hi
  have s2 := ok.same (i - 1) (by omega)
  have h1 := step_le (mem_plTo hk hi) (near_up hi (by omega) h)
  have m2 : (i - 1, k) ∈ plTo g g.length := mem_plTo (by omega) (by omega)
  have n2 := near_down (g := g) (i := i - 1) (k := k) (by omega) (by omega) (by omega)
  rw [show i - 1 + 1 = i by omega] at n2
  have h2 := step_le m2 n2
  simp only [atG] at h1 h2
  omega
theorem steep_left {lo hi : Int} {g : List (List Int)} (ok : GridOk lo hi g) {i k : Nat} (hi : i < g.length) (hk : k < (nthL g i).length) (h : 0 < k) :
    max (nth (nthL g i) k - nth (nthL g i) (k - 1)) (-(nth (nthL g i) k - nth (nthL g i) (k - 1))) ≤ steepF g := by
  have s1 := ok.same i hi
  have h1 := step_le (mem_plTo hk hi) (near_left hi (by omega) h)
  have m2 : (i, k - 1) ∈ plTo g g.length := mem_plTo (by omega) (by omega)
  have n2 := near_right (g := g) (i := i) (k := k - 1) hi (by omega) (by omega)
  rw [show k - 1 + 1 = k by omega] at n2
  have h2 := step_le m2 n2
  simp only [atG] at h1 h2
  omega
theorem mir_at {g : List (List Int)} {m : Int} (h : MirTo g g.length 0 m) {i k : Nat} (hi : i < g.length) (hk : k < (nthL g i).length) :
    max (nth (nthL g i) k - nth (nthL g i) ((nthL g i).length - 1 - k)) (-(nth (nthL g i) k - nth (nthL g i) ((nthL g i).length - 1 - k))) ≤ m := by
  have := h.2.1 i hi k hk
  unfold mirD distF at this
  omega
theorem top_at {g : List (List Int)} {p : Nat × Nat} (h : TopOf g (plTo g g.length) p) {i k : Nat} (hi : i < g.length) (hk : k < (nthL g i).length) : nth (nthL g i) k ≤ atG g p := h.2 (i, k) (mem_plTo hk hi)

/-- The sum of the heights that the law has met. -/
def woodTo (g : List (List Int)) (i k : Nat) : Int := woodS g (plTo g i ++ rowPl i k)
theorem woodTo_zero (g : List (List Int)) : woodTo g 0 0 = 0 := by simp [woodTo, woodS, plTo, rowPl]
theorem woodTo_next (g : List (List Int)) (i : Nat) : woodTo g (i + 1) 0 = woodTo g i (nthL g i).length := by simp [woodTo, plTo, rowPl]
theorem woodTo_end (g : List (List Int)) : woodTo g g.length 0 = woodF g := by simp [woodTo, woodF, rowPl]
theorem woodTo_succ {g : List (List Int)} {i k : Nat} (h : 0 ≤ nth (nthL g i) k) : woodTo g i (k + 1) = woodTo g i k + nth (nthL g i) k := by
  unfold woodTo
  rw [rowPl_succ, ← List.append_assoc]
  unfold woodS
  rw [List.foldl_append]
  show _ + max 0 (atG g (i, k) - 0) = _
  have e : atG g (i, k) = nth (nthL g i) k := rfl
  rw [e]
  omega
theorem woodS_bd {g : List (List Int)} : ∀ {l : List (Nat × Nat)} {s : Int}, (∀ p ∈ l, 0 ≤ atG g p ∧ atG g p ≤ 1000) → s ≤ l.foldl (fun s p => s + max 0 (atG g p - 0)) s ∧ l.foldl (fun s p => s + max 0 (atG g p - 0)) s ≤ s + 1000 * l.length
  | [], s, _ => by simp
  | p :: l, s, h => by
    have h1 := h p (List.mem_cons_self ..)
    have h2 := woodS_bd (g := g) (l := l) (s := s + max 0 (atG g p - 0)) fun q hq => h q (List.mem_cons_of_mem _ hq)
    rw [List.foldl_cons, List.length_cons]
    omega
theorem woodTo_bd {g : List (List Int)} (ok : GridOk 0 1000 g) {i k : Nat} (hi : i < g.length) (hk : k ≤ (nthL g i).length) : 0 ≤ woodTo g i k ∧ woodTo g i k ≤ 1000000 := by
  have h1 := woodS_bd (g := g) (l := plTo g i ++ rowPl i k) (s := 0) fun p hp => ok.at_ (pre_in hi hk hp)
  have h2 : (plTo g i ++ rowPl i k).length ≤ 110 := by
    rw [List.length_append, plTo_len, rowPl_len]
    have := sumL_le (m := 10) (fun j hj => (ok.len hj).2) i (by omega)
    have := (ok.len hi).2
    have := ok.rows.2
    omega
  unfold woodTo woodS
  omega

/-- The lowest height that the law has met. -/
def LowTo (g : List (List Int)) (i k : Nat) (lo : Int) : Prop :=
  (∀ x y, x < g.length → y < (nthL g x).length → (x < i ∨ (x = i ∧ y < k)) → lo ≤ nth (nthL g x) y) ∧ ∃ x y, x < g.length ∧ y < (nthL g x).length ∧ nth (nthL g x) y = lo
theorem LowTo.zero {g : List (List Int)} {p : Nat × Nat} (h : p.1 < g.length ∧ p.2 < (nthL g p.1).length) : LowTo g 0 0 (atG g p) := ⟨fun x y _ _ h => by omega, p.1, p.2, h.1, h.2, rfl⟩
theorem LowTo.next {g : List (List Int)} {i : Nat} {lo : Int} (h : LowTo g i (nthL g i).length lo) : LowTo g (i + 1) 0 lo := by
  refine ⟨fun x y hx hy hv => h.1 x y hx hy ?_, h.2⟩
  rcases Nat.lt_or_ge x i with h1 | h1
  · exact .inl h1
  · obtain rfl : x = i := by omega
    exact .inr ⟨rfl, hy⟩
theorem LowTo.step {g : List (List Int)} {i k : Nat} {lo : Int} (h : LowTo g i k lo) (hi : i < g.length) (hk : k < (nthL g i).length) : LowTo g i (k + 1) (min lo (nth (nthL g i) k)) := by
  refine ⟨fun x y hx hy hv => ?_, ?_⟩
  · by_cases e : x = i ∧ y = k
    · obtain ⟨rfl, rfl⟩ := e; omega
    · have := h.1 x y hx hy (by omega); omega
  · rcases Int.le_total lo (nth (nthL g i) k) with h1 | h1
    · rw [Int.min_eq_left h1]; exact h.2
    · rw [Int.min_eq_right h1]; exact ⟨i, k, hi, hk, rfl⟩
theorem LowTo.all {g : List (List Int)} {lo : Int} (h : LowTo g g.length 0 lo) {x y : Nat} (hx : x < g.length) (hy : y < (nthL g x).length) : lo ≤ nth (nthL g x) y := h.1 x y hx hy (.inl hx)
theorem LowTo.bd {g : List (List Int)} (ok : GridOk 0 1000 g) {i k : Nat} {lo : Int} (h : LowTo g i k lo) : 0 ≤ lo ∧ lo ≤ 1000 := by
  obtain ⟨_, x, y, hx, hy, rfl⟩ := h
  exact ok.range x hx y hy
theorem low_hollow {g : List (List Int)} {lo l : Int} (hg : gridB 0 1000 g = true) (h : LowTo g g.length 0 lo) (hl : 0 ≤ l) : gridB 0 1000 (holG g l) = decide (l ≤ lo) := by
  have e := holG_ok (l := l) hg hl
  by_cases hle : l ≤ lo
  · rw [decide_eq_true hle, e]
    intro i hi k hk
    have := h.all hi hk
    omega
  · rw [decide_eq_false hle, Bool.eq_false_iff]
    intro hh
    obtain ⟨_, x, y, hx, hy, rfl⟩ := h
    exact hle (e.1 hh x hx y hy)

theorem sumL_eq {g : List (List Int)} {c : Nat} (h : ∀ j, j < g.length → (nthL g j).length = c) : ∀ n, n ≤ g.length → sumL g n = n * c
  | 0, _ => by simp [sumL]
  | n + 1, hn => by simp only [sumL, sumL_eq h n (by omega), h n (by omega), Nat.succ_mul]
theorem hol_none {g : List (List Int)} (l : Int) : chosenG g (tpB g (holG g l) l) = [] := by
  unfold chosenG
  rw [List.filter_eq_nil_iff.2 fun p hp => ?_]
  · rfl
  · have h := plTo_in (Nat.le_refl _) hp
    unfold tpB
    rw [holG_at h.1 h.2]
    simp
    omega
theorem hol_all {g : List (List Int)} (l : Int) {c : Nat} (hc : ∀ j, j < g.length → (nthL g j).length = c) : (chosenG g (tpB g (holG g l) (l + 1))).length = g.length * c := by
  unfold chosenG pairsG
  rw [List.filter_eq_self.2 fun p hp => ?_]
  · rw [List.length_map, plTo_len, sumL_eq hc _ (Nat.le_refl _)]
  · have h := plTo_in (Nat.le_refl _) hp
    unfold tpB
    rw [holG_at h.1 h.2]
    exact decide_eq_true (by omega)

theorem pair_at {g : List (List Int)} {E : Nat × Nat → Bool} {j : Nat} (h : j < (chosenG g E).length) : ∃ p ∈ plTo g g.length, E p = true ∧ nthL (chosenG g E) j = [(p.1 : Int), (p.2 : Int)] := by
  unfold chosenG pairsG at h ⊢
  rw [List.length_map] at h
  have hm := List.getElem_mem h
  rw [List.mem_filter] at hm
  exact ⟨_, hm.1, hm.2, by simp [nthL, List.getD_eq_getElem?_getD, h]⟩
/-- A pit that is no edge. -/
def badP (g : List (List Int)) (p : Nat × Nat) : Prop := edgeB g p = false ∧ shPitsOf.pitB g p = true
theorem bad_near {g : List (List Int)} {p q : Nat × Nat} (h : badP g p) (hq : q ∈ nearL g p) : ¬ atG g q < atG g p := by
  have h1 := h.2
  simp only [shPitsOf.pitB, shPitsOf.allB, Bool.and_eq_true, List.all_eq_true] at h1
  have := of_decide_eq_true (h1.2 (atG g q) (List.mem_map_of_mem hq))
  omega

theorem smF_bd {g : List (List Int)} (ok : GridOk 0 1000 g) {lo top : Int} (h0 : 0 ≤ lo) (h : ∀ x y, x < g.length → y < (nthL g x).length → lo ≤ nth (nthL g x) y ∧ nth (nthL g x) y ≤ top) {i k : Nat} (hi : i < g.length) (hk : k < (nthL g i).length) :
    lo ≤ smF g (i, k) ∧ smF g (i, k) ≤ top := by
  have hp := h i k hi hk
  unfold smF
  cases he : edgeB g (i, k)
  · have s0 := ok.same i hi
    simp only [edgeB, Bool.or_eq_false_iff, decide_eq_false_iff_not] at he
    obtain ⟨e1, e2, e3, e4⟩ := he
    have n1 : nearL g (i, k) = [(i - 1, k), (i, k - 1), (i, k + 1), (i + 1, k)] := by
      unfold nearL
      rw [shPitsOf.nearL_eq (p := (i, k)) hi (by simp only; omega)]
      simp only
      rw [if_pos (by omega), if_pos (by omega), if_pos (by omega), if_pos (by omega)]
      rfl
    have su := ok.same (i - 1) (by omega)
    have sd := ok.same (i + 1) (by omega)
    have h1 := h (i - 1) k (by omega) (by omega)
    have h2 := h i (k - 1) hi (by omega)
    have h3 := h i (k + 1) hi (by omega)
    have h4 := h (i + 1) k (by omega) (by omega)
    rw [n1]
    have e : sumP g [(i - 1, k), (i, k - 1), (i, k + 1), (i + 1, k)] = nth (nthL g (i - 1)) k + (nth (nthL g i) (k - 1) + (nth (nthL g i) (k + 1) + (nth (nthL g (i + 1)) k + 0))) := rfl
    rw [e]
    have ea : atG g (i, k) = nth (nthL g i) k := rfl
    rw [ea]
    simp only [Bool.false_eq_true, if_false]
    unfold rdiv
    rw [if_neg (by omega)]
    omega
  · exact hp
theorem smF_edge {g : List (List Int)} {p : Nat × Nat} (h : edgeB g p = true) : smF g p = atG g p := by unfold smF; rw [h]; rfl
theorem smG_len (g : List (List Int)) : (shSmoothArch.smG g).length = g.length := gridG_len _ _ _
theorem smG_row {g : List (List Int)} {i : Nat} (hi : i < g.length) : (nthL (shSmoothArch.smG g) i).length = (nthL g i).length := by unfold shSmoothArch.smG; rw [gridG_nth hi, rowG_len]; rfl
theorem smG_at {g : List (List Int)} {i k : Nat} (hi : i < g.length) (hk : k < (nthL g i).length) : nth (nthL (shSmoothArch.smG g) i) k = smF g (i, k) := by unfold shSmoothArch.smG; rw [gridG_nth hi]; exact rowG_nth hk
theorem edge_dec {g : List (List Int)} {i k : Nat} : edgeB g (i, k) = (decide (i = 0) || (decide (k = 0) || (decide (i + 1 = g.length) || decide (k + 1 = (nthL g 0).length)))) := rfl
end Go.Proofs.Ytlenihncfhemkaa
