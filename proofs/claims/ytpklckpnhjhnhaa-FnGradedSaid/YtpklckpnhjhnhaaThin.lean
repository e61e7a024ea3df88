/- A plate that is made thinner: the program's thinned and the reference's l08All. -/
import Derived.Test.YtpklckpnhjhnhaaMapThin
import Derived.Test.YtpklckpnhjhnhaaGridF
import Derived.Test.YtpklckpnhjhnhaaMass
import Derived.StillTailTactics
namespace Go.Proofs.Ytpklckpnhjhnhaa
open Go.RowKit Go.ChangeShapes Go.WideShapes
set_option linter.unusedVariables false

theorem isLeast_c (n : Int) (w : World) : Calls Try.prog 50 #[.int .i64 n] w fun e w' => e = .returned (.bool (inB n 1 200)) ∧ w = w' := by
  go_enter Try.func50, Try.ntmps50
  go_wp2_with (go_at_call 49; refine call_same (within_c _ _ _ _) ?_)
  go_ret
  exact ⟨rfl, rfl⟩
theorem isBy_c (n : Int) (w : World) : Calls Try.prog 57 #[.int .i64 n] w fun e w' => e = .returned (.bool (inB n 0 200)) ∧ w = w' := by
  go_enter Try.func57, Try.ntmps57
  go_wp2_with (go_at_call 49; refine call_same (within_c _ _ _ _) ?_)
  go_ret
  exact ⟨rfl, rfl⟩
/-- Five cells, kept by what lays new blocks. -/
theorem keep5 {w1 w2 : World} {b b0 b1 b2 : Nat} {v0 v1 v2 v3 v4 : Value} (d : w1.cell? ⟨b, 0, none⟩ = some v0 ∧ w1.cell? ⟨b, 1, none⟩ = some v1 ∧ w1.cell? ⟨b0, 0, none⟩ = some v2 ∧ w1.cell? ⟨b1, 0, none⟩ = some v3 ∧ w1.cell? ⟨b2, 0, none⟩ = some v4) (h : Below w1.heap.size w1 w2) :
    w2.cell? ⟨b, 0, none⟩ = some v0 ∧ w2.cell? ⟨b, 1, none⟩ = some v1 ∧ w2.cell? ⟨b0, 0, none⟩ = some v2 ∧ w2.cell? ⟨b1, 0, none⟩ = some v3 ∧ w2.cell? ⟨b2, 0, none⟩ = some v4 ∧ Below w1.heap.size w1 w2 :=
  ⟨(h.cell (World.block_lt_of_cell? w1 _ d.1)).trans d.1, (h.cell (World.block_lt_of_cell? w1 _ d.2.1)).trans d.2.1, (h.cell (World.block_lt_of_cell? w1 _ d.2.2.1)).trans d.2.2.1, (h.cell (World.block_lt_of_cell? w1 _ d.2.2.2.1)).trans d.2.2.2.1, (h.cell (World.block_lt_of_cell? w1 _ d.2.2.2.2)).trans d.2.2.2.2, h⟩
theorem cell_keep {w w' : World} {b o : Nat} {v : Value} (h : w.cell? ⟨b, o, none⟩ = some v) (hb : Below w.heap.size w w') : w'.cell? ⟨b, o, none⟩ = some v := (hb.cell (World.block_lt_of_cell? w _ h)).trans h

/-- A plate that is made thinner. -/
def thinG (g : List (List Int)) (b l : Int) : List (List Int) := gridG (fun p => thinF (atG g p) b l) (lenG g) g.length
theorem thinG_len (g : List (List Int)) (b l : Int) : (thinG g b l).length = g.length := gridG_len _ _ _
theorem thinG_small {g : List (List Int)} (ok : GridOk 1 200 g) (b l : Int) : Small (thinG g b l) := gridG_small ok.rows.2 fun i hi => (ok.len hi).2
theorem thinG_ok {g : List (List Int)} (ok : GridOk 1 200 g) {b l : Int} (hb : 0 ≤ b ∧ b ≤ 200) (hl : 1 ≤ l ∧ l ≤ 200) : GridOk 1 200 (thinG g b l) := by
  have hr := ok.rows
  have e : ∀ j, j < g.length → nthL (thinG g b l) j = rowG (fun p => thinF (atG g p) b l) j (nthL g j).length := fun j hj => gridG_nth hj
  refine ⟨by rw [thinG_len]; exact hr, by rw [e 0 (by omega), rowG_len]; exact ok.len (by omega), fun j hj => ?_, fun j hj k hk => ?_⟩
  · rw [thinG_len] at hj
    rw [e j hj, e 0 (by omega), rowG_len, rowG_len]
    exact ok.same j hj
  · rw [thinG_len] at hj
    rw [e j hj, rowG_len] at hk
    rw [e j hj, rowG_nth hk]
    exact thinF_bd (ok.range j hj k hk) hb hl

theorem Mid.drew {B C : Nat} {a w : World} (h : Mid B C a w) : Mid B C a w.drew := ⟨h.os, h.tape, h.output, h.size, h.block⟩
/-- A contract that leaves the world alone, inside a region that is still but for its tail. -/
theorem to_still {P : Program} {f : FuncId} {args : Array Value} {w : World} {v : Value} (c : Calls P f args w fun e w' => e = .returned v ∧ w = w') : Calls P f args w fun e w'' => e = .returned v ∧ w'' = w :=
  c.mono fun _ _ ⟨he, hw⟩ => ⟨he, hw.symm⟩
/-- A grid of which all before place (k, m) has turned. -/
def mixF (E : Nat × Nat → Int) (g : List (List Int)) (k m i j : Nat) : Int := if i < k ∨ (i = k ∧ j < m) then E (i, j) else nth (nthL g i) j
theorem mixF_zero (E : Nat × Nat → Int) (g : List (List Int)) (i j : Nat) : nth (nthL g i) j = mixF E g 0 0 i j := by unfold mixF; rw [if_neg (by omega)]
theorem mixF_step (E : Nat × Nat → Int) (g : List (List Int)) (k m i j : Nat) : (if i = k ∧ j = m then E (k, m) else mixF E g k m i j) = mixF E g k (m + 1) i j := by
  unfold mixF
  by_cases h : i = k ∧ j = m
  · obtain ⟨rfl, rfl⟩ := h
    rw [if_pos ⟨rfl, rfl⟩, if_pos (by omega)]
  · rw [if_neg h]
    by_cases h1 : i < k ∨ (i = k ∧ j < m)
    · rw [if_pos h1, if_pos (by omega)]
    · rw [if_neg h1, if_neg (by omega)]
theorem mixF_row (E : Nat × Nat → Int) (g : List (List Int)) (k i j : Nat) (hj : j < (nthL g i).length) : mixF E g k (nthL g k).length i j = mixF E g (k + 1) 0 i j := by
  unfold mixF
  by_cases h1 : i < k ∨ (i = k ∧ j < (nthL g k).length)
  · rw [if_pos h1, if_pos (by omega)]
  · rw [if_neg h1, if_neg (fun h2 => h1 ?_)]
    rcases h2 with h2 | h2
    · rcases Nat.lt_or_eq_of_le (Nat.le_of_lt_succ h2) with h3 | rfl
      · exact .inl h3
      · exact .inr ⟨rfl, hj⟩
    · omega
theorem mixF_end (E : Nat × Nat → Int) (g : List (List Int)) (i j : Nat) (hi : i < g.length) : mixF E g g.length 0 i j = E (i, j) := by unfold mixF; rw [if_pos (.inl hi)]
theorem mixF_at (E : Nat × Nat → Int) (g : List (List Int)) (k m : Nat) : mixF E g k m k m = nth (nthL g k) m := by unfold mixF; rw [if_neg (by omega)]

end Go.Proofs.Ytpklckpnhjhnhaa
