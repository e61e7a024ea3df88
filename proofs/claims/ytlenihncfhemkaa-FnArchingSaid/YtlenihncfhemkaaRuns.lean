/- A map from places to truths that a call makes: what is read of it and what a write leaves. -/
import Derived.Test.YtlenihncfhemkaaNear
import Derived.Maps.Views
import Derived.DeepKeys4
namespace Go.Proofs.Ytlenihncfhemkaa
open Go.RowKit Go.ChangeShapes Go.WideShapes Go.Maps
open Go.ChangeMaps (setBlock heap_setBlock_same heap_setBlock_other)
set_option linter.unusedVariables false

theorem laidOutP : laidOutB Try.prog = true := by kernel_rfl
theorem rowP : (43 : TypeId) < Try.prog.types.size := of_decide_eq_true (by kernel_rfl)
theorem wideP : (match Try.prog.underlying 43 with | some (.array _ _) | some (.struct _) => true | _ => false) = true := by kernel_rfl
theorem lawP : Keyed Try.prog 43 := Keyed.of_law (deep_law_laid laidOutP (m := 2) (by omega) rowP (by kernel_rfl) wideP)
theorem keyTypeP : Try.prog.keyType 43 = true := by kernel_rfl
theorem cellsP : Try.prog.cellsOf 43 = 2 := by kernel_rfl
theorem cellsI : Try.prog.cellsOf 3 = 1 := by kernel_rfl
theorem fuelP : ∃ m, Try.prog.types.size + 1 = m + 1 + 1 := by
  obtain ⟨m, hm⟩ := Nat.exists_eq_succ_of_ne_zero (Nat.ne_of_gt (Nat.lt_of_le_of_lt (Nat.zero_le _) rowP))
  exact ⟨m, by rw [hm]⟩
theorem zeroB (w : World) : (zeroValue 4).run Try.prog w = .ok (.bool false) w := by kernel_rfl
/-- What a place reads as, as a key. -/
def pkey (p : Nat × Nat) : Lit := .string (keyBytes [.int .i64 p.1, .int .i64 p.2])
def SmallP (p : Nat × Nat) : Prop := p.1 < 1048576 ∧ p.2 < 1048576
theorem keyP {p : Nat × Nat} (h : SmallP p) : keyOf Try.prog 43 (.agg #[.int .i64 p.1, .int .i64 p.2]) = some (pkey p) := by
  obtain ⟨h1, h2⟩ := h
  have w1 : (Lit.int .i64 (p.1 : Int)).wf = true := WalkArith.wf_i64 (by omega)
  have w2 : (Lit.int .i64 (p.2 : Int)).wf = true := WalkArith.wf_i64 (by omega)
  obtain ⟨m, hm⟩ := fuelP
  have hf : (Value.agg #[.int .i64 (p.1 : Int), .int .i64 (p.2 : Int)]).formed Try.prog 43 = true := by
    simp [Value.formed, Try.underlying43, cellsP]
  unfold keyOf
  simp only [Try.underlying43, keyTypeP, hf, Bool.and_self, if_true, hm]
  simp [Program.keyLits, Try.underlying43, Try.underlying3, cellsP, cellsI, Value.cells, w1, w2, pkey]

/-- A map of the call's own of which no bad place is known to run. -/
def Runs (w : World) (b n : Nat) (bad : Nat × Nat → Prop) : Prop :=
  ∃ D : DataW Unit, w.ownsMap Try.prog 43 (plainElem Try.prog 4) b n D ∧ IsMap D ∧ ∀ p, SmallP p → bad p → D.atKey (pkey p) (.lit (.bool false)) = .lit (.bool false)
theorem Runs.made (w : World) (bad : Nat × Nat → Prop) : Runs (w.alloc (.map #[] 0)) w.heap.size 0 bad :=
  ⟨_, World.ownsMap_made w _ _ _, isMap_empty, fun _ _ _ => rfl⟩
theorem Runs.same {w w' : World} {b n : Nat} {bad : Nat × Nat → Prop} (h : Runs w b n bad) (hb : w'.heap[b]? = w.heap[b]?) : Runs w' b n bad := by
  obtain ⟨D, ⟨es, clock, he, F, hs, hD⟩, h2, h3⟩ := h
  exact ⟨D, ⟨es, clock, hb.trans he, F, hs, hD⟩, h2, h3⟩
theorem Runs.lt {w : World} {b n : Nat} {bad : Nat × Nat → Prop} (h : Runs w b n bad) : b < w.heap.size := by
  obtain ⟨D, h1, _⟩ := h
  exact h1.lt
theorem Runs.look {w : World} {b n : Nat} {bad : Nat × Nat → Prop} (h : Runs w b n bad) {p : Nat × Nat} (hp : SmallP p) :
    ∃ x : Bool, (Instr.lookup 53 (.map (some b)) (.agg #[.int .i64 p.1, .int .i64 p.2]) false).run Try.prog w = .ok (.bool x) w ∧ (bad p → x = false) := by
  obtain ⟨D, h1, h2, h3⟩ := h
  obtain ⟨v, ps, hrun, hv⟩ := h1.lookup lawP Try.underlying53 (zeroB w) (plainElem_bool Try.underlying4 false) (keyP hp)
  unfold plainElem at hv
  rw [Try.underlying4] at hv
  cases v <;> simp at hv
  rename_i x
  refine ⟨x, hrun, fun hb => ?_⟩
  have := h3 p hp hb
  rw [this] at hv
  simpa using hv.1
theorem Runs.put {w : World} {b n : Nat} {bad : Nat × Nat → Prop} (h : Runs w b n bad) (hn : n < 1000000000) {p : Nat × Nat} (hp : SmallP p) (v : Bool) (hv : bad p → v = false) :
    ∃ o : Obj, (Instr.mapUpdate 53 (.map (some b)) (.agg #[.int .i64 p.1, .int .i64 p.2]) (.bool v)).run Try.prog w = .ok () (setBlock w b o) ∧ Runs (setBlock w b o) b (n + 1) bad := by
  obtain ⟨D, ⟨es, clock, he, F, hs, hD⟩, h2, h3⟩ := h
  obtain ⟨es', clock', hrun, _⟩ := Maps.fit_store (R' := plainElem (H := Unit) Try.prog 4) lawP Try.underlying53 he F (by unfold maxLen; omega) (fun _ _ _ _ hz => hz) (keyP hp) (plainElem_bool Try.underlying4 v)
  obtain ⟨w', hrun', hown, hg⟩ := World.ownsMap.update ⟨es, clock, he, F, hs, hD⟩ lawP Try.underlying53 (by unfold maxLen; omega) (keyP hp) (plainElem_bool Try.underlying4 v)
  have e : w' = setBlock w b (.map es' clock') := by rw [hrun] at hrun'; cases hrun'; rfl
  subst e
  refine ⟨_, hrun, _, hown, h2.put _ _, fun q hq hbq => ?_⟩
  by_cases hpq : q = p
  · subst hpq
    rw [atKey_put_same h2 (lawP.key (keyP hp)), hv hbq]
  · have hne : pkey q ≠ pkey p := by
      intro he
      have := lawP.inj (keyP hq) (he ▸ keyP hp)
      simp at this
      exact hpq (Prod.ext (by omega) (by omega))
    rw [atKey_put_other hne]
    exact h3 q hq hbq
theorem below_setBlock {B b : Nat} {a w : World} {o : Obj} (h : Below B a w) (hb : B ≤ b) : Below B a (setBlock w b o) := by
  refine ⟨h.os, h.tape, h.output, ?_, fun k hk => ?_⟩
  · have := h.size
    simp [setBlock]
    exact this
  · have : (setBlock w b o).heap[k]? = w.heap[k]? := by
      unfold setBlock
      exact Array.getElem?_setIfInBounds_ne (by omega)
    rw [this]
    exact h.block k hk
theorem setBlock_size (w : World) (b : Nat) (o : Obj) : (setBlock w b o).heap.size = w.heap.size := by simp [setBlock]
theorem setBlock_cell {w : World} {b : Nat} {o : Obj} {a : Addr} (h : a.block ≠ b) : (setBlock w b o).cell? a = w.cell? a := World.cell?_of_block (w := w) (by
  unfold setBlock
  exact Array.getElem?_setIfInBounds_ne (by omega))
end Go.Proofs.Ytlenihncfhemkaa
