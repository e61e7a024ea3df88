/- Slices of integers: what is known of one that is read; the laws' copy and comparison. -/
import Derived.Test.YtlenihncfhemkaaWithin
import Derived.Deep.OwnRows
import Derived.Deep.QuietTactic
import Derived.BigQuiet
import Derived.Deep.LoopGhost
namespace Go.Proofs.Ytlenihncfhemkaa
open Go.RowKit Go.ChangeShapes Go.WideShapes

/-- Element j, behind a name that the walk does not open. -/
def nth (zs : List Int) (j : Nat) : Int := zs.getD j 0
theorem nth_eq {zs : List Int} {j : Nat} (h : j < zs.length) : nth zs j = zs[j] := by simp [nth, h]
theorem nth_mem {zs : List Int} {j : Nat} (h : j < zs.length) : nth zs j ∈ zs := by rw [nth_eq h]; exact List.getElem_mem h

/-- A slice at 'a' of as many elements as the list reads as the list. -/
def Nums (k : IntKind) (w : World) (a : Option Addr) (zs : List Int) : Prop :=
  zs = [] ∨ ∃ b o, a = some ⟨b, o, none⟩ ∧ ∀ j, j < zs.length → w.cell? ⟨b, o + j, none⟩ = some (.int k (nth zs j))

theorem Nums.nil (k : IntKind) (w : World) (a : Option Addr) : Nums k w a [] := .inl rfl
theorem Nums.pos {k : IntKind} {w : World} {a : Option Addr} {zs : List Int} (h : Nums k w a zs) {j : Nat} (hj : j < zs.length) :
    ∃ b o, a = some ⟨b, o, none⟩ ∧ b < w.heap.size ∧ w.cell? ⟨b, o + j, none⟩ = some (.int k (nth zs j)) := by
  rcases h with rfl | ⟨b, o, rfl, hc⟩
  · simp at hj
  · exact ⟨b, o, rfl, World.block_lt_of_cell? w _ (hc j hj), hc j hj⟩
theorem Nums.keep {k : IntKind} {w w' : World} {a : Option Addr} {zs : List Int} (h : Nums k w a zs) (hk : ∀ p : Addr, p.block < w.heap.size → w'.cell? p = w.cell? p) : Nums k w' a zs := by
  rcases h with rfl | ⟨b, o, rfl, hc⟩
  · exact .inl rfl
  · exact .inr ⟨b, o, rfl, fun j hj => (hk _ (World.block_lt_of_cell? w _ (hc j hj))).trans (hc j hj)⟩
theorem Nums.below {k : IntKind} {w w' : World} {a : Option Addr} {zs : List Int} (h : Nums k w a zs) (hb : Below w.heap.size w w') : Nums k w' a zs :=
  h.keep fun _ hp => hb.cell hp
theorem Nums.row {k : IntKind} {w : World} {g : Nat} {t : TypeId} {zs : List Int} (h : w.rowIs g t zs.length (fun j => .int k (nth zs j))) : Nums k w (some ⟨g, 0, none⟩) zs :=
  .inr ⟨g, 0, rfl, fun j hj => by rw [Nat.zero_add]; exact h.cell hj⟩

theorem add_at (b o j : Nat) : (⟨b, o, none⟩ : Addr).add j = ⟨b, o + j, none⟩ := by unfold Addr.add; split <;> simp_all

/-- A slice of integers that came in. -/
theorem nums_open {H : Type} {enc : TypeId × Value → H} {P : Program} {w : World} {base : Nat} {held : Bool} {t e : TypeId} {k : IntKind} {fuel len cap : Nat} {a : Option Addr} {x : DataW H × List MemPlace}
    (ht : P.underlying t = some (.slice e)) (he : P.underlying e = some (.int k)) (hc : P.cellsOf e = 1) (hf : DataW.trod enc P w base (fun _ => true) held fuel t (Value.cells (.slice a len cap)).toList = some x) :
    ∃ zs : List Int, zs.length = len ∧ Nums k w a zs ∧ zs.length ≤ maxLen ∧ ∀ n ∈ zs, (Lit.int k n).wf = true := by
  rcases open_ints ht he hc hf with ⟨hcs, _⟩ | ⟨x, l, c, zs, hcs, _, hl, hm, hz, _, hcell, hwz⟩
  · simp [Value.cells] at hcs
    obtain ⟨rfl, rfl, rfl⟩ := hcs
    exact ⟨[], rfl, .inl rfl, Nat.zero_le _, by simp⟩
  · simp [Value.cells] at hcs
    obtain ⟨rfl, rfl, rfl⟩ := hcs
    have hz' : zs.length = cap := by simpa using hz
    refine ⟨zs.take len, by rw [List.length_take]; omega, ?_, by rw [List.length_take]; omega, fun n hn => hwz n (List.mem_of_mem_take hn)⟩
    by_cases h0 : len = 0
    · subst h0; exact .inl (by simp)
    · obtain ⟨b, o, s⟩ := x
      have hc0 := hcell 0 (by omega)
      have hs : s = none := by simpa [Addr.add] using World.cell?_spot hc0
      subst hs
      refine .inr ⟨b, o, rfl, fun j hj => ?_⟩
      rw [List.length_take] at hj
      have hjl : j < len := by omega
      have := hcell j (by omega)
      rw [add_at] at this
      have e : nth (zs.take len) j = zs.getD j 0 := by simp [nth, List.getD_eq_getElem?_getD, hjl]
      rw [e]
      exact this

/-- p holds of the first k elements. -/
def AllTo (p : Int → Bool) (zs : List Int) (k : Nat) : Prop := ∀ j, j < k → p (nth zs j) = true
theorem AllTo.zero (p : Int → Bool) (zs : List Int) : AllTo p zs 0 := fun _ h => absurd h (Nat.not_lt_zero _)
theorem AllTo.step {p : Int → Bool} {zs : List Int} {k : Nat} (h : AllTo p zs k) (hk : p (nth zs k) = true) : AllTo p zs (k + 1) := fun j hj => by
  rcases Nat.lt_or_eq_of_le (Nat.le_of_lt_succ hj) with h1 | rfl
  · exact h j h1
  · exact hk
theorem AllTo.all {p : Int → Bool} {zs : List Int} (h : AllTo p zs zs.length) : zs.all p = true := by
  rw [List.all_eq_true]
  intro x hx
  obtain ⟨j, hj, rfl⟩ := List.getElem_of_mem hx
  rw [← nth_eq hj]; exact h j hj
theorem all_not {p : Int → Bool} {zs : List Int} {k : Nat} (hk : k < zs.length) (h : p (nth zs k) = false) : zs.all p = false := by
  rw [Bool.eq_false_iff]
  intro ha
  rw [List.all_eq_true] at ha
  rw [ha _ (nth_mem hk)] at h
  cases h
theorem all_nth {p : Int → Bool} {zs : List Int} (h : zs.all p = true) {k : Nat} (hk : k < zs.length) : p (nth zs k) = true := by
  rw [List.all_eq_true] at h; exact h _ (nth_mem hk)

/-- A contract that says what becomes of the world, met at a call. -/
theorem call_pred {P : Program} {f : FuncId} {args : Array Value} {w : World} {v : Value} {R : World → Prop} {Q : Ending → World → Prop}
    (c : Calls P f args w fun e w' => e = .returned v ∧ R w') (k : ∀ w', R w' → Q (.returned v) w') : Calls P f args w Q :=
  c.mono fun _ w' ⟨he, hb⟩ => by rw [he]; exact k w' hb

theorem infoI : (Try.prog.info? 2).map (fun i => (i.zero, i.size, i.bytes)) = some (some (.int .i64 0), 1, 8) := by kernel_rfl

/-- The copy so far. -/
def CopyTo (w : World) (g n : Nat) (zs : List Int) (k : Nat) : Prop := w.rowIs g 2 n (fun j => .int .i64 (if j < k then nth zs j else 0))
theorem CopyTo.step {w : World} {g n k : Nat} {zs : List Int} (h : CopyTo w g n zs k) : CopyTo (w.setCell ⟨g, k, none⟩ (.int .i64 (nth zs k))) g n zs (k + 1) := by
  refine (h.set k (.int .i64 (nth zs k))).congr fun i _ => ?_
  by_cases e : i = k
  · subst e; simp
  · rw [if_neg e]
    show Value.int .i64 _ = Value.int .i64 _
    congr 1
    by_cases h1 : i < k
    · rw [if_pos h1, if_pos (by omega)]
    · rw [if_neg h1, if_neg (by omega)]

/-- A world that differs in draws alone. -/
def Drawn (w w' : World) : Prop := ∃ n, w' = w.drewN n
theorem Drawn.refl (w : World) : Drawn w w := ⟨0, rfl⟩
theorem Drawn.step {w w' : World} (h : Drawn w w') (n : Nat) : Drawn w (w'.drewN n) := by
  obtain ⟨k, rfl⟩ := h
  exact ⟨k + n, by rw [World.drewN_drewN]⟩
theorem Drawn.below {w w' : World} (h : Drawn w w') : Below w.heap.size w w' := by
  obtain ⟨k, rfl⟩ := h
  exact below_drewN (Below.refl _ _) _

end Go.Proofs.Ytlenihncfhemkaa
