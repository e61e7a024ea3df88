/- Slices of structs of four integers: what is known of one that is read; the laws' size. -/
import Derived.Test.YtpklckpnhjhnhaaInts
import Derived.Lib.SmallJoins
namespace Go.Proofs.Ytpklckpnhjhnhaa
open Go.RowKit Go.ChangeShapes Go.WideShapes Go.Deep Go.Joins

/-- Element j, behind a name that the walk does not open. -/
def nthQ (z : List (Int × Int × Int × Int)) (j : Nat) : Int × Int × Int × Int := z.getD j (0, 0, 0, 0)
theorem nthQ_eq {z : List (Int × Int × Int × Int)} {j : Nat} (h : j < z.length) : nthQ z j = z[j] := by simp [nthQ, h]
theorem nthQ_mem {z : List (Int × Int × Int × Int)} {j : Nat} (h : j < z.length) : nthQ z j ∈ z := by rw [nthQ_eq h]; exact List.getElem_mem h
/-- Four cells from offset o on hold an element. -/
def QuadAt (w : World) (b o : Nat) (q : Int × Int × Int × Int) : Prop :=
  w.cell? ⟨b, o, none⟩ = some (.int .i64 q.1) ∧ w.cell? ⟨b, o + 1, none⟩ = some (.int .i64 q.2.1) ∧ w.cell? ⟨b, o + 2, none⟩ = some (.int .i64 q.2.2.1) ∧ w.cell? ⟨b, o + 3, none⟩ = some (.int .i64 q.2.2.2)
theorem QuadAt.lt {w : World} {b o : Nat} {q : Int × Int × Int × Int} (h : QuadAt w b o q) : b < w.heap.size := World.block_lt_of_cell? w _ h.1
theorem QuadAt.below {w w' : World} {b o : Nat} {q : Int × Int × Int × Int} (h : QuadAt w b o q) (hb : Below w.heap.size w w') : QuadAt w' b o q := by
  have hl := h.lt
  obtain ⟨h0, h1, h2, h3⟩ := h
  exact ⟨(hb.cell (p := ⟨b, o, none⟩) hl).trans h0, (hb.cell (p := ⟨b, o + 1, none⟩) hl).trans h1, (hb.cell (p := ⟨b, o + 2, none⟩) hl).trans h2, (hb.cell (p := ⟨b, o + 3, none⟩) hl).trans h3⟩
/-- A slice at 'a' of as many structs as the list reads as the list. -/
def Quads (w : World) (a : Option Addr) (z : List (Int × Int × Int × Int)) : Prop :=
  z = [] ∨ ∃ b o, a = some ⟨b, o, none⟩ ∧ ∀ j, j < z.length → QuadAt w b (o + j * 4) (nthQ z j)
theorem Quads.pos {w : World} {a : Option Addr} {z : List (Int × Int × Int × Int)} (h : Quads w a z) {j : Nat} (hj : j < z.length) :
    ∃ b o, a = some ⟨b, o, none⟩ ∧ QuadAt w b (o + j * 4) (nthQ z j) := by
  rcases h with rfl | ⟨b, o, rfl, hc⟩
  · simp at hj
  · exact ⟨b, o, rfl, hc j hj⟩
theorem Quads.at_ {w : World} {b o : Nat} {z : List (Int × Int × Int × Int)} (h : Quads w (some ⟨b, o, none⟩) z) {j : Nat} (hj : j < z.length) : QuadAt w b (o + j * 4) (nthQ z j) := by
  obtain ⟨b', o', he, h1⟩ := h.pos hj
  obtain ⟨rfl, rfl⟩ : b = b' ∧ o = o' := by simpa using he
  exact h1
theorem Quads.below {w w' : World} {a : Option Addr} {z : List (Int × Int × Int × Int)} (h : Quads w a z) (hb : Below w.heap.size w w') : Quads w' a z := by
  rcases h with rfl | ⟨b, o, rfl, hc⟩
  · exact .inl rfl
  · exact .inr ⟨b, o, rfl, fun j hj => (hc j hj).below hb⟩

theorem quads_open {H : Type} {enc : TypeId × Value → H} {P : Program} {w : World} {base : Nat} {held : Bool} {t e q : TypeId} {f0 f1 f2 f3 : Field} {fuel len cap : Nat} {a : Option Addr} {x : DataW H × List MemPlace}
    (ht : P.underlying t = some (.slice e)) (he : P.underlying e = some (.struct #[f0, f1, f2, f3])) (hq : P.underlying q = some (.int .i64)) (t0 : f0.type = q) (t1 : f1.type = q) (t2 : f2.type = q) (t3 : f3.type = q)
    (hone : oneCellFields P #[f0, f1, f2, f3] = true) (ce : P.cellsOf e = 4)
    (hf : DataW.trod enc P w base (fun _ => true) held fuel t (Value.cells (.slice a len cap)).toList = some x) :
    ∃ z : List (Int × Int × Int × Int), z.length = len ∧ Quads w a z ∧ z.length ≤ maxLen := by
  rcases open_slice ht hf with ⟨hcs, _⟩ | ⟨ad, l, c, m, n, D, Pl, hcs, _, hl, hm, hmm, _, hx⟩
  · simp [Value.cells] at hcs
    obtain ⟨rfl, rfl, rfl⟩ := hcs
    exact ⟨[], rfl, .inl rfl, Nat.zero_le _⟩
  · simp [Value.cells] at hcs
    obtain ⟨rfl, rfl, rfl⟩ := hcs
    simp only [if_true] at hmm
    have hmm' := hmm.symm
    subst hmm'
    have each : ∀ j, j < len → ∃ y : Int × Int × Int × Int, w.cell? (ad.add (j * 4)) = some (.int .i64 y.1) ∧ w.cell? (ad.add (j * 4 + 1)) = some (.int .i64 y.2.1) ∧
        w.cell? (ad.add (j * 4 + 2)) = some (.int .i64 y.2.2.1) ∧ w.cell? (ad.add (j * 4 + 3)) = some (.int .i64 y.2.2.2) := by
      intro j hj
      obtain ⟨cs, h1, h2⟩ := hx j (by omega)
      rw [ce] at h1
      obtain ⟨_, hlen, hcell⟩ := World.cells?_some h1
      obtain ⟨y0, y1, y2, y3, k, _, _, g0, g1, g2, g3⟩ := trod_struct4 he h2
      obtain ⟨o0, k0⟩ := hone_of hone 0 f0 rfl
      obtain ⟨o1, k1⟩ := hone_of hone 1 f1 rfl
      obtain ⟨o2, k2⟩ := hone_of hone 2 f2 rfl
      obtain ⟨o3, k3⟩ := hone_of hone 3 f3 rfl
      match cs, hlen with
      | [v0, v1, v2, v3], _ =>
        rw [o0, k0, t0] at g0
        rw [o1, k1, t1] at g1
        rw [o2, k2, t2] at g2
        rw [o3, k3, t3] at g3
        obtain ⟨a0, e0, _, _⟩ := DataW.trod_int hq g0
        obtain ⟨a1, e1, _, _⟩ := DataW.trod_int hq g1
        obtain ⟨a2, e2, _, _⟩ := DataW.trod_int hq g2
        obtain ⟨a3, e3, _, _⟩ := DataW.trod_int hq g3
        simp at e0 e1 e2 e3
        subst e0 e1 e2 e3
        have c0 := hcell 0 (by omega)
        have c1 := hcell 1 (by omega)
        have c2 := hcell 2 (by omega)
        have c3 := hcell 3 (by omega)
        rw [Go.Deep.add_add] at c0 c1 c2 c3
        exact ⟨(a0, a1, a2, a3), by simpa using c0, by simpa using c1, by simpa using c2, by simpa using c3⟩
    obtain ⟨y, hy⟩ := choose_lt each
    have hnth : ∀ j, j < len → nthQ ((List.range len).map y) j = y j := fun j hj => by simp [nthQ, List.getD_eq_getElem?_getD, hj]
    refine ⟨(List.range len).map y, by simp, ?_, by simp; omega⟩
    by_cases h0 : len = 0
    · subst h0; exact .inl (by simp)
    · obtain ⟨b, o, s⟩ := ad
      have hs : s = none := by simpa [Addr.add] using World.cell?_spot (hy 0 (by omega)).1
      subst hs
      refine .inr ⟨b, o, rfl, fun j hj => ?_⟩
      have hjl : j < len := by simpa using hj
      obtain ⟨h1, h2, h3, h4⟩ := hy j hjl
      rw [add_at] at h1 h2 h3 h4
      rw [hnth j hjl]
      exact ⟨h1, h2, h3, h4⟩

/-- p holds of the first k elements. -/
def QAllTo (p : Int × Int × Int × Int → Bool) (z : List (Int × Int × Int × Int)) (k : Nat) : Prop := ∀ j, j < k → p (nthQ z j) = true
theorem QAllTo.zero (p : Int × Int × Int × Int → Bool) (z : List (Int × Int × Int × Int)) : QAllTo p z 0 := fun _ h => absurd h (Nat.not_lt_zero _)
theorem QAllTo.step {p : Int × Int × Int × Int → Bool} {z : List (Int × Int × Int × Int)} {k : Nat} (h : QAllTo p z k) (hk : p (nthQ z k) = true) : QAllTo p z (k + 1) := fun j hj => by
  rcases Nat.lt_or_eq_of_le (Nat.le_of_lt_succ hj) with h1 | rfl
  · exact h j h1
  · exact hk
theorem QAllTo.all {p : Int × Int × Int × Int → Bool} {z : List (Int × Int × Int × Int)} (h : QAllTo p z z.length) : z.all p = true := by
  rw [List.all_eq_true]
  intro x hx
  obtain ⟨j, hj, rfl⟩ := List.getElem_of_mem hx
  rw [← nthQ_eq hj]; exact h j hj
theorem qall_not {p : Int × Int × Int × Int → Bool} {z : List (Int × Int × Int × Int)} {k : Nat} (hk : k < z.length) (h : p (nthQ z k) = false) : z.all p = false := by
  rw [Bool.eq_false_iff]
  intro ha
  rw [List.all_eq_true] at ha
  rw [ha _ (nthQ_mem hk)] at h
  cases h
theorem qall_nth {p : Int × Int × Int × Int → Bool} {z : List (Int × Int × Int × Int)} (h : z.all p = true) {k : Nat} (hk : k < z.length) : p (nthQ z k) = true := by
  rw [List.all_eq_true] at h; exact h _ (nthQ_mem hk)

/-- The cell at place c of a row that holds the first k elements, zero behind. -/
def cellQ (z : List (Int × Int × Int × Int)) (k c : Nat) : Value :=
  .int .i64 (if c / 4 < k then (if c % 4 = 0 then (nthQ z (c / 4)).1 else if c % 4 = 1 then (nthQ z (c / 4)).2.1 else if c % 4 = 2 then (nthQ z (c / 4)).2.2.1 else (nthQ z (c / 4)).2.2.2) else 0)
theorem quad_made (w : World) (t : TypeId) (n : Nat) (z : List (Int × Int × Int × Int)) : (w.alloc (.cells (madeCells #[.int .i64 0, .int .i64 0, .int .i64 0, .int .i64 0] (n * 4)) t)).rowIs w.heap.size t (n * 4) (cellQ z 0) := by
  have h := World.rowIs_alloc w (madeCells #[.int .i64 0, .int .i64 0, .int .i64 0, .int .i64 0] (n * 4)) t (cellQ z 0) (fun i hi => by
    rw [size_madeCells] at hi
    have h4 : i % 4 = 0 ∨ i % 4 = 1 ∨ i % 4 = 2 ∨ i % 4 = 3 := by omega
    rcases h4 with e | e | e | e <;> simp [madeCells, hi, cellQ, e])
  rwa [size_madeCells] at h
theorem quad_row {w : World} {g : Nat} {t : TypeId} {z : List (Int × Int × Int × Int)} {n k : Nat} (h : w.rowIs g t (n * 4) (cellQ z k)) {j : Nat} (hj : j < k) (hn : j < n) : QuadAt w g (j * 4) (nthQ z j) := by
  have c0 := h.cell (i := j * 4) (by omega)
  have c1 := h.cell (i := j * 4 + 1) (by omega)
  have c2 := h.cell (i := j * 4 + 2) (by omega)
  have c3 := h.cell (i := j * 4 + 3) (by omega)
  have d0 : j * 4 / 4 = j := by omega
  have d1 : (j * 4 + 1) / 4 = j := by omega
  have d2 : (j * 4 + 2) / 4 = j := by omega
  have d3 : (j * 4 + 3) / 4 = j := by omega
  have r0 : j * 4 % 4 = 0 := by omega
  have r1 : (j * 4 + 1) % 4 = 1 := by omega
  have r2 : (j * 4 + 2) % 4 = 2 := by omega
  have r3 : (j * 4 + 3) % 4 = 3 := by omega
  exact ⟨by simpa [cellQ, d0, r0, hj] using c0, by simpa [cellQ, d1, r1, hj] using c1, by simpa [cellQ, d2, r2, hj] using c2, by simpa [cellQ, d3, r3, hj] using c3⟩
theorem Quads.row {w : World} {g : Nat} {t : TypeId} {z : List (Int × Int × Int × Int)} (h : w.rowIs g t (z.length * 4) (cellQ z z.length)) : Quads w (some ⟨g, 0, none⟩) z :=
  .inr ⟨g, 0, rfl, fun j hj => by rw [Nat.zero_add]; exact quad_row h hj hj⟩
theorem quad_step {w : World} {g : Nat} {t : TypeId} {z : List (Int × Int × Int × Int)} {n k : Nat} (h : w.rowIs g t (n * 4) (cellQ z k)) :
    ((((w.setCell ⟨g, k * 4, none⟩ (.int .i64 (nthQ z k).1)).setCell ⟨g, k * 4 + 1, none⟩ (.int .i64 (nthQ z k).2.1)).setCell ⟨g, k * 4 + 2, none⟩ (.int .i64 (nthQ z k).2.2.1)).setCell ⟨g, k * 4 + 3, none⟩ (.int .i64 (nthQ z k).2.2.2)).rowIs g t (n * 4) (cellQ z (k + 1)) := by
  refine ((((h.set (k * 4) _).set (k * 4 + 1) _).set (k * 4 + 2) _).set (k * 4 + 3) _).congr fun i _ => ?_
  by_cases e3 : i = k * 4 + 3
  · subst e3
    have d : (k * 4 + 3) / 4 = k := by omega
    have r : (k * 4 + 3) % 4 = 3 := by omega
    simp [cellQ, d, r]
  by_cases e2 : i = k * 4 + 2
  · subst e2
    have d : (k * 4 + 2) / 4 = k := by omega
    have r : (k * 4 + 2) % 4 = 2 := by omega
    simp [cellQ, d, r]
  by_cases e1 : i = k * 4 + 1
  · subst e1
    have d : (k * 4 + 1) / 4 = k := by omega
    have r : (k * 4 + 1) % 4 = 1 := by omega
    simp [cellQ, d, r]
  by_cases e0 : i = k * 4
  · subst e0
    have d : k * 4 / 4 = k := by omega
    have r : k * 4 % 4 = 0 := by omega
    simp [cellQ, d, r]
  rw [if_neg e3, if_neg e2, if_neg e1, if_neg e0]
  unfold cellQ
  by_cases h1 : i / 4 < k
  · have h2 : i / 4 < k + 1 := by omega
    rw [if_pos h1, if_pos h2]
  · have h2 : ¬ i / 4 < k + 1 := by omega
    rw [if_neg h1, if_neg h2]
theorem run_make4 {P : Program} (t e : TypeId) (q : Value) (bytes : Nat) (ht : P.underlying t = some (.slice e)) (hinfo : (P.info? e).map (fun i => (i.zero, i.size, i.bytes)) = some (some (.agg #[q, q, q, q]), 4, bytes)) (hq : (Value.agg #[q, q, q, q]).cells = #[q, q, q, q])
    (kl kc : IntKind) (n : Nat) (hbytes : bytes * n ≤ 281474976710656) (h63 : n ≤ 9223372036854775807) (w : World) :
    (Instr.makeSlice t (.int kl (n : Int)) (.int kc (n : Int))).run P w = .ok (.slice (some ⟨w.heap.size, 0, none⟩) n n) (w.alloc (.cells (madeCells #[q, q, q, q] (n * 4)) e)) := by
  obtain ⟨i, hi, hzz⟩ := Option.map_eq_some_iff.1 hinfo
  simp only [Prod.mk.injEq] at hzz
  obtain ⟨hz, hs, hb⟩ := hzz
  have h := run_make (P := P) (w := w) t e i _ ht hi hz kl kc n n (Int.natCast_nonneg _) (Int.le_refl _) (by rw [hb]; omega) (by omega)
  rw [hs, hq] at h
  simpa using h
/-- Two elements' cells, kept by what lays new blocks. -/
theorem keepQ {w1 w2 : World} {b o : Nat} {q : Int × Int × Int × Int} (d : QuadAt w1 b o q) (h : Below w1.heap.size w1 w2) :
    w2.cell? ⟨b, o, none⟩ = some (.int .i64 q.1) ∧ w2.cell? ⟨b, o + 1, none⟩ = some (.int .i64 q.2.1) ∧ w2.cell? ⟨b, o + 2, none⟩ = some (.int .i64 q.2.2.1) ∧ w2.cell? ⟨b, o + 3, none⟩ = some (.int .i64 q.2.2.2) ∧ Below w1.heap.size w1 w2 := by
  obtain ⟨e0, e1, e2, e3⟩ := d.below h
  exact ⟨e0, e1, e2, e3, h⟩
theorem keepQQ {w1 w2 : World} {b o b' o' : Nat} {q q' : Int × Int × Int × Int} (d : QuadAt w1 b o q) (d' : QuadAt w1 b' o' q') (h : Below w1.heap.size w1 w2) :
    w2.cell? ⟨b, o, none⟩ = some (.int .i64 q.1) ∧ w2.cell? ⟨b, o + 1, none⟩ = some (.int .i64 q.2.1) ∧ w2.cell? ⟨b, o + 2, none⟩ = some (.int .i64 q.2.2.1) ∧ w2.cell? ⟨b, o + 3, none⟩ = some (.int .i64 q.2.2.2) ∧
    w2.cell? ⟨b', o', none⟩ = some (.int .i64 q'.1) ∧ w2.cell? ⟨b', o' + 1, none⟩ = some (.int .i64 q'.2.1) ∧ w2.cell? ⟨b', o' + 2, none⟩ = some (.int .i64 q'.2.2.1) ∧ w2.cell? ⟨b', o' + 3, none⟩ = some (.int .i64 q'.2.2.2) ∧ Below w1.heap.size w1 w2 := by
  obtain ⟨e0, e1, e2, e3⟩ := d'.below h
  obtain ⟨f0, f1, f2, f3⟩ := d.below h
  exact ⟨f0, f1, f2, f3, e0, e1, e2, e3, h⟩
end Go.Proofs.Ytpklckpnhjhnhaa
