/- The reference's source of choices: what its methods leave and in which bounds their answers lie. -/
import Derived.Test.YtlenihncfhemkaaInts
import Derived.Laws.BitsLemmas
import Derived.Laws.Bits64
namespace Go.Proofs.Ytlenihncfhemkaa
open Go.RowKit Go.ChangeShapes Go.WideShapes
set_option linter.unusedVariables false

/-- At most one block that was there is written. -/
structure Only (b : Nat) (w w' : World) : Prop where
  os : w'.os = w.os
  tape : w'.tape = w.tape
  output : w'.output = w.output
  size : w.heap.size ≤ w'.heap.size
  block : ∀ k, k < w.heap.size → k ≠ b → w'.heap[k]? = w.heap[k]?
theorem Only.refl (b : Nat) (w : World) : Only b w w := ⟨rfl, rfl, rfl, Nat.le_refl _, fun _ _ _ => rfl⟩
theorem Only.trans {b : Nat} {w w1 w2 : World} (h : Only b w w1) (k : Only b w1 w2) : Only b w w2 :=
  ⟨k.os.trans h.os, k.tape.trans h.tape, k.output.trans h.output, Nat.le_trans h.size k.size, fun i h1 h2 => (k.block i (Nat.lt_of_lt_of_le h1 h.size) h2).trans (h.block i h1 h2)⟩
theorem Only.below {b B : Nat} {w w' : World} (h : Only b w w') (hb : B ≤ b) (hs : B ≤ w.heap.size) : Below B w w' :=
  ⟨h.os, h.tape, h.output, h.size, fun k hk => h.block k (by omega) (by omega)⟩
theorem Only.of_below {b : Nat} {w w' : World} (h : Below w.heap.size w w') : Only b w w' := ⟨h.os, h.tape, h.output, h.size, fun k hk _ => h.block k hk⟩
theorem Only.cell {b : Nat} {w w' : World} (h : Only b w w') {p : Addr} (h1 : p.block < w.heap.size) (h2 : p.block ≠ b) : w'.cell? p = w.cell? p := World.cell?_of_block (w := w) (h.block p.block h1 h2)
theorem Only.frozen {b : Nat} {w w' : World} (h : Only b w w') {p : Addr} (h1 : p.block < w.heap.size) (h2 : p.block ≠ b) : w'.frozen? p = w.frozen? p := World.frozen?_of_block (w := w) (h.block p.block h1 h2)
theorem Only.setCell {b : Nat} {a w : World} (h : Only b a w) {p : Addr} (hp : p.block = b) (u : Value) : Only b a (w.setCell p u) :=
  ⟨h.os, h.tape, h.output, by simpa using h.size, fun k hk hne => (Below.heap_setCell w p u k (by omega)).trans (h.block k hk hne)⟩
theorem Only.drewN {b : Nat} {a w : World} (h : Only b a w) (n : Nat) : Only b a (w.drewN n) := ⟨h.os, h.tape, h.output, h.size, h.block⟩

/-- Bytes. -/
def Bytes (z : List Int) : Prop := ∀ j, j < z.length → 0 ≤ nth z j ∧ nth z j ≤ 255
/-- The source at block b: its bytes, the place that it has reached, a seed. -/
def Src (b : Nat) (w : World) (a : Option Addr) (cap : Nat) (z : List Int) (n : Int) : Prop :=
  (w.cell? ⟨b, 0, none⟩ = some (.slice a z.length cap) ∧ w.cell? ⟨b, 1, none⟩ = some (.int .i64 n) ∧ ∃ s, w.cell? ⟨b, 2, none⟩ = some (.int .u64 s)) ∧
  (w.frozen? ⟨b, 1, none⟩ = false ∧ w.frozen? ⟨b, 2, none⟩ = false) ∧ Nums .u8 w a z ∧ (Bytes z ∧ z.length ≤ 1048576) ∧ (0 < z.length → ∀ q, a = some q → q.block ≠ b)

theorem Src.step {b : Nat} {a : Option Addr} {cap : Nat} {z : List Int} {n : Int} {w : World} (h : Src b w a cap z n) (m m' : Nat) (u : Int) :
    Src b ((((w.drewN m).setCell ⟨b, 1, none⟩ (.int .i64 (n + 1))).setCell ⟨b, 2, none⟩ (.int .u64 u)).drewN m') a cap z (n + 1) ∧
    Only b w ((((w.drewN m).setCell ⟨b, 1, none⟩ (.int .i64 (n + 1))).setCell ⟨b, 2, none⟩ (.int .u64 u)).drewN m') := by
  obtain ⟨⟨c0, c1, s, c2⟩, ⟨f1, f2⟩, hz, hB, ha⟩ := h
  have hO : Only b w ((((w.drewN m).setCell ⟨b, 1, none⟩ (.int .i64 (n + 1))).setCell ⟨b, 2, none⟩ (.int .u64 u)).drewN m') := ((((Only.refl b w).drewN m).setCell rfl _).setCell rfl _).drewN m'
  refine ⟨⟨⟨?_, ?_, u, ?_⟩, ⟨by simpa using f1, by simpa using f2⟩, ?_, hB, ha⟩, hO⟩
  · exact (World.cell?_setCell_other _ _ _ _ (by simp)).trans ((World.cell?_setCell_other _ _ _ _ (by simp)).trans c0)
  · exact (World.cell?_setCell_other _ _ _ _ (by simp)).trans (World.cell?_setCell_same (w.drewN m) _ _ c1)
  · exact World.cell?_setCell_same _ _ _ ((World.cell?_setCell_other _ _ _ _ (by simp)).trans c2)
  · rcases hz with rfl | ⟨b2, o2, rfl, hc⟩
    · exact .inl rfl
    · refine .inr ⟨b2, o2, rfl, fun j hj => ?_⟩
      have h1 := hc j hj
      exact (hO.cell (p := ⟨b2, o2 + j, none⟩) (World.block_lt_of_cell? _ _ h1) (show b2 ≠ b from ha (by omega) ⟨b2, o2, none⟩ rfl)).trans h1

theorem wraps_63 (n : Int) (h₀ : 0 ≤ n) (h₁ : n < 2 ^ 63) : IntKind.u64.wrap n = n := by rw [IntKind.wrap_u64]; omega
theorem mask_bd (x : Int) : 0 ≤ wrap64 (bits BinOp.and IntKind.u64 (IntKind.u64.wrap x / 1099511627776) 255) ∧ wrap64 (bits BinOp.and IntKind.u64 (IntKind.u64.wrap x / 1099511627776) 255) ≤ 255 := by
  have hx : 0 ≤ IntKind.u64.wrap x ∧ IntKind.u64.wrap x < 18446744073709551616 := by rw [IntKind.wrap_u64]; omega
  have h := bits_mask .u64 63 (by decide) wraps_63 8 (by decide) (IntKind.u64.wrap x / 1099511627776) (by omega) (by omega)
  have e : ((2 : Int) ^ 8 - 1) = 255 := by decide
  have e2 : ((2 : Int) ^ 8) = 256 := by decide
  rw [e, e2] at h
  rw [h]
  unfold wrap64
  omega
theorem next_c (b : Nat) (a : Option Addr) (cap : Nat) (z : List Int) (n : Int) (w : World) (h : Src b w a cap z n) (h0 : 0 ≤ n) (h1 : n ≤ 1099511627776) :
    Calls Try.prog 40 #[.pointer (some ⟨b, 0, none⟩)] w fun e w' => ∃ x : Int, e = .returned (.int .i64 x) ∧ (0 ≤ x ∧ x ≤ 255) ∧ Src b w' a cap z (n + 1) ∧ Only b w w' := by
  have HS := Lib.hid h
  obtain ⟨⟨c0, c1, s, c2⟩, ⟨f1, f2⟩, hz, ⟨hB, hl⟩, ha⟩ := h
  by_cases hlt : n < z.length
  · obtain ⟨k, rfl⟩ : ∃ k : Nat, n = k := ⟨n.toNat, by omega⟩
    obtain ⟨b2, o2, rfl, hb2, hc⟩ := hz.pos (j := k) (by omega)
    have hne : b2 ≠ b := ha (by omega) _ rfl
    have hv := hB k (by omega)
    have d1 : decide ((k : Int) < (z.length : Int)) = true := decide_eq_true hlt
    have d2 : decide ((k : Int) + 1 ≤ (z.length : Int)) = true := decide_eq_true (by omega)
    go_enter Try.func40, Try.ntmps40
    go_wp2_with fail
    go_quiet (fail)
    go_wp2_with fail
    go_quiet (fail)
    go_wp2_with fail
    go_quiet (fail)
    go_wp2
    go_returns
    exact ⟨_, rfl, hv, (HS.out.step _ _ _).1, (HS.out.step _ _ _).2⟩
  · have d1 : decide (n < (z.length : Int)) = false := decide_eq_false hlt
    have d2 : decide (n + 1 ≤ (z.length : Int)) = false := decide_eq_false (by omega)
    go_enter Try.func40, Try.ntmps40
    go_wp2_with fail
    go_quiet (fail)
    go_wp2_with fail
    go_quiet (fail)
    go_wp2
    go_returns
    exact ⟨_, rfl, mask_bd _, (HS.out.step _ _ _).1, (HS.out.step _ _ _).2⟩

theorem Src.keep {b : Nat} {w w' : World} {a : Option Addr} {cap : Nat} {z : List Int} {n : Int} (h : Src b w a cap z n) (hb : Below w.heap.size w w') : Src b w' a cap z n := by
  obtain ⟨⟨c0, c1, s, c2⟩, ⟨f1, f2⟩, hz, hB, ha⟩ := h
  have hlt : b < w.heap.size := World.block_lt_of_cell? w _ c0
  exact ⟨⟨(hb.cell (p := ⟨b, 0, none⟩) hlt).trans c0, (hb.cell (p := ⟨b, 1, none⟩) hlt).trans c1, s, (hb.cell (p := ⟨b, 2, none⟩) hlt).trans c2⟩, ⟨(hb.frozen (p := ⟨b, 1, none⟩) hlt).trans f1, (hb.frozen (p := ⟨b, 2, none⟩) hlt).trans f2⟩, hz.below hb, hB, ha⟩
theorem Src.lt {b : Nat} {w : World} {a : Option Addr} {cap : Nat} {z : List Int} {n : Int} (h : Src b w a cap z n) : b < w.heap.size := World.block_lt_of_cell? w _ h.1.1
theorem Src.alloc {b : Nat} {w : World} {a : Option Addr} {cap : Nat} {z : List Int} {n : Int} (h : Src b w a cap z n) (o : Obj) : Src b (w.alloc o) a cap z n := h.keep ((Below.refl _ _).alloc (Nat.le_refl _) _)
theorem Only.alloc {b : Nat} {w w' : World} (h : Only b w w') (o : Obj) : Only b w (w'.alloc o) := h.trans (.of_below ((Below.refl _ _).alloc (Nat.le_refl _) _))
theorem new_nums (w : World) (xs : List Int) (t : TypeId) : ∀ j, j < xs.length → (w.alloc (.cells (xs.map (Value.int .i64)).toArray t)).cell? ⟨w.heap.size, j, none⟩ = some (.int .i64 (nth xs j)) := by
  intro j hj
  simp only [World.cell?, World.alloc, Array.getElem?_push_size]
  simp [nth, hj]

/-- A number from 0 to n - 1; 0 where n is 1 or less. -/
theorem pick_c (b : Nat) (a : Option Addr) (cap : Nat) (z : List Int) (m n : Int) (w : World) (h : Src b w a cap z n) (h0 : 0 ≤ n) (h1 : n ≤ 1000000000000) (hm0 : 2 ≤ m) (hm1 : m ≤ 200) :
    Calls Try.prog 37 #[.pointer (some ⟨b, 0, none⟩), .int .i64 m] w fun e w' => ∃ (x : Int) (k : Int), e = .returned (.int .i64 x) ∧ (0 ≤ x ∧ x < m) ∧ (n ≤ k ∧ k ≤ n + 2) ∧ Src b w' a cap z k ∧ Only b w w' := by
  have HS := Lib.hid h
  clear h
  go_enter Try.func37, Try.ntmps37
  go_wp2_with fail
  refine (next_c b a cap z n _ HS.out h0 (by omega)).mono ?_
  rintro e w1 ⟨x, rfl, hx, hs1, ho1⟩
  have HS1 := Lib.hid hs1
  have HO1 := Lib.hid ho1
  have HR := Lib.hid (And.intro (Int.emod_nonneg x (show m ≠ 0 by omega)) (Int.emod_lt_of_pos x (show 0 < m by omega)))
  clear hs1 ho1
  go_wp2
  go_ret
  exact ⟨_, n + 1, rfl, HR.out, by omega, HS1.out, HO1.out⟩
theorem pick2_c (b : Nat) (a : Option Addr) (cap : Nat) (z : List Int) (m n : Int) (w : World) (h : Src b w a cap z n) (h0 : 0 ≤ n) (h1 : n ≤ 1000000000000) (hm0 : 200 < m) (hm1 : m ≤ 1000) :
    Calls Try.prog 37 #[.pointer (some ⟨b, 0, none⟩), .int .i64 m] w fun e w' => ∃ (x : Int) (k : Int), e = .returned (.int .i64 x) ∧ (0 ≤ x ∧ x < m) ∧ (n ≤ k ∧ k ≤ n + 2) ∧ Src b w' a cap z k ∧ Only b w w' := by
  have HS := Lib.hid h
  clear h
  go_enter Try.func37, Try.ntmps37
  go_wp2_with fail
  refine (next_c b a cap z n _ HS.out h0 (by omega)).mono ?_
  rintro e w1 ⟨x, rfl, hx, hs1, ho1⟩
  have HS1 := Lib.hid hs1
  have HO1 := Lib.hid ho1
  clear hs1 ho1
  go_wp2_with fail
  refine (next_c b a cap z (n + 1) _ HS1.out (by omega) (by omega)).mono ?_
  rintro e w2 ⟨y, rfl, hy, hs2, ho2⟩
  have HS2 := Lib.hid hs2
  have HO2 := Lib.hid ho2
  have HR := Lib.hid (And.intro (Int.emod_nonneg (x * 256 + y) (show m ≠ 0 by omega)) (Int.emod_lt_of_pos (x * 256 + y) (show 0 < m by omega)))
  clear hs2 ho2
  go_wp2
  go_ret
  exact ⟨_, n + 1 + 1, rfl, HR.out, by omega, HS2.out, HO1.out.trans HO2.out⟩
/-- A new source. -/
theorem l00From_c (a : Option Addr) (cap : Nat) (z : List Int) (w : World) (hz : Nums .u8 w a z) (hB : Bytes z) (hl : z.length ≤ 1048576) :
    Calls Try.prog 19 #[.slice a z.length cap] w fun e w' => e = .returned (.pointer (some ⟨w.heap.size, 0, none⟩)) ∧ Src w.heap.size w' a cap z 0 ∧ Below w.heap.size w w' := by
  have HZ := Lib.hid hz
  clear hz
  go_enter Try.func19, Try.ntmps19
  go_wp2
  go_ret
  refine ⟨rfl, ⟨⟨by go_cell, by go_cell, 0, by go_cell⟩, ⟨by go_cell, by go_cell⟩, HZ.out.below ((Below.refl _ _).alloc (Nat.le_refl _) _), ⟨hB, hl⟩, fun hz0 q hq => ?_⟩, (Below.refl _ _).alloc (Nat.le_refl _) _⟩
  rcases HZ.out with rfl | ⟨b2, o2, rfl, hc⟩
  · simp at hz0
  · cases hq
    have := World.block_lt_of_cell? _ _ (hc 0 hz0)
    simp at this ⊢
    omega
end Go.Proofs.Ytlenihncfhemkaa
