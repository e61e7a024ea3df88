/- The neighbours of a place, whether it lies at the edge, and a place as two numbers. -/
import Derived.Test.YtlenihncfhemkaaPlaces
import Derived.Test.YtlenihncfhemkaaOwnInts
import Derived.Test.YtlenihncfhemkaaMark
namespace Go.Proofs.Ytlenihncfhemkaa
open Go.RowKit Go.ChangeShapes Go.WideShapes
set_option linter.unusedVariables false

/-- The places beside one, of the grid or not. -/
def cand (p : Nat × Nat) : Nat → Int × Int
  | 0 => ((p.1 : Int) - 1, p.2)
  | 1 => (p.1, (p.2 : Int) - 1)
  | 2 => (p.1, (p.2 : Int) + 1)
  | _ => ((p.1 : Int) + 1, p.2)
def inGB (n m : Nat) (q : Int × Int) : Bool := decide (0 ≤ q.1 ∧ 0 ≤ q.2 ∧ q.1 < n ∧ q.2 < m)
def natP (q : Int × Int) : Nat × Nat := (q.1.toNat, q.2.toNat)
theorem natP_at {n m : Nat} {q : Int × Int} (h : inGB n m q = true) : (q.1 = (natP q).1 ∧ q.2 = (natP q).2) ∧ (natP q).1 < n ∧ (natP q).2 < m := by
  have h' := of_decide_eq_true h
  unfold natP
  omega
/-- The first k neighbours that lie in the grid. -/
def nearTo (n m : Nat) (p : Nat × Nat) (k : Nat) : List (Nat × Nat) := ((List.range k).filter fun j => inGB n m (cand p j)).map fun j => natP (cand p j)
theorem nearTo_no {n m : Nat} {p : Nat × Nat} {k : Nat} (h : inGB n m (cand p k) = false) : nearTo n m p (k + 1) = nearTo n m p k := by simp [nearTo, List.range_succ, List.filter_append, h]
theorem nearTo_yes {n m : Nat} {p : Nat × Nat} {k : Nat} (h : inGB n m (cand p k) = true) : nearTo n m p (k + 1) = nearTo n m p k ++ [natP (cand p k)] := by simp [nearTo, List.range_succ, List.filter_append, h]
theorem nearTo_len (n m : Nat) (p : Nat × Nat) (k : Nat) : (nearTo n m p k).length ≤ k := by
  unfold nearTo
  rw [List.length_map]
  exact Nat.le_trans (List.length_filter_le _ _) (by simp)
theorem nearTo_in {n m : Nat} {p : Nat × Nat} {k : Nat} {q : Nat × Nat} (h : q ∈ nearTo n m p k) : q.1 < n ∧ q.2 < m := by
  simp only [nearTo, List.mem_map, List.mem_filter] at h
  obtain ⟨j, ⟨_, hj⟩, rfl⟩ := h
  exact (natP_at hj).2
/-- The neighbours of a place. -/
def nearL (g : List (List Int)) (p : Nat × Nat) : List (Nat × Nat) := nearTo g.length (nthL g 0).length p 4

set_option maxRecDepth 100000 in
theorem near_c (a : Option Addr) (cap : Nat) (g : List (List Int)) (p : Nat × Nat) (w : World) (h : Grid w a g) (hs : Small g) (h1 : p.1 < g.length) (h2 : p.2 < 1048576) :
    Calls Try.prog 26 #[.agg #[.int .i64 p.1, .int .i64 p.2], .slice a g.length cap] w fun e w' => ∃ v, e = .returned v ∧ (w'.ownsRow w.heap.size 43 2 v (nearL g p).length (plCells (nearL g p)) ∧ v ≠ .slice none 0 0 ∧ Below w.heap.size w w') := by
  obtain ⟨i0, hi, hz0, hz1, hz2⟩ := info_parts infoP
  have hn := hs.len
  have hr0 := hs.row (j := 0) (by omega)
  have HA := Lib.hid (show Below w.heap.size w (w.alloc (.cells #[.int .i64 p.1, .int .i64 p.2] 43)) from (Below.refl _ _).alloc (Nat.le_refl _) _)
  have e0 : (w.alloc (.cells #[.int .i64 p.1, .int .i64 p.2] 43)).cell? ⟨w.heap.size, 0, none⟩ = some (.int .i64 p.1) := by go_cell
  have e1 : (w.alloc (.cells #[.int .i64 p.1, .int .i64 p.2] 43)).cell? ⟨w.heap.size, 1, none⟩ = some (.int .i64 p.2) := by go_cell
  have HF := Lib.hid (show nearL g p = nearTo g.length (nthL g 0).length p 4 from rfl)
  go_enter Try.func26, Try.ntmps26
  go_wp2_with fail
  clear e0 e1
  obtain ⟨w0, hw0⟩ : ∃ w0 : World, w0 = w.alloc (.cells #[.int .i64 p.1, .int .i64 p.2] 43) := ⟨_, rfl⟩
  rw [← hw0] at HA ⊢
  have hz0' : w.heap.size + 1 = w0.heap.size := by rw [hw0]; simp
  rw [hz0']
  have hsz0 : w.heap.size ≤ w0.heap.size := by omega
  clear hw0
  have HZ := Lib.hid hz0'
  clear hz0'
  go_loopw [5, 34] (fun v i wr => ∃ k : Nat, k ≤ 4 ∧ i = .int .i64 k ∧ wr.ownsRow w.heap.size 43 2 v (nearTo g.length (nthL g 0).length p k).length (plCells (nearTo g.length (nthL g 0).length p k)) ∧ v ≠ .slice none 0 0 ∧ Below w.heap.size w wr) (fun _ i _ => 4 - (intOf i).toNat)
  case atStart => exact ⟨0, Nat.zero_le _, rfl, World.ownsRow_made w0 #[] 0 hsz0 (Nat.zero_le _) rfl, by simp, HA.out.alloc hsz0 _⟩
  case round =>
    obtain ⟨k, hk, rfl, hown, hnn, hbl⟩ := hrel
    have HO := Lib.hid hown
    have HL := Lib.hid hbl
    have HN := Lib.hid hnn
    have HNL := Lib.hid (nearTo_len g.length (nthL g 0).length p k)
    by_cases hlt : k < 4
    · obtain ⟨b, o, rfl, hb, ar, cr, hc, hnu⟩ := (h.below hbl).pos (j := 0) (by omega)
      rw [Nat.add_zero] at hc
      obtain ⟨x, y, hq, hx, hy⟩ : ∃ x y : Int, cand p k = (x, y) ∧ (-1 ≤ x ∧ x ≤ 1048577) ∧ (-1 ≤ y ∧ y ≤ 1048577) := by
        refine ⟨(cand p k).1, (cand p k).2, rfl, ?_⟩
        obtain rfl | rfl | rfl | rfl : k = 0 ∨ k = 1 ∨ k = 2 ∨ k = 3 := by omega
        all_goals (simp only [cand]; omega)
      have hidx : ∀ w : World, (Instr.index 60 (.agg #[.int .i64 ((p.1 : Int) - 1), .int .i64 p.2, .int .i64 p.1, .int .i64 ((p.2 : Int) - 1), .int .i64 p.1, .int .i64 ((p.2 : Int) + 1), .int .i64 ((p.1 : Int) + 1), .int .i64 p.2]) (.int .i64 k)).run Try.prog w = .ok (.agg #[.int .i64 x, .int .i64 y]) w := by
        intro w
        obtain rfl | rfl | rfl | rfl : k = 0 ∨ k = 1 ∨ k = 2 ∨ k = 3 := by omega
        all_goals (simp only [cand, Prod.mk.injEq] at hq; obtain ⟨rfl, rfl⟩ := hq; kernel_rfl)
      have HQ := Lib.hid hq
      clear hq hown hbl hnn hnu h
      have HAA := Lib.hid (show Below wr.heap.size wr (wr.alloc (.cells #[.int .i64 x, .int .i64 y] 43)) from (Below.refl _ _).alloc (Nat.le_refl _) _)
      have e0 : (wr.alloc (.cells #[.int .i64 x, .int .i64 y] 43)).cell? ⟨wr.heap.size, 0, none⟩ = some (.int .i64 x) := by go_cell
      have e1 : (wr.alloc (.cells #[.int .i64 x, .int .i64 y] 43)).cell? ⟨wr.heap.size, 1, none⟩ = some (.int .i64 y) := by go_cell
      have hc' := (HAA.out.cell (p := ⟨b, o, none⟩) hb).trans hc
      go_wp2_with fail
      generalize wr.alloc (.cells #[.int .i64 x, .int .i64 y] 43) = wA at HAA e0 e1 hc' ⊢
      clear hc hidx
      by_cases t0 : 0 ≤ x
      rotate_left
      · have d0 : decide (0 ≤ x) = false := decide_eq_false t0
        have HB := Lib.hid (show inGB g.length (nthL g 0).length (cand p k) = false by rw [HQ.out]; exact decide_eq_false (by simp only; omega))
        have HE := Lib.hid (nearTo_no HB.out)
        go_quiet (fail)
        go_wp2
        go_roundw
        case rel => exact ⟨k + 1, by omega, by go_num, by rw [HE.out]; exact own_below HO.out (below_drewN HAA.out _), HN.out, below_next HL.out (below_drewN HAA.out _)⟩
        case measure => simp [intOf]; omega
      have d0 : decide (0 ≤ x) = true := decide_eq_true t0
      by_cases t1 : 0 ≤ y
      rotate_left
      · have d1 : decide (0 ≤ y) = false := decide_eq_false t1
        have HB := Lib.hid (show inGB g.length (nthL g 0).length (cand p k) = false by rw [HQ.out]; exact decide_eq_false (by simp only; omega))
        have HE := Lib.hid (nearTo_no HB.out)
        go_quiet (fail)
        go_wp2
        go_roundw
        case rel => exact ⟨k + 1, by omega, by go_num, by rw [HE.out]; exact own_below HO.out (below_drewN HAA.out _), HN.out, below_next HL.out (below_drewN HAA.out _)⟩
        case measure => simp [intOf]; omega
      have d1 : decide (0 ≤ y) = true := decide_eq_true t1
      by_cases t2 : x < g.length
      rotate_left
      · have d2 : decide (x < (g.length : Int)) = false := decide_eq_false t2
        have HB := Lib.hid (show inGB g.length (nthL g 0).length (cand p k) = false by rw [HQ.out]; exact decide_eq_false (by simp only; omega))
        have HE := Lib.hid (nearTo_no HB.out)
        go_quiet (fail)
        go_wp2
        go_roundw
        case rel => exact ⟨k + 1, by omega, by go_num, by rw [HE.out]; exact own_below HO.out (below_drewN HAA.out _), HN.out, below_next HL.out (below_drewN HAA.out _)⟩
        case measure => simp [intOf]; omega
      have d2 : decide (x < (g.length : Int)) = true := decide_eq_true t2
      by_cases t3 : y < (nthL g 0).length
      rotate_left
      · have d3 : decide (y < ((nthL g 0).length : Int)) = false := decide_eq_false t3
        have HB := Lib.hid (show inGB g.length (nthL g 0).length (cand p k) = false by rw [HQ.out]; exact decide_eq_false (by simp only; omega))
        have HE := Lib.hid (nearTo_no HB.out)
        go_quiet (fail)
        go_wp2
        go_roundw
        case rel => exact ⟨k + 1, by omega, by go_num, by rw [HE.out]; exact own_below HO.out (below_drewN HAA.out _), HN.out, below_next HL.out (below_drewN HAA.out _)⟩
        case measure => simp [intOf]; omega
      have d3 : decide (y < ((nthL g 0).length : Int)) = true := decide_eq_true t3
      have HB := Lib.hid (show inGB g.length (nthL g 0).length (cand p k) = true by rw [HQ.out]; exact decide_eq_true ⟨t0, t1, t2, t3⟩)
      have HE := Lib.hid (nearTo_yes HB.out)
      obtain ⟨X, rfl⟩ : ∃ X : Nat, x = X := ⟨x.toNat, by omega⟩
      obtain ⟨Y, rfl⟩ : ∃ Y : Nat, y = Y := ⟨y.toNat, by omega⟩
      have HNP := Lib.hid (show natP (cand p k) = (X, Y) by rw [HQ.out]; simp [natP])
      have HPC := Lib.hid (plCells_snoc (nearTo g.length (nthL g 0).length p k) (natP (cand p k)))
      go_quiet (fail)
      clear d0 d1 d2 d3
      have HO2 := Lib.hid (own_below HO.out (below_drewN HAA.out nq))
      have HL2 := Lib.hid (below_next HL.out (below_drewN HAA.out nq))
      have e0' : (wA.drewN nq).cell? ⟨wr.heap.size, 0, none⟩ = some (.int .i64 X) := e0
      have e1' : (wA.drewN nq).cell? ⟨wr.heap.size, 1, none⟩ = some (.int .i64 Y) := e1
      clear e0 e1 hc'
      generalize wA.drewN nq = wB at HO2 HL2 e0' e1' ⊢
      go_wp2_with (at_builtin; refine wpList_append_own _ rfl _ _ 44 rfl w.heap.size 43 i0 (.agg #[.int .i64 0, .int .i64 0]) 2 16 Try.underlying44 hi hz0 hz1 hz2 rfl (by decide) _ _ _ rfl (HO2.out.alloc _) ⟨wB.heap.size, 0, none⟩ 1 1 [.int .i64 X, .int .i64 Y] rfl rfl (own_new2 _ _ _ _) ?c2 ?c3 ?c4 ?c5 ?_)
      case c2 => (first | exact ⟨rfl, rfl⟩ | (intro u hu; simp at hu; rcases hu with rfl | rfl <;> rfl))
      case c3 => have := HNL.out; unfold maxLen; omega
      case c4 => have := HNL.out; omega
      case c5 => have := HL2.out.size; simp; omega
      · intro v' w1 hown' hgrow hnil
        have hnn' : v' ≠ .slice none 0 0 := hnil
        have hb1 : Below w.heap.size w w1 := below_grown (HL2.out.alloc HL2.out.size _) (by have := HL2.out.size; simp; omega) hgrow fun q hq => (HO2.out.lt q hq).1
        have HX := Lib.hid (show w1.ownsRow w.heap.size 43 2 v' (nearTo g.length (nthL g 0).length p (k + 1)).length (plCells (nearTo g.length (nthL g 0).length p (k + 1))) by rw [HE.out, HPC.out, HNP.out, List.length_append]; exact hown')
        have HY := Lib.hid (And.intro hnn' hb1)
        clear hown' hgrow hnil hnn' hb1
        go_wp2
        go_roundw
        case rel => exact ⟨k + 1, by omega, by go_num, HX.out, HY.out.1, HY.out.2⟩
        case measure => simp [intOf]; omega
    · obtain rfl : k = 4 := by omega
      clear hown
      go_wp2
      go_ret
      exact ⟨_, rfl, by rw [HF.out]; exact HO.out, HN.out, HL.out⟩

theorem pair_c (p : Nat × Nat) (w : World) : Calls Try.prog 27 #[.agg #[.int .i64 p.1, .int .i64 p.2]] w fun e w' => ∃ b, e = .returned (.slice (some ⟨b, 0, none⟩) 2 2) ∧ ((w.heap.size ≤ b ∧ b < w'.heap.size) ∧ RowC w' b 2 (nth [(p.1 : Int), (p.2 : Int)]) ∧ Below w.heap.size w w') := by
  go_enter Try.func27, Try.ntmps27
  go_wp2
  go_ret
  refine ⟨_, rfl, ⟨?_, ?_⟩, ?_, by go_grown⟩
  · simp
  · simp
  · intro j hj
    obtain rfl | rfl : j = 0 ∨ j = 1 := by omega
    · exact ⟨by rw [show nth [(p.1 : Int), (p.2 : Int)] 0 = p.1 from rfl]; go_cell, by go_cell⟩
    · exact ⟨by rw [show nth [(p.1 : Int), (p.2 : Int)] 1 = p.2 from rfl]; go_cell, by go_cell⟩
/-- Whether a place lies at the edge. -/
def edgeB (g : List (List Int)) (p : Nat × Nat) : Bool := decide (p.1 = 0) || (decide (p.2 = 0) || (decide (p.1 + 1 = g.length) || decide (p.2 + 1 = (nthL g 0).length)))
theorem edge_c (a : Option Addr) (cap : Nat) (g : List (List Int)) (p : Nat × Nat) (w : World) (h : Grid w a g) (hs : Small g) (h1 : p.1 < g.length) (h2 : p.2 < 1048576) :
    Calls Try.prog 24 #[.agg #[.int .i64 p.1, .int .i64 p.2], .slice a g.length cap] w fun e w' => e = .returned (.bool (edgeB g p)) ∧ Below w.heap.size w w' := by
  have hn := hs.len
  have hr0 := hs.row (j := 0) (by omega)
  have HA := Lib.hid (show Below w.heap.size w (w.alloc (.cells #[.int .i64 p.1, .int .i64 p.2] 43)) from (Below.refl _ _).alloc (Nat.le_refl _) _)
  have e0 : (w.alloc (.cells #[.int .i64 p.1, .int .i64 p.2] 43)).cell? ⟨w.heap.size, 0, none⟩ = some (.int .i64 p.1) := by go_cell
  have e1 : (w.alloc (.cells #[.int .i64 p.1, .int .i64 p.2] 43)).cell? ⟨w.heap.size, 1, none⟩ = some (.int .i64 p.2) := by go_cell
  obtain ⟨b, o, rfl, hb, ar, cr, hc, hnu⟩ := (h.below HA.out).pos (j := 0) (by omega)
  rw [Nat.add_zero] at hc
  have i0 : (0 : Int) < (g.length : Int) := by omega
  clear h hnu
  by_cases t1 : p.1 = 0
  · have HF := Lib.hid (show edgeB g p = true by simp [edgeB, t1])
    have d1 : ((p.1 : Int) == 0) = true := by simp [t1]
    clear t1
    go_enter Try.func24, Try.ntmps24
    go_wp2_with fail
    generalize w.alloc (.cells #[.int .i64 p.1, .int .i64 p.2] 43) = wA at HA e0 e1 hb hc ⊢
    go_quiet (fail)
    go_wp2
    go_ret
    exact ⟨by rw [HF.out]; rfl, below_drewN HA.out _⟩
  have d1 : ((p.1 : Int) == 0) = false := by simp; omega
  by_cases t2 : p.2 = 0
  · have HF := Lib.hid (show edgeB g p = true by simp [edgeB, t2])
    have d2 : ((p.2 : Int) == 0) = true := by simp [t2]
    clear t2
    go_enter Try.func24, Try.ntmps24
    go_wp2_with fail
    generalize w.alloc (.cells #[.int .i64 p.1, .int .i64 p.2] 43) = wA at HA e0 e1 hb hc ⊢
    go_quiet (fail)
    go_wp2
    go_ret
    exact ⟨by rw [HF.out]; rfl, below_drewN HA.out _⟩
  have d2 : ((p.2 : Int) == 0) = false := by simp; omega
  by_cases t3 : p.1 + 1 = g.length
  · have HF := Lib.hid (show edgeB g p = true by simp [edgeB, t3])
    have d3 : ((p.1 : Int) == (g.length : Int) - 1) = true := by simp; omega
    have q3 := IntWalk.i64_in ((g.length : Int) - 1) (by omega)
    have HT := Lib.hid t3
    clear t3
    go_enter Try.func24, Try.ntmps24
    go_wp2_with fail
    generalize w.alloc (.cells #[.int .i64 p.1, .int .i64 p.2] 43) = wA at HA e0 e1 hb hc ⊢
    go_quiet (fail)
    go_wp2
    go_ret
    exact ⟨by rw [HF.out]; rfl, below_drewN HA.out _⟩
  have d3 : ((p.1 : Int) == (g.length : Int) - 1) = false := by simp; omega
  have HF := Lib.hid (show edgeB g p = decide (p.2 + 1 = (nthL g 0).length) by simp [edgeB, t1, t2, t3])
  by_cases t4 : p.2 + 1 = (nthL g 0).length
  · have HF2 := Lib.hid (show edgeB g p = true by rw [HF.out, decide_eq_true t4])
    have d4 : ((p.2 : Int) == ((nthL g 0).length : Int) - 1) = true := by simp; omega
    have q3 := IntWalk.i64_in ((g.length : Int) - 1) (by omega)
    have q4 := IntWalk.i64_in (((nthL g 0).length : Int) - 1) (by omega)
    clear t4
    go_enter Try.func24, Try.ntmps24
    go_wp2_with fail
    generalize w.alloc (.cells #[.int .i64 p.1, .int .i64 p.2] 43) = wA at HA e0 e1 hb hc ⊢
    go_quiet (fail)
    go_wp2
    go_ret
    exact ⟨by rw [HF2.out]; rfl, below_drewN HA.out _⟩
  · have HF2 := Lib.hid (show edgeB g p = false by rw [HF.out, decide_eq_false t4])
    have d4 : ((p.2 : Int) == ((nthL g 0).length : Int) - 1) = false := by simp; omega
    have q3 := IntWalk.i64_in ((g.length : Int) - 1) (by omega)
    have q4 := IntWalk.i64_in (((nthL g 0).length : Int) - 1) (by omega)
    go_enter Try.func24, Try.ntmps24
    go_wp2_with fail
    generalize w.alloc (.cells #[.int .i64 p.1, .int .i64 p.2] 43) = wA at HA e0 e1 hb hc ⊢
    go_quiet (fail)
    go_wp2
    go_ret
    exact ⟨by rw [HF2.out]; rfl, below_drewN HA.out _⟩
end Go.Proofs.Ytlenihncfhemkaa
