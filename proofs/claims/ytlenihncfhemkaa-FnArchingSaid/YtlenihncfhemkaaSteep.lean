/- The greatest difference of neighbours in a grid: the program's steepest. -/
import Derived.Test.YtlenihncfhemkaaNear
import Derived.Test.YtlenihncfhemkaaMass
import Derived.Lib.MinMax
namespace Go.Proofs.Ytlenihncfhemkaa
open Go.RowKit Go.ChangeShapes Go.WideShapes
set_option linter.unusedVariables false

/-- The greatest of m and the differences of p to some places. -/
def stQ (g : List (List Int)) (p : Nat × Nat) (l : List (Nat × Nat)) (m : Int) : Int := l.foldl (fun m q => max m (atG g p - atG g q)) m
def stP (g : List (List Int)) (l : List (Nat × Nat)) : Int := l.foldl (fun m p => stQ g p (nearL g p) m) 0
theorem stQ_take {g : List (List Int)} {p : Nat × Nat} {l : List (Nat × Nat)} {m : Int} {j : Nat} (h : j < l.length) : stQ g p (l.take (j + 1)) m = max (stQ g p (l.take j) m) (atG g p - atG g (l.getD j (0, 0))) := by
  rw [List.take_succ_eq_append_getElem h, stQ, List.foldl_append]
  simp [stQ, List.getD_eq_getElem?_getD, h]
theorem stP_take {g : List (List Int)} {l : List (Nat × Nat)} {j : Nat} (h : j < l.length) : stP g (l.take (j + 1)) = stQ g (l.getD j (0, 0)) (nearL g (l.getD j (0, 0))) (stP g (l.take j)) := by
  rw [List.take_succ_eq_append_getElem h, stP, List.foldl_append]
  simp [stP, List.getD_eq_getElem?_getD, h]
theorem stQ_le {g : List (List Int)} {p : Nat × Nat} {s : Int} : ∀ {l : List (Nat × Nat)} {m : Int}, stQ g p l m ≤ s ↔ m ≤ s ∧ ∀ q ∈ l, atG g p - atG g q ≤ s
  | [], m => by simp [stQ]
  | q :: l, m => by
    have := stQ_le (g := g) (p := p) (s := s) (l := l) (m := max m (atG g p - atG g q))
    have e : stQ g p (q :: l) m = stQ g p l (max m (atG g p - atG g q)) := rfl
    rw [e, this]
    constructor
    · rintro ⟨h1, h2⟩
      refine ⟨by omega, fun r hr => ?_⟩
      rcases List.mem_cons.1 hr with rfl | h
      · omega
      · exact h2 r h
    · rintro ⟨h1, h2⟩
      have h3 := h2 q (List.mem_cons_self ..)
      exact ⟨by omega, fun r hr => h2 r (List.mem_cons_of_mem _ hr)⟩
theorem stF_le {g : List (List Int)} {s : Int} : ∀ {l : List (Nat × Nat)} {m : Int}, l.foldl (fun m p => stQ g p (nearL g p) m) m ≤ s ↔ m ≤ s ∧ ∀ p ∈ l, ∀ q ∈ nearL g p, atG g p - atG g q ≤ s
  | [], m => by simp
  | p :: l, m => by
    rw [List.foldl_cons, stF_le, stQ_le]
    constructor
    · rintro ⟨⟨h1, h2⟩, h3⟩
      refine ⟨h1, fun r hr => ?_⟩
      rcases List.mem_cons.1 hr with rfl | h
      · exact h2
      · exact h3 r h
    · rintro ⟨h1, h2⟩
      exact ⟨⟨h1, h2 p (List.mem_cons_self ..)⟩, fun r hr => h2 r (List.mem_cons_of_mem _ hr)⟩
theorem stP_le {g : List (List Int)} {s : Int} {l : List (Nat × Nat)} : stP g l ≤ s ↔ 0 ≤ s ∧ ∀ p ∈ l, ∀ q ∈ nearL g p, atG g p - atG g q ≤ s := stF_le

theorem GridOk.near {lo hi : Int} {g : List (List Int)} (ok : GridOk lo hi g) {p q : Nat × Nat} (h : q ∈ nearL g p) : q.1 < g.length ∧ q.2 < (nthL g q.1).length := by
  have h1 := nearTo_in h
  have h2 := ok.same q.1 h1.1
  exact ⟨h1.1, by omega⟩
theorem keepPQ {w1 w2 : World} {b b' : Nat} {v0 v1 v2 v3 : Value} (d : (w1.cell? ⟨b, 0, none⟩ = some v0 ∧ w1.cell? ⟨b, 1, none⟩ = some v1) ∧ w1.cell? ⟨b', 0, none⟩ = some v2 ∧ w1.cell? ⟨b', 1, none⟩ = some v3) (h : Below w1.heap.size w1 w2) :
    w2.cell? ⟨b, 0, none⟩ = some v0 ∧ w2.cell? ⟨b, 1, none⟩ = some v1 ∧ w2.cell? ⟨b', 0, none⟩ = some v2 ∧ w2.cell? ⟨b', 1, none⟩ = some v3 ∧ Below w1.heap.size w1 w2 :=
  ⟨(h.cell (World.block_lt_of_cell? w1 _ d.1.1)).trans d.1.1, (h.cell (World.block_lt_of_cell? w1 _ d.1.2)).trans d.1.2, (h.cell (World.block_lt_of_cell? w1 _ d.2.1)).trans d.2.1, (h.cell (World.block_lt_of_cell? w1 _ d.2.2)).trans d.2.2, h⟩
theorem keepP {w1 w2 : World} {b : Nat} {v0 v1 : Value} (d : w1.cell? ⟨b, 0, none⟩ = some v0 ∧ w1.cell? ⟨b, 1, none⟩ = some v1) (h : Below w1.heap.size w1 w2) : w2.cell? ⟨b, 0, none⟩ = some v0 ∧ w2.cell? ⟨b, 1, none⟩ = some v1 :=
  ⟨(h.cell (World.block_lt_of_cell? w1 _ d.1)).trans d.1, (h.cell (World.block_lt_of_cell? w1 _ d.2)).trans d.2⟩

def steepF (g : List (List Int)) : Int := stP g (plTo g g.length)
theorem steepest_c (a : Option Addr) (cap : Nat) (g : List (List Int)) (lo hi : Int) (w : World) (h : Grid w a g) (hs : Small g) (ok : GridOk lo hi g) (hlo : 0 ≤ lo) (hhi : hi ≤ 1000) :
    Calls Try.prog 23 #[.slice a g.length cap] w fun e w' => e = .returned (.int .i64 (steepF g)) ∧ Below w.heap.size w w' := by
  have hll := ok.places
  have HP := Lib.hid (fun j (hj : j < (plTo g g.length).length) => place_ok hj)
  have HV := Lib.hid (fun (p : Nat × Nat) (hp : p.1 < g.length ∧ p.2 < (nthL g p.1).length) => ok.at_ hp)
  have HNI := Lib.hid (fun (p q : Nat × Nat) (hq : q ∈ nearL g p) => ok.near hq)
  have HT := Lib.hid (fun j (hj : j < (plTo g g.length).length) => stP_take (g := g) hj)
  have HE := Lib.hid (show stP g ((plTo g g.length).take (plTo g g.length).length) = stP g (plTo g g.length) by rw [List.take_length])
  have HF := Lib.hid (show steepF g = stP g (plTo g g.length) from rfl)
  have h00 : stP g ((plTo g g.length).take 0) = 0 := by simp [stP]
  have HLE := Lib.hid (fun j (hj : j < g.length) => ok.len hj)
  clear ok
  go_enter Try.func23, Try.ntmps23
  go_wp2_with fail
  refine (places_c _ _ g _ h hs).mono ?_
  rintro e w2 ⟨v, rfl, hown, hnn, hb2⟩
  obtain ⟨bp, cp, rfl, -, hbp, hcell⟩ := own_form hown hnn
  have HC := Lib.hid hcell
  have HG := Lib.hid (h.below hb2)
  have HB2 := Lib.hid hb2
  clear hown hnn hcell hb2 h
  generalize plTo g g.length = L at HP HT HE HF HC hll h00 ⊢
  go_wp2
  go_loopw [3, 11] (fun m i wr => ∃ j : Nat, j ≤ L.length ∧ i = .int .i64 j ∧ m = .int .i64 (stP g (L.take j)) ∧ Below w2.heap.size w2 wr) (fun _ i _ => L.length - (intOf i).toNat)
  case atStart => exact ⟨0, Nat.zero_le _, rfl, by rw [h00], Below.refl _ _⟩
  case round =>
    clear h00
    obtain ⟨j, hj, rfl, rfl, hbl⟩ := hrel
    have HL := Lib.hid hbl
    by_cases hlt : j < L.length
    · have hT := HT.out j hlt
      have hP := HP.out j hlt
      have hC := HC.out j hlt
      generalize L.getD j (0, 0) = p at hT hP hC
      have c0 := (hbl.cell (p := ⟨bp, j * 2, none⟩) hbp).trans hC.1
      have c1 := (hbl.cell (p := ⟨bp, j * 2 + 1, none⟩) hbp).trans hC.2
      have HPP := Lib.hid hP
      have hp2 : p.2 < 1048576 := by have := (HLE.out p.1 hP.1).2; omega
      have HTT := Lib.hid hT
      have hvp := HV.out p hP
      clear hbl hT hP hC
      generalize stP g (L.take j) = M at HTT ⊢
      go_wp2_with fail
      refine (near_c _ _ g p _ ((HG.out.below HL.out).below ((Below.refl _ _).alloc (Nat.le_refl _) _)) hs HPP.out.1 hp2).mono ?_
      rintro e w3 ⟨v3, rfl, hown3, hnn3, hb3⟩
      obtain ⟨bq, cq, rfl, -, hbq, hcell3⟩ := own_form hown3 hnn3
      have HC3 := Lib.hid hcell3
      have HPC := Lib.hid (show w3.cell? ⟨wr.heap.size, 0, none⟩ = some (.int .i64 p.1) ∧ w3.cell? ⟨wr.heap.size, 1, none⟩ = some (.int .i64 p.2) from ⟨by rw [box_cell hb3]; go_cell, by rw [box_cell hb3]; go_cell⟩)
      have HL3 := Lib.hid (below_next HL.out (below_from hb3))
      have HQI := Lib.hid (fun i (hi : i < (nearL g p).length) => HNI.out p _ (place_mem hi))
      have HTQ := Lib.hid (fun i (hi : i < (nearL g p).length) => stQ_take (g := g) (p := p) (m := M) hi)
      have HEQ := Lib.hid (show stQ g p ((nearL g p).take (nearL g p).length) M = stQ g p (nearL g p) M by rw [List.take_length])
      have hlq : (nearL g p).length ≤ 4 := nearTo_len _ _ _ _
      clear hown3 hnn3 hcell3 hb3 c0 c1
      generalize nearL g p = LQ at HTT HC3 HQI HTQ HEQ hlq ⊢
      generalize wr.heap.size = bP at HPC ⊢
      go_wp2
      go_loopw [3, 19] (fun m i wi => ∃ q : Nat, q ≤ LQ.length ∧ i = .int .i64 q ∧ m = .int .i64 (stQ g p (LQ.take q) M) ∧ Below w3.heap.size w3 wi) (fun _ i _ => LQ.length - (intOf i).toNat)
      case atStart => exact ⟨0, Nat.zero_le _, rfl, rfl, Below.refl _ _⟩
      case round =>
        obtain ⟨i, hi, rfl, rfl, hbi⟩ := hrel
        have HLI := Lib.hid hbi
        by_cases hlt2 : i < LQ.length
        · have hT := HTQ.out i hlt2
          have hP := HQI.out i hlt2
          have hC := HC3.out i hlt2
          generalize LQ.getD i (0, 0) = q at hT hP hC
          have c0 := (hbi.cell (p := ⟨bq, i * 2, none⟩) hbq).trans hC.1
          have c1 := (hbi.cell (p := ⟨bq, i * 2 + 1, none⟩) hbq).trans hC.2
          have HQQ := Lib.hid hP
          have HTT2 := Lib.hid hT
          have hvq := HV.out q hP
          have hpc := keepP HPC.out hbi
          clear hbi hT hP hC
          generalize stQ g p (LQ.take i) M = m at HTT2 ⊢
          have q1 := IntWalk.i64_in (atG g p - atG g q) (by omega)
          go_wp2_with fail
          have HA := Lib.hid (show Below wr.heap.size wr (wr.alloc (.cells #[.int .i64 q.1, .int .i64 q.2] 43)) from (Below.refl _ _).alloc (Nat.le_refl _) _)
          have e0 : (wr.alloc (.cells #[.int .i64 q.1, .int .i64 q.2] 43)).cell? ⟨wr.heap.size, 0, none⟩ = some (.int .i64 q.1) := by go_cell
          have e1 : (wr.alloc (.cells #[.int .i64 q.1, .int .i64 q.2] 43)).cell? ⟨wr.heap.size, 1, none⟩ = some (.int .i64 q.2) := by go_cell
          have hpc2 := keepP hpc HA.out
          generalize wr.alloc (.cells #[.int .i64 q.1, .int .i64 q.2] 43) = wA at HA e0 e1 hpc2 ⊢
          have HQ := Lib.hid (And.intro hpc2 (And.intro e0 e1))
          have HGX := Lib.hid (show Grid wA a g from ((HG.out.below HL3.out).below HLI.out).below HA.out)
          clear c0 c1 hpc hpc2 e0 e1
          go_region_held3 (fun w' => w'.cell? ⟨bP, 0, none⟩ = some (.int .i64 p.1) ∧ w'.cell? ⟨bP, 1, none⟩ = some (.int .i64 p.2) ∧ w'.cell? ⟨wr.heap.size, 0, none⟩ = some (.int .i64 q.1) ∧ w'.cell? ⟨wr.heap.size, 1, none⟩ = some (.int .i64 q.2) ∧ Below wA.heap.size wA w')
            (first | exact keepPQ HQ.out (Below.refl _ _).drew | exact keepPQ HQ.out (below_next (Below.refl _ _).drew hb4) | exact keepPQ HQ.out (below_next (below_next (Below.refl _ _).drew hb4) hb5) | go_keep)
            (first | (go_at_call 22; refine call_below (of_c _ _ _ _ _ ?_ hs ?_ ?_) ?_; (first | exact HGX.out.below (Below.refl _ _).drew | exact HGX.out.below (below_next (Below.refl _ _).drew hb4)); (first | exact HPP.out.1 | exact HQQ.out.1); (first | exact HPP.out.2 | exact HQQ.out.2); (first | (have hx := hb4; clear hx; intro w5 hb5) | intro w4 hb4)))
          go_wp2
          go_roundw
          case rel => exact ⟨i + 1, by omega, by go_num, by rw [HTT2.out], below_next HLI.out (below_next HA.out (below_next (below_next (Below.refl _ _).drew hb4) hb5))⟩
          case measure => simp [intOf]; omega
        · obtain rfl : i = LQ.length := by omega
          clear hbi
          rw [HEQ.out]
          go_wp2
          go_roundw
          case rel => exact ⟨j + 1, by omega, by go_num, by rw [HTT.out], below_next HL3.out HLI.out⟩
          case measure => simp [intOf]; omega
    · obtain rfl : j = L.length := by omega
      clear hbl
      rw [HE.out]
      go_wp2
      go_ret
      exact ⟨by rw [HF.out]; rfl, below_next HB2.out HL.out⟩
end Go.Proofs.Ytlenihncfhemkaa
