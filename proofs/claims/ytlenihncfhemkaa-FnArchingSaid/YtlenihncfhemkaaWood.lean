/- The wood over a height, the gap along the edge and between mirrored places, the highest place: what the program's functions answer. -/
import Derived.Test.YtlenihncfhemkaaSteep
import Derived.Test.YtlenihncfhemkaaArch
import Derived.Test.YtlenihncfhemkaaHeights
namespace Go.Proofs.Ytlenihncfhemkaa
open Go.RowKit Go.ChangeShapes Go.WideShapes
set_option linter.unusedVariables false

/-- The sum of what stands over 0 at some places. -/
def woodS (g : List (List Int)) (l : List (Nat × Nat)) : Int := l.foldl (fun s p => s + max 0 (atG g p - 0)) 0
def woodF (g : List (List Int)) : Int := woodS g (plTo g g.length)
theorem woodS_take {g : List (List Int)} {l : List (Nat × Nat)} {j : Nat} (h : j < l.length) : woodS g (l.take (j + 1)) = woodS g (l.take j) + max 0 (atG g (l.getD j (0, 0)) - 0) := by
  rw [List.take_succ_eq_append_getElem h, woodS, List.foldl_append]
  simp [woodS, List.getD_eq_getElem?_getD, h]
theorem wood_bd {g : List (List Int)} {l : List (Nat × Nat)} (hv : ∀ j, j < l.length → 0 ≤ atG g (l.getD j (0, 0)) ∧ atG g (l.getD j (0, 0)) ≤ 1000) : ∀ j, j ≤ l.length → 0 ≤ woodS g (l.take j) ∧ woodS g (l.take j) ≤ 1000 * j
  | 0, _ => by simp [woodS]
  | j + 1, h => by
    have h1 := wood_bd hv j (by omega)
    have h2 := hv j (by omega)
    rw [woodS_take (by omega)]
    omega
theorem isRise_c (n : Int) (w : World) : Calls Try.prog 31 #[.int .i64 n] w fun e w' => e = .returned (.bool (inB n 0 1000)) ∧ w = w' := by
  go_enter Try.func31, Try.ntmps31
  go_wp2_with (go_at_call 39; refine call_same (within_c _ _ _ _) ?_)
  go_ret
  exact ⟨rfl, rfl⟩
theorem woodOver_c (a : Option Addr) (cap : Nat) (g : List (List Int)) (w : World) (h : Grid w a g) (hs : Small g) (hv : gridB 0 1000 g = true) :
    Calls Try.prog 12 #[.slice a g.length cap, .int .i64 0] w fun e w' => e = .returned (.tuple #[.int .i64 (woodF g), .int .i64 0]) ∧ Below w.heap.size w w' := by
  have ok := gridB_true hv
  have hll := ok.places
  have HP := Lib.hid (fun j (hj : j < (plTo g g.length).length) => place_ok hj)
  have HV := Lib.hid (fun (p : Nat × Nat) (hp : p.1 < g.length ∧ p.2 < (nthL g p.1).length) => ok.at_ hp)
  have HT := Lib.hid (fun j (hj : j < (plTo g g.length).length) => woodS_take (g := g) hj)
  have HW := Lib.hid (wood_bd (g := g) (l := plTo g g.length) fun j hj => by have := ok.at_ (place_ok hj); omega)
  have HE := Lib.hid (show woodS g ((plTo g g.length).take (plTo g g.length).length) = woodS g (plTo g g.length) by rw [List.take_length])
  have HF := Lib.hid (show woodF g = woodS g (plTo g g.length) from rfl)
  have HVA := Lib.hid (validArch_c a cap g w h hs)
  rw [hv] at HVA
  clear ok hv
  go_enter Try.func12, Try.ntmps12
  go_wp2_with fail
  refine call_same HVA.out ?_
  go_wp2_with fail
  refine call_same (isRise_c _ _) ?_
  rw [show inB 0 0 1000 = true from rfl]
  go_wp2_with fail
  refine (places_c _ _ g _ h hs).mono ?_
  rintro e w2 ⟨v, rfl, hown, hnn, hb2⟩
  obtain ⟨bp, cp, rfl, -, hbp, hcell⟩ := own_form hown hnn
  have HC := Lib.hid hcell
  have HG := Lib.hid (h.below hb2)
  have HB2 := Lib.hid hb2
  clear hown hnn hcell hb2 h HVA
  generalize plTo g g.length = L at HP HT HE HF HW HC hll ⊢
  go_wp2
  go_loopw [6, 18] (fun m i wr => ∃ j : Nat, j ≤ L.length ∧ i = .int .i64 j ∧ m = .int .i64 (woodS g (L.take j)) ∧ Below w2.heap.size w2 wr) (fun _ i _ => L.length - (intOf i).toNat)
  case atStart => exact ⟨0, Nat.zero_le _, rfl, by simp [woodS], Below.refl _ _⟩
  case round =>
    obtain ⟨j, hj, rfl, rfl, hbl⟩ := hrel
    have HL := Lib.hid hbl
    by_cases hlt : j < L.length
    · have hT := HT.out j hlt
      have hP := HP.out j hlt
      have hC := HC.out j hlt
      have hW := HW.out j (by omega)
      generalize L.getD j (0, 0) = p at hT hP hC
      have c0 := (hbl.cell (p := ⟨bp, j * 2, none⟩) hbp).trans hC.1
      have c1 := (hbl.cell (p := ⟨bp, j * 2 + 1, none⟩) hbp).trans hC.2
      have HPP := Lib.hid hP
      have HTT := Lib.hid hT
      have hvp := HV.out p hP
      clear hbl hT hP hC
      generalize woodS g (L.take j) = M at HTT hW ⊢
      go_wp2_with fail
      refine call_below (of_c _ _ g p _ ((HG.out.below HL.out).below ((Below.refl _ _).alloc (Nat.le_refl _) _)) hs HPP.out.1 HPP.out.2) ?_
      intro w3 hb3
      have HL3 := Lib.hid (below_next HL.out (below_from hb3))
      clear hb3 c0 c1
      generalize atG g p = x at hvp HTT
      have hmx : max 0 (x - 0) = x := by omega
      rw [hmx] at HTT
      go_wp2
      all_goals
        go_roundw
        case rel => exact ⟨j + 1, by omega, by go_num, by rw [HTT.out]; go_num, HL3.out⟩
        case measure => simp [intOf]; omega
    · obtain rfl : j = L.length := by omega
      clear hbl
      rw [HE.out]
      go_wp2
      go_returns
      exact ⟨by rw [HF.out]; rfl, below_next HB2.out HL.out⟩
end Go.Proofs.Ytlenihncfhemkaa
