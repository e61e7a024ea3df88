/- The mass of a plate: the program's and the reference's. -/
import Derived.Test.YtejcglenjhkhhaaPlaces
import Derived.Test.YtejcglenjhkhhaaPlate
import Derived.Test.YtejcglenjhkhhaaDiv
namespace Go.Proofs.Ytejcglenjhkhhaa
open Go.RowKit Go.ChangeShapes Go.WideShapes
set_option linter.unusedVariables false

/-- The sum over a list of places. -/
def sumP (g : List (List Int)) (l : List (Nat × Nat)) : Int := (l.map (atG g)).sum
theorem sumP_snoc (g : List (List Int)) (l : List (Nat × Nat)) (p : Nat × Nat) : sumP g (l ++ [p]) = sumP g l + atG g p := by simp [sumP]
theorem sumP_take {g : List (List Int)} {l : List (Nat × Nat)} {j : Nat} (h : j < l.length) : sumP g (l.take (j + 1)) = sumP g (l.take j) + atG g (l.getD j (0, 0)) := by
  rw [List.take_succ_eq_append_getElem h, sumP_snoc]
  simp [List.getD_eq_getElem?_getD, h]
theorem sumP_bd {g : List (List Int)} : ∀ {l : List (Nat × Nat)}, (∀ p ∈ l, 0 ≤ atG g p ∧ atG g p ≤ 1000) → 0 ≤ sumP g l ∧ sumP g l ≤ 1000 * l.length
  | [], _ => by simp [sumP]
  | p :: l, h => by
    have h1 := sumP_bd (l := l) fun q hq => h q (List.mem_cons_of_mem _ hq)
    have h2 := h p (List.mem_cons_self ..)
    have e : sumP g (p :: l) = atG g p + sumP g l := by simp [sumP]
    rw [e, List.length_cons]
    omega
theorem place_mem {l : List (Nat × Nat)} {j : Nat} (h : j < l.length) : l.getD j (0, 0) ∈ l := by
  rw [show l.getD j (0, 0) = l[j] by simp [List.getD_eq_getElem?_getD, h]]
  exact List.getElem_mem h
theorem place_ok {g : List (List Int)} {j : Nat} (h : j < (plTo g g.length).length) : ((plTo g g.length).getD j (0, 0)).1 < g.length ∧ ((plTo g g.length).getD j (0, 0)).2 < (nthL g ((plTo g g.length).getD j (0, 0)).1).length :=
  plTo_in (Nat.le_refl _) (place_mem h)
theorem pre_in {g : List (List Int)} {k c : Nat} (hk : k < g.length) (hc : c ≤ (nthL g k).length) {p : Nat × Nat} (hp : p ∈ plTo g k ++ rowPl k c) : p.1 < g.length ∧ p.2 < (nthL g p.1).length := by
  rcases List.mem_append.1 hp with h | h
  · exact plTo_in (by omega) h
  · simp only [rowPl, List.mem_map, List.mem_range] at h
    obtain ⟨j, hj, rfl⟩ := h
    exact ⟨hk, by simp only; omega⟩
theorem sumL_le {g : List (List Int)} {m : Nat} (h : ∀ j, j < g.length → (nthL g j).length ≤ m) : ∀ k, k ≤ g.length → sumL g k ≤ m * k
  | 0, _ => by simp [sumL]
  | k + 1, hk => by
    have h1 := sumL_le h k (by omega)
    have h2 := h k hk
    simp only [sumL]
    rw [Nat.mul_succ]; omega
theorem GridOk.len {lo hi : Int} {g : List (List Int)} (ok : GridOk lo hi g) {j : Nat} (hj : j < g.length) : 1 ≤ (nthL g j).length ∧ (nthL g j).length ≤ 10 := by
  have := ok.same j hj
  have := ok.cols
  omega
theorem GridOk.places {lo hi : Int} {g : List (List Int)} (ok : GridOk lo hi g) : (plTo g g.length).length ≤ 100 := by
  rw [plTo_len]
  have := sumL_le (m := 10) (fun j hj => (ok.len hj).2) g.length (Nat.le_refl _)
  have := ok.rows
  omega
theorem GridOk.at_ {lo hi : Int} {g : List (List Int)} (ok : GridOk lo hi g) {p : Nat × Nat} (h : p.1 < g.length ∧ p.2 < (nthL g p.1).length) : lo ≤ atG g p ∧ atG g p ≤ hi := ok.range _ h.1 _ h.2
def massF (g : List (List Int)) (c d : Int) : Int := rdiv (sumP g (plTo g g.length) * c * d) 10000
def cellB (c d : Int) : Bool := inB c 1 10000 && inB d 1 2000

theorem isCell_c (c d : Int) (w : World) : Calls Try.prog 77 #[.int .i64 c, .int .i64 d] w fun e w' => e = .returned (.bool (cellB c d)) ∧ w = w' := by
  cases h : inB c 1 10000
  all_goals
    go_enter Try.func77, Try.ntmps77
    go_wp2_with (go_at_call 66; refine call_same (within_c _ _ _ _) ?_)
    go_ret
    exact ⟨by simp [cellB, h], rfl⟩
theorem l08Density_c (c d : Int) (w : World) : Calls Try.prog 75 #[.int .i64 c, .int .i64 d] w fun e w' => e = .returned (.bool (cellB c d)) ∧ w = w' := by
  cases h : inB c 1 10000
  all_goals
    go_enter Try.func75, Try.ntmps75
    go_wp2_with (go_at_call 61; refine call_same (l00In_c _ _ _ _) ?_)
    go_ret
    exact ⟨by simp [cellB, h], rfl⟩

theorem mass_mul {s c d : Int} (hs : 0 ≤ s ∧ s ≤ 100000) (hc : 1 ≤ c ∧ c ≤ 10000) (hd : 1 ≤ d ∧ d ≤ 2000) : (0 ≤ s * c ∧ s * c ≤ 1000000000) ∧ (0 ≤ s * c * d ∧ s * c * d ≤ 2000000000000) := by
  have b1 := mul_bd hs.1 hs.2 (by omega : 0 ≤ c) hc.2
  have b2 := mul_bd b1.1 b1.2 (by omega : 0 ≤ d) hd.2
  omega

theorem plateMass_c (a : Option Addr) (cap : Nat) (g : List (List Int)) (c d : Int) (w : World) (h : Grid w a g) (hs : Small g) (ok : GridOk 1 200 g) (hc : 1 ≤ c ∧ c ≤ 10000) (hd : 1 ≤ d ∧ d ≤ 2000) :
    Calls Try.prog 78 #[.slice a g.length cap, .int .i64 c, .int .i64 d] w fun e w' => e = .returned (.int .i64 (massF g c d)) ∧ Below w.heap.size w w' := by
  have hll := ok.places
  have HP := Lib.hid (fun j (hj : j < (plTo g g.length).length) => place_ok hj)
  have HV := Lib.hid (fun j (hj : j < (plTo g g.length).length) => ok.at_ (place_ok hj))
  have HT := Lib.hid (fun j (hj : j < (plTo g g.length).length) => sumP_take (g := g) hj)
  have HBD := Lib.hid (show ∀ j, j ≤ (plTo g g.length).length → 0 ≤ sumP g ((plTo g g.length).take j) ∧ sumP g ((plTo g g.length).take j) ≤ 100000 from fun j hj => by
    have h1 := sumP_bd (g := g) (l := (plTo g g.length).take j) fun p hp => by
      have := ok.at_ (plTo_in (Nat.le_refl _) (List.mem_of_mem_take hp)); omega
    rw [List.length_take] at h1
    omega)
  have HE := Lib.hid (show sumP g ((plTo g g.length).take (plTo g g.length).length) = sumP g (plTo g g.length) by rw [List.take_length])
  have h00 : sumP g ((plTo g g.length).take 0) = 0 := by simp [sumP]
  have HM := Lib.hid (show massF g c d = rdiv (sumP g (plTo g g.length) * c * d) 10000 from rfl)
  clear ok
  go_enter Try.func78, Try.ntmps78
  go_wp2_with fail
  refine (places_c _ _ g _ h hs).mono ?_
  rintro e w2 ⟨v, rfl, hown, hnn, hb2⟩
  obtain ⟨bp, cp, rfl, -, hbp, hcell⟩ := own_form hown hnn
  have HC := Lib.hid hcell
  have HG := Lib.hid (h.below hb2)
  have HB2 := Lib.hid hb2
  clear hown hnn hcell hb2 h
  generalize plTo g g.length = L at HP HV HT HBD HE HM HC hll h00 ⊢
  go_wp2
  go_loopw [7, 13] (fun m i wr => ∃ j : Nat, j ≤ L.length ∧ i = .int .i64 j ∧ m = .int .i64 (sumP g (L.take j)) ∧ Below w2.heap.size w2 wr) (fun _ i _ => L.length - (intOf i).toNat)
  case atStart => exact ⟨0, Nat.zero_le _, rfl, by rw [h00], Below.refl _ _⟩
  case round =>
    clear h00
    obtain ⟨j, hj, rfl, rfl, hbl⟩ := hrel
    have HL := Lib.hid hbl
    have hbd := HBD.out j hj
    by_cases hlt : j < L.length
    · have hT := HT.out j hlt
      have hP := HP.out j hlt
      have hC := HC.out j hlt
      have hv := HV.out j hlt
      generalize L.getD j (0, 0) = p at hT hP hC hv
      have c0 := (hbl.cell (p := ⟨bp, j * 2, none⟩) hbp).trans hC.1
      have c1 := (hbl.cell (p := ⟨bp, j * 2 + 1, none⟩) hbp).trans hC.2
      have HPP := Lib.hid hP
      have HTT := Lib.hid hT
      clear hbl hT hP hC
      generalize sumP g (L.take j) = m at HTT hbd ⊢
      go_wp2_with fail
      refine call_below (of_c _ _ g p _ ((HG.out.below HL.out).below ((Below.refl _ _).alloc (Nat.le_refl _) _)) hs HPP.out.1 HPP.out.2) ?_
      intro w3 hb3
      go_wp2
      go_roundw
      case rel => exact ⟨j + 1, by omega, by go_num, by rw [HTT.out], below_next HL.out (below_from hb3)⟩
      case measure => simp [intOf]; omega
    · obtain rfl : j = L.length := by omega
      rw [HE.out] at hbd ⊢
      have hm := mass_mul hbd hc hd
      clear hbl
      go_wp2_with (go_at_call 83; refine call_same (divRound_c _ _ _ (by omega) (by omega) (by omega) (by omega)) ?_)
      go_ret
      exact ⟨by rw [HM.out]; rfl, below_next HB2.out HL.out⟩

theorem l08Mass_c (a : Option Addr) (cap : Nat) (g : List (List Int)) (c d : Int) (w : World) (h : Grid w a g) (hs : Small g) (ok : GridOk 1 200 g) (hc : 1 ≤ c ∧ c ≤ 10000) (hd : 1 ≤ d ∧ d ≤ 2000) :
    Calls Try.prog 76 #[.slice a g.length cap, .int .i64 c, .int .i64 d] w fun e w' => e = .returned (.int .i64 (massF g c d)) ∧ w = w' := by
  have hn := hs.len
  have hm0 := sumP_bd (g := g) (l := plTo g g.length) fun p hp => by
      have := ok.at_ (plTo_in (Nat.le_refl _) hp); omega
  have hm1 := ok.places
  have hm := mass_mul (s := sumP g (plTo g g.length)) (by omega) hc hd
  clear hm0 hm1
  have HV := Lib.hid (show ∀ k m, k < g.length → m ≤ (nthL g k).length → 0 ≤ sumP g (plTo g k ++ rowPl k m) ∧ sumP g (plTo g k ++ rowPl k m) ≤ 100000 from fun k m hk hm => by
    have h1 := sumP_bd (g := g) (l := plTo g k ++ rowPl k m) fun p hp => by
      have := ok.at_ (pre_in hk hm hp); omega
    have h2 := sumL_le (m := 10) (fun j hj => (ok.len hj).2) k (by omega)
    have h3 := (ok.len hk).2
    have h4 := ok.rows
    rw [List.length_append, plTo_len, rowPl_len] at h1
    omega)
  have HR := Lib.hid ok.range
  have HM := Lib.hid (show massF g c d = rdiv (sumP g (plTo g g.length) * c * d) 10000 from rfl)
  clear ok
  go_enter Try.func76, Try.ntmps76
  go_wp2
  go_loop [7, 8] (fun s i => ∃ k : Nat, k ≤ g.length ∧ i = .int .i64 k ∧ s = .int .i64 (sumP g (plTo g k))) (fun _ i => g.length - (intOf i).toNat)
  case atStart => exact ⟨0, Nat.zero_le _, rfl, rfl⟩
  case round =>
    obtain ⟨k, hk, rfl, rfl⟩ := hrel
    by_cases hlt : k < g.length
    · obtain ⟨b, o, rfl, hb, ar, cr, hc0, hnu⟩ := h.pos hlt
      have hrow := hs.row hlt
      have HNU := Lib.hid hnu
      have HRK := Lib.hid (HR.out k hlt)
      clear hnu h
      go_wp2_with fail
      go_loop [7, 9] (fun s i => ∃ m : Nat, m ≤ (nthL g k).length ∧ i = .int .i64 m ∧ s = .int .i64 (sumP g (plTo g k ++ rowPl k m))) (fun _ i => (nthL g k).length - (intOf i).toNat)
      case atStart => exact ⟨0, Nat.zero_le _, rfl, by simp [rowPl]⟩
      case round =>
        obtain ⟨m, hml, rfl, rfl⟩ := hrel
        have hbd := HV.out k m hlt hml
        by_cases hmt : m < (nthL g k).length
        · obtain ⟨b2, o2, rfl, _, hc2⟩ := HNU.out.pos hmt
          have hv := HRK.out m hmt
          have HS := Lib.hid (show sumP g (plTo g k ++ rowPl k (m + 1)) = sumP g (plTo g k ++ rowPl k m) + nth (nthL g k) m by rw [rowPl_succ, ← List.append_assoc, sumP_snoc]; rfl)
          generalize sumP g (plTo g k ++ rowPl k m) = s at hbd HS ⊢
          go_wp2
          go_round
          case rel => exact ⟨m + 1, by omega, by go_num, by rw [HS.out]⟩
          case measure => simp [intOf]; omega
        · obtain rfl : m = (nthL g k).length := by omega
          go_wp2
          go_round
          case rel => exact ⟨k + 1, by omega, by go_num, rfl⟩
          case measure => simp [intOf]; omega
    · obtain rfl : k = g.length := by omega
      go_wp2_with (go_at_call 81; refine call_same (l01Div_c _ _ _ (by omega) (by omega) (by omega) (by omega)) ?_)
      go_ret
      exact ⟨by rw [HM.out]; rfl, rfl⟩
end Go.Proofs.Ytejcglenjhkhhaa
