/- Reading a plate: both sides. -/
import Derived.Test.YtpklckpnhjhnhaaDoorReadList
import Derived.Test.YtpklckpnhjhnhaaDoorOwnP
import Derived.Test.YtpklckpnhjhnhaaDoorPlate
namespace Go.Proofs.YtpklckpnhjhnhaaDoor
open Go.RowKit Go.ChangeShapes Go.WideShapes
set_option linter.unusedVariables false

/-- The numbers of a row's text. -/
def rowF (t : List UInt8) : List Int := (readF t).getD []
/-- The rows of a text. -/
def rowsF (l : List UInt8) : List (List Int) := (splitL 47 l).map rowF
/-- The plate of a text; none where it is none. -/
def readP (l : List UInt8) : Option (List (List Int)) :=
  if (splitL 47 l).all (fun t => (readF t).isSome) && gridB 1 200 (rowsF l) then some (rowsF l) else none
theorem readP_row {l : List UInt8} {j : Nat} (hj : j < (splitL 47 l).length) (h : (readF (nthT (splitL 47 l) j)).isSome = false) : readP l = none := by
  unfold readP
  have : (splitL 47 l).all (fun t => (readF t).isSome) = false := by
    rw [Bool.eq_false_iff]
    intro ha
    rw [List.all_eq_true] at ha
    have := ha (nthT (splitL 47 l) j) (by rw [show nthT (splitL 47 l) j = (splitL 47 l)[j] by simp [nthT, hj]]; exact List.getElem_mem hj)
    rw [h] at this
    cases this
  rw [this]
  rfl
theorem readP_bad {l : List UInt8} (h : gridB 1 200 (rowsF l) = false) : readP l = none := by
  unfold readP
  rw [h, Bool.and_false]
  rfl
theorem readP_good {l : List UInt8} (h : gridB 1 200 (rowsF l) = true) (hr : ∀ j, j < (splitL 47 l).length → (readF (nthT (splitL 47 l) j)).isSome = true) : readP l = some (rowsF l) := by
  unfold readP
  have : (splitL 47 l).all (fun t => (readF t).isSome) = true := by
    rw [List.all_eq_true]
    intro x hx
    obtain ⟨j, hj, rfl⟩ := List.getElem_of_mem hx
    have := hr j hj
    simpa [nthT, hj] using this
  rw [this, h]
  rfl
theorem readP_long {l : List UInt8} (h : 10 < (splitL 47 l).length) : readP l = none := by
  refine readP_bad ?_
  rw [gridB_out]
  simp [inB, rowsF]
  omega
theorem rowsF_len (l : List UInt8) : (rowsF l).length = (splitL 47 l).length := by simp [rowsF]
theorem rowsF_nth {l : List UInt8} {j : Nat} (h : j < (splitL 47 l).length) : nthL (rowsF l) j = rowF (nthT (splitL 47 l) j) := by simp [nthL, rowsF, nthT, h]
theorem rowsF_take {l : List UInt8} {k : Nat} (h : k < (splitL 47 l).length) : (rowsF l).take (k + 1) = (rowsF l).take k ++ [rowF (nthT (splitL 47 l) k)] := by
  rw [List.take_add_one, List.getElem?_eq_getElem (by rw [rowsF_len]; exact h)]
  simp [rowsF, nthT, h]
theorem readF_len {t : List UInt8} {xs : List Int} (h : readF t = some xs) : xs.length ≤ 64 := by
  unfold readF at h
  split at h
  · cases h; simp
  · split at h
    · cases h
    · split at h
      · cases h; simp; omega
      · cases h
theorem rowF_len (t : List UInt8) : (rowF t).length ≤ 64 := by
  unfold rowF
  cases h : readF t with
  | none => simp
  | some xs => exact readF_len h
/-- The row that ReadList hands back, as a row of the grid. -/
theorem Got.fit {B : Nat} {w : World} {v : Value} {xs : List Int} (h : Got B w v xs) : RowFit B w.heap.size w v xs := by
  rcases h with ⟨rfl, rfl⟩ | h
  · exact .inl ⟨rfl, none, 0, rfl⟩
  · obtain ⟨b, cap, rfl, h1, h2, hn⟩ := h.form
    by_cases h0 : xs = []
    · subst h0
      exact .inl ⟨rfl, _, cap, rfl⟩
    · have hl : 1 ≤ xs.length := by cases xs with
        | nil => exact absurd rfl h0
        | cons a r => simp
      exact .inr ⟨b, cap, rfl, ⟨h1, h2⟩, hl, own_rowC h⟩
theorem gridB_rowlen {g : List (List Int)} (h : gridB 1 200 g = true) : ∀ j, j < g.length → 1 ≤ (nthL g j).length := fun j hj => by
  have ok := gridB_true h
  have := ok.same j hj
  have := ok.cols
  omega
theorem rows_bd (l : List UInt8) : ∀ j, j < (rowsF l).length → (nthL (rowsF l) j).length ≤ 4194304 := fun j hj => by
  rw [rowsF_nth (by rw [← rowsF_len]; exact hj)]
  have := rowF_len (nthT (splitL 47 l) j)
  omega
theorem rows_small {l : List UInt8} (h : (splitL 47 l).length ≤ 10) : Small (rowsF l) := by
  have key : ∀ i, i ≤ (rowsF l).length → sumL (rowsF l) i ≤ 64 * i := by
    intro i
    induction i with
    | zero => intro _; simp [sumL]
    | succ i ih =>
      intro hi
      have h1 := ih (by omega)
      have h2 := rowF_len (nthT (splitL 47 l) i)
      simp only [sumL, rowsF_nth (show i < (splitL 47 l).length by rw [← rowsF_len]; omega)]
      omega
  have := key _ (Nat.le_refl _)
  unfold Small
  rw [rowsF_len] at *
  omega

set_option maxRecDepth 100000 in
theorem l08Read_c (l : List UInt8) (hl : l.length ≤ 1048576) (w : World) :
    Calls Tryd.prog 45 #[.string ⟨l.toArray⟩] w fun e w' => ∃ v, e = .returned (.tuple #[v, .bool (readP l).isSome]) ∧ ((∃ a cap, v = .slice a ((readP l).getD []).length cap ∧ Grid w' a ((readP l).getD [])) ∧ Below w.heap.size w w') := by
  have HSL := Lib.hid (splitL_len 47 l)
  have HSN := Lib.hid (fun j (hj : j < (splitL 47 l).length) => splitL_nth hj)
  have HBD := Lib.hid (rows_bd l)
  obtain ⟨j0, hj, hy0, hy1, hy2⟩ := info_parts infoS
  go_enter Tryd.func45, Tryd.ntmps45
  go_wp2_with (go_at_call 59; refine (l01Split_c 47 l w hl).mono ?_; rintro e w1 ⟨v1, rfl, hown1, hb1⟩; refine Hid.out ?_)
  refine Lib.hid ?_
  obtain ⟨b1, cap1, rfl, ⟨hb1a, hb1b, hb1c⟩, hcell⟩ := hown1.form
  have HC := Lib.hid hcell
  have HB1 := Lib.hid hb1
  have hsz1 := HB1.out.size
  clear hcell hown1 hb1
  have HSM := Lib.hid (show (splitL 47 l).length ≤ 1048577 by have := HSL.out; omega)
  go_wp2
  go_loopw [5, 6] (fun v i wr => ∃ k : Nat, k ≤ (splitL 47 l).length ∧ i = .int .i64 k ∧ (∀ j, j < k → (readF (nthT (splitL 47 l) j)).isSome = true) ∧ OwnP w1.heap.size wr.heap.size wr v ((rowsF l).take k) ∧ Below w1.heap.size w1 wr) (fun _ i _ => (splitL 47 l).length - (intOf i).toNat)
  case atStart => exact ⟨0, Nat.zero_le _, rfl, fun j hj => absurd hj (Nat.not_lt_zero _), OwnP.start (World.ownsRow_made w1 #[] 0 (Nat.le_refl _) (Nat.zero_le _) rfl) (by simp) (Nat.le_refl _), (Below.refl _ _).alloc (Nat.le_refl _) _⟩
  case round =>
    obtain ⟨k, hk, rfl, hall, hown, hbl⟩ := hrel
    have HA := Lib.hid hall
    have HO := Lib.hid hown
    have HL := Lib.hid hbl
    have hszr := HL.out.size
    have HLT := Lib.hid (show ((rowsF l).take k).length = k by rw [List.length_take, rowsF_len]; omega)
    clear hall hown hbl
    obtain ⟨ob, oc, rfl, hob1, hob2, hog⟩ := HO.out.form
    have HOG := Lib.hid hog
    clear hog
    by_cases hlt : k < (splitL 47 l).length
    · have hc := (HL.out.cell (p := ⟨b1, k, none⟩) hb1b).trans (HC.out k hlt)
      have HTL := Lib.hid (show (nthT (splitL 47 l) k).length ≤ 1048576 by have := HSN.out k hlt; omega)
      have HBAD := Lib.hid (fun h => readP_row hlt h)
      have HE := Lib.hid (rowsF_take hlt)
      have HST := Lib.hid (fun (h : (readF (nthT (splitL 47 l) k)).isSome = true) j (hj : j < k + 1) => show (readF (nthT (splitL 47 l) j)).isSome = true by
        rcases Nat.lt_or_eq_of_le (Nat.le_of_lt_succ hj) with h1 | rfl
        · exact HA.out j h1
        · exact h)
      generalize nthT (splitL 47 l) k = t at hc HTL HBAD HE HST
      have HRL := Lib.hid (rowF_len t)
      have hk1 : k ≤ 1048577 := by have := HSM.out; omega
      rw [HLT.out] at HO ⊢
      cases hs : (readF t).isSome
      · have HF := Lib.hid (HBAD.out hs)
        go_wp2_with (go_at_call 42; refine (sReadList_c t HTL.out _).mono ?_; rintro e w2 ⟨v2, rfl, hg, hb2⟩; rw [hs])
        go_returns
        exact ⟨_, by rw [HF.out]; rfl, ⟨none, 0, by rw [HF.out]; rfl, by rw [HF.out]; exact .inl rfl⟩, HB1.out.trans ((below_next HL.out hb2).mono hsz1)⟩
      · go_wp2_with (go_at_call 42; refine (sReadList_c t HTL.out _).mono ?_; rintro e w2 ⟨v2, rfl, hg, hb2⟩; rw [hs]; refine Hid.out ?_)
        refine Lib.hid ?_
        have HG := Lib.hid (show RowFit wr.heap.size w2.heap.size w2 v2 (rowF t) from hg.fit)
        obtain ⟨a2, cap2, rfl, -⟩ := HG.out.form
        have HL2 := Lib.hid (below_next HL.out hb2)
        have HO2 := Lib.hid (HO.out.below (Nat.le_refl _) hb2)
        have HZ2 := Lib.hid hb2.size
        clear hg hb2
        have hsz2 := HL2.out.size
        obtain ⟨vals, hvl, hown, hnn, hrows, hdist, hvb⟩ := HO2.out
        have HV := Lib.hid (And.intro hvl (And.intro hnn (And.intro hrows (And.intro hdist hvb))))
        have HOW := Lib.hid hown
        have HOW2 := Lib.hid (show w2.ownsRow w1.heap.size 52 1 (.slice (some ⟨ob, 0, none⟩) k oc) k vals by have := hown; rw [HLT.out] at this; exact this)
        clear hvl hown hnn hrows hdist hvb
        go_wp2_with (at_builtin; refine wpList_append_own _ rfl _ _ 43 rfl w1.heap.size 52 j0 (.slice none 0 0) 1 24 Tryd.underlying43 hj hy0 hy1 hy2 rfl (by decide) _ _ _ rfl (HOW2.out.alloc _) ⟨w2.heap.size, 0, none⟩ 1 1 [.slice a2 (rowF t).length cap2] rfl rfl (own_new1 _ _ _) ?d2 ?d3 ?d4 ?d5 ?_)
        case d2 => (first | rfl | (intro u hu; simp at hu; subst hu; rfl))
        case d3 => have := HSM.out; unfold maxLen; omega
        case d4 => have := HSM.out; omega
        case d5 => simp; omega
        · intro v' w5 hown' hgrow hnil
          have HX5 := Lib.hid (below_grown (HL2.out.alloc hsz2 _) (by simp; omega) hgrow fun q hq => HO2.out.lt q hq)
          have HY := Lib.hid (show OwnP w1.heap.size w5.heap.size w5 v' ((rowsF l).take (k + 1)) by
            rw [HE.out]
            exact ownp_push HV.out.1 HOW.out HV.out.2.2.1 HV.out.2.2.2.1 HV.out.2.2.2.2 hszr HZ2.out HG.out (by rw [HLT.out]; exact hown') hgrow hnil)
          clear hown' hgrow hnil
          go_wp2_with fail
          exact ⟨⟨k + 1, hlt, by simp, HST.out hs, HY.out, HX5.out⟩, by simp only [intOf]; omega⟩
    · have hkl : k = (splitL 47 l).length := by omega
      have HTK := Lib.hid (show (rowsF l).take k = rowsF l from List.take_of_length_le (by rw [rowsF_len]; omega))
      have hk22 : k ≤ 4194304 := by have := HSM.out; omega
      have HG := Lib.hid (show Grid wr (some ⟨ob, 0, none⟩) (rowsF l) by have := HOG.out; rw [HTK.out] at this; exact this)
      have HRL := Lib.hid (show (rowsF l).length = k by rw [rowsF_len]; omega)
      have HAL := Lib.hid (fun j (hj : j < (splitL 47 l).length) => HA.out j (by omega))
      have HOK := Lib.hid (show Calls Tryd.prog 62 #[.slice (some ⟨ob, 0, none⟩) k oc] wr fun e w' => e = .returned (.bool (gridB 1 200 (rowsF l))) ∧ Below wr.heap.size wr w' by
        have h := l08Ok_g (some ⟨ob, 0, none⟩) oc (rowsF l) wr HG.out (by rw [HRL.out]; exact hk22) HBD.out
        rw [HRL.out] at h
        exact h)
      clear hkl
      rw [HLT.out]
      cases hgb : gridB 1 200 (rowsF l)
      · have HF := Lib.hid (readP_bad hgb)
        go_wp2_with (go_at_call 62; refine call_below HOK.out ?_; rw [hgb]; intro w3 hb3)
        go_returns
        exact ⟨_, by rw [HF.out]; rfl, ⟨none, 0, by rw [HF.out]; rfl, by rw [HF.out]; exact .inl rfl⟩, HB1.out.trans ((below_next HL.out hb3).mono hsz1)⟩
      · have HF := Lib.hid (readP_good hgb HAL.out)
        go_wp2_with (go_at_call 62; refine call_below HOK.out ?_; rw [hgb]; intro w3 hb3)
        go_returns
        exact ⟨_, by rw [HF.out]; rfl, ⟨some ⟨ob, 0, none⟩, oc, by rw [HF.out]; show _ = Value.slice _ (rowsF l).length _; rw [HRL.out]; rfl, by rw [HF.out]; exact HG.out.below hb3⟩, HB1.out.trans ((below_next HL.out hb3).mono hsz1)⟩
theorem sReadPlate_c (l : List UInt8) (hl : l.length ≤ 1048576) (w : World) :
    Calls Tryd.prog 26 #[.string ⟨l.toArray⟩] w fun e w' => ∃ v, e = .returned (.tuple #[v, .bool (readP l).isSome]) ∧ ((∃ a cap, v = .slice a ((readP l).getD []).length cap ∧ Grid w' a ((readP l).getD [])) ∧ Below w.heap.size w w') := by
  go_enter Tryd.func26, Tryd.ntmps26
  go_wp2_with fail
  refine (l08Read_c l hl w).mono ?_
  rintro e w1 ⟨v, rfl, hg, hb⟩
  go_wp2
  go_returns
  exact ⟨v, rfl, hg, hb⟩
/-- The block of the list of rows is not that of the texts. -/
theorem ownP_apart {B C g : Nat} {w : World} {v : Value} {gl : List (List Int)} {ts : List (List UInt8)} (h : OwnP B C w v gl) (hg : w.heap[g]? = some (.cells (strCells ts).toArray 9)) : ∀ q, v.ownBlock = some q → q ≠ g := by
  obtain ⟨vals, _, h, hn, _⟩ := h
  rcases h.2 with ⟨rfl, _⟩ | ⟨b, cap, cur, rfl, _, hh, _⟩
  · exact absurd rfl hn
  · rintro q hq rfl
    have hb : b = q := by simpa [Value.ownBlock] using hq
    subst hb
    rw [hg] at hh
    cases hh
set_option maxRecDepth 100000 in
theorem readPlate_c (l : List UInt8) (hl : l.length ≤ 1048576) (w : World) (D : Door w) :
    Calls Tryd.prog 27 #[.string ⟨l.toArray⟩] w fun e w' => ∃ v, e = .returned (.tuple #[v, .bool (readP l).isSome]) ∧ ((∃ a cap, v = .slice a ((readP l).getD []).length cap ∧ GridA w.heap.size w'.heap.size w' a ((readP l).getD [])) ∧ Below w.heap.size w w') := by
  have HDR := Lib.hid D
  clear D
  have HSL := Lib.hid (splitL_len 47 l)
  have HSN := Lib.hid (fun j (hj : j < (splitL 47 l).length) => splitL_nth hj)
  have HSM := Lib.hid (show (splitL 47 l).length ≤ 1048577 by have := HSL.out; omega)
  obtain ⟨j0, hj, hy0, hy1, hy2⟩ := info_parts infoS
  have HA0 := Lib.hid (show Below w.heap.size w (w.alloc (.cells #[] 52)) from (Below.refl _ _).alloc (Nat.le_refl _) _)
  have HO0 := Lib.hid (show OwnP w.heap.size (w.alloc (.cells #[] 52)).heap.size (w.alloc (.cells #[] 52)) (.slice (some ⟨w.heap.size, 0, none⟩) 0 0) [] from OwnP.start (World.ownsRow_made w #[] 0 (Nat.le_refl _) (Nat.zero_le _) rfl) (by simp) (Nat.le_refl _))
  obtain ⟨m, hmx⟩ := (HDR.out.below HA0.out).max
  have HMX := Lib.hid hmx
  clear hmx
  go_enter Tryd.func27, Tryd.ntmps27
  go_wp2_with (go_at_call 46; refine (split_c 47 ⟨l.toArray⟩ m _ (by simp [ByteArray.size]; omega) HMX.out).mono ?_; rintro e w1 ⟨rfl, ew1⟩; refine Hid.out ?_)
  refine Lib.hid ?_
  clear ew1
  have HC := Lib.hid (show ((w.alloc (.cells #[] 52)).alloc (.cells (strCells (splitL 47 l)).toArray 9)).heap[w.heap.size + 1]? = some (.cells (strCells (splitL 47 l)).toArray 9) by
    have e : (w.alloc (.cells #[] 52)).heap.size = w.heap.size + 1 := by simp
    rw [← e]
    exact Array.getElem?_push_size)
  have HB1 := Lib.hid (show Below w.heap.size w ((w.alloc (.cells #[] 52)).alloc (.cells (strCells (splitL 47 l)).toArray 9)) from HA0.out.alloc (by simp) _)
  have HO1 := Lib.hid ((HO0.out.below (Nat.le_refl _) ((Below.refl _ _).alloc (Nat.le_refl _) (.cells (strCells (splitL 47 l)).toArray 9))).wide (D := ((w.alloc (.cells #[] 52)).alloc (.cells (strCells (splitL 47 l)).toArray 9)).heap.size) (by simp))
  have hsz1 : w.heap.size + 1 < ((w.alloc (.cells #[] 52)).alloc (.cells (strCells (splitL 47 l)).toArray 9)).heap.size := by simp
  generalize ((w.alloc (.cells #[] 52)).alloc (.cells (strCells (splitL 47 l)).toArray 9)) = w1 at HC HB1 HO1 hsz1 ⊢
  clear HA0 HO0 HMX
  go_wp2
  go_loopw [4, 13] (fun v i wr => ∃ k : Nat, k ≤ (splitL 47 l).length ∧ k ≤ 10 ∧ i = .int .i64 k ∧ (∀ j, j < k → (readF (nthT (splitL 47 l) j)).isSome = true) ∧ OwnP w.heap.size wr.heap.size wr v ((rowsF l).take k) ∧ Below w.heap.size w wr ∧ wr.heap[w.heap.size + 1]? = some (.cells (strCells (splitL 47 l)).toArray 9)) (fun _ i _ => (splitL 47 l).length - (intOf i).toNat)
  case atStart => exact ⟨0, Nat.zero_le _, Nat.zero_le _, rfl, fun j hj => absurd hj (Nat.not_lt_zero _), HO1.out, HB1.out, HC.out⟩
  case round =>
    clear HO1 HB1 HC hsz1
    obtain ⟨k, hk, hk10, rfl, hall, hown, hbl, hcs⟩ := hrel
    have HA := Lib.hid hall
    have HO := Lib.hid hown
    have HL := Lib.hid hbl
    have HS := Lib.hid hcs
    have hszr := HL.out.size
    have HLT := Lib.hid (show ((rowsF l).take k).length = k by rw [List.length_take, rowsF_len]; omega)
    have HDW := Lib.hid (HDR.out.below HL.out)
    clear hall hown hbl hcs
    obtain ⟨ob, oc, rfl, hob1, hob2, hog⟩ := HO.out.form
    have HOG := Lib.hid hog
    clear hog
    by_cases hlt : k < (splitL 47 l).length
    · have hc := piece_cell HS.out hlt
      have HTL := Lib.hid (show (nthT (splitL 47 l) k).length ≤ 1048576 by have := HSN.out k hlt; omega)
      have HBAD := Lib.hid (fun h => readP_row hlt h)
      have HE := Lib.hid (rowsF_take hlt)
      have HST := Lib.hid (fun (h : (readF (nthT (splitL 47 l) k)).isSome = true) j (hj : j < k + 1) => show (readF (nthT (splitL 47 l) j)).isSome = true by
        rcases Nat.lt_or_eq_of_le (Nat.le_of_lt_succ hj) with h1 | rfl
        · exact HA.out j h1
        · exact h)
      have HAP := Lib.hid (ownP_apart HO.out HS.out)
      generalize nthT (splitL 47 l) k = t at hc HTL HBAD HE HST
      have HRL := Lib.hid (rowF_len t)
      rw [HLT.out] at HO HAP ⊢
      cases hs : (readF t).isSome
      · have HF := Lib.hid (HBAD.out hs)
        go_wp2_with (go_at_call 34; refine (readList_c t HTL.out _ HDW.out).mono ?_; rintro e w2 ⟨v2, rfl, hg, hb2⟩; rw [hs])
        go_returns
        exact ⟨_, by rw [HF.out]; rfl, ⟨none, 0, by rw [HF.out]; rfl, by rw [HF.out]; exact .inl rfl⟩, below_next HL.out hb2⟩
      · by_cases h64 : k = 10
        · have HF := Lib.hid (readP_long (l := l) (by omega))
          have e64 : ((k : Int) == 10) = true := by rw [beq_iff_eq]; omega
          clear h64
          go_wp2_with (go_at_call 34; refine (readList_c t HTL.out _ HDW.out).mono ?_; rintro e w2 ⟨v2, rfl, hg, hb2⟩; rw [hs])
          go_returns
          exact ⟨_, by rw [HF.out]; rfl, ⟨none, 0, by rw [HF.out]; rfl, by rw [HF.out]; exact .inl rfl⟩, below_next HL.out hb2⟩
        · have e64 : ((k : Int) == 10) = false := by rw [beq_eq_false_iff_ne]; omega
          have HK := Lib.hid (show k + 1 ≤ 10 by omega)
          clear h64
          go_wp2_with (go_at_call 34; refine (readList_c t HTL.out _ HDW.out).mono ?_; rintro e w2 ⟨v2, rfl, hg, hb2⟩; rw [hs]; refine Hid.out ?_)
          refine Lib.hid ?_
          have HG := Lib.hid (show RowFit wr.heap.size w2.heap.size w2 v2 (rowF t) from hg.fit)
          obtain ⟨a2, cap2, rfl, -⟩ := HG.out.form
          have HL2 := Lib.hid (below_next HL.out hb2)
          have HO2 := Lib.hid (HO.out.below (Nat.le_refl _) hb2)
          have HZ2 := Lib.hid hb2.size
          have hlt2 : w.heap.size + 1 < wr.heap.size := (Array.getElem?_eq_some_iff.1 HS.out).1
          have HS2 := Lib.hid ((hb2.block (w.heap.size + 1) hlt2).trans HS.out)
          have hsz3 := hb2.size
          clear hg hb2
          have hsz2 := HL2.out.size
          obtain ⟨vals, hvl, hown, hnn, hrows, hdist, hvb⟩ := HO2.out
          have HV := Lib.hid (And.intro hvl (And.intro hnn (And.intro hrows (And.intro hdist hvb))))
          have HOW := Lib.hid hown
          have HOW2 := Lib.hid (show w2.ownsRow w.heap.size 52 1 (.slice (some ⟨ob, 0, none⟩) k oc) k vals by have := hown; rw [HLT.out] at this; exact this)
          clear hvl hown hnn hrows hdist hvb
          go_wp2_with (at_builtin; refine wpList_append_own _ rfl _ _ 43 rfl w.heap.size 52 j0 (.slice none 0 0) 1 24 Tryd.underlying43 hj hy0 hy1 hy2 rfl (by decide) _ _ _ rfl (HOW2.out.alloc _) ⟨w2.heap.size, 0, none⟩ 1 1 [.slice a2 (rowF t).length cap2] rfl rfl (own_new1 _ _ _) ?d2 ?d3 ?d4 ?d5 ?_)
          case d2 => (first | rfl | (intro u hu; simp at hu; subst hu; rfl))
          case d3 => unfold maxLen; first | omega | (simp; omega)
          case d4 => first | omega | (simp; omega)
          case d5 => simp; omega
          · intro v' w5 hown' hgrow hnil
            have HX5 := Lib.hid (below_grown (HL2.out.alloc hsz2 _) (by simp; omega) hgrow fun q hq => HO2.out.lt q hq)
            have HY := Lib.hid (show OwnP w.heap.size w5.heap.size w5 v' ((rowsF l).take (k + 1)) by
              rw [HE.out]
              exact ownp_push HV.out.1 HOW.out HV.out.2.2.1 HV.out.2.2.2.1 HV.out.2.2.2.2 hszr HZ2.out HG.out (by rw [HLT.out]; exact hown') hgrow hnil)
            have HS5 := Lib.hid (show w5.heap[w.heap.size + 1]? = some (.cells (strCells (splitL 47 l)).toArray 9) from
              (hgrow.block (w.heap.size + 1) (by simp; omega) (fun e => HAP.out _ e.symm rfl)).trans (by rw [Below.heap_alloc _ _ _ (by omega)]; exact HS2.out))
            clear hown' hgrow hnil
            go_wp2_with fail
            exact ⟨⟨k + 1, hlt, HK.out, by simp, HST.out hs, HY.out, HX5.out, HS5.out⟩, by simp only [intOf]; omega⟩
    · have hkl : k = (splitL 47 l).length := by omega
      have HTK := Lib.hid (show (rowsF l).take k = rowsF l from List.take_of_length_le (by rw [rowsF_len]; omega))
      have HG := Lib.hid (show Grid wr (some ⟨ob, 0, none⟩) (rowsF l) by have := HOG.out; rw [HTK.out] at this; exact this)
      have HRL := Lib.hid (show (rowsF l).length = k by rw [rowsF_len]; omega)
      have HAL := Lib.hid (fun j (hj : j < (splitL 47 l).length) => HA.out j (by omega))
      have HSMALL := Lib.hid (rows_small (l := l) (by omega))
      have HOK := Lib.hid (show Calls Tryd.prog 47 #[.slice (some ⟨ob, 0, none⟩) k oc] wr fun e w' => e = .returned (.bool (gridB 1 200 (rowsF l))) ∧ wr = w' by
        have h := validPlate_c (some ⟨ob, 0, none⟩) oc (rowsF l) wr HG.out HSMALL.out
        rw [HRL.out] at h
        exact h)
      have HOP := Lib.hid (show OwnP w.heap.size wr.heap.size wr (.slice (some ⟨ob, 0, none⟩) k oc) (rowsF l) by have := HO.out; rw [HLT.out, HTK.out] at this; exact this)
      clear hkl
      rw [HLT.out]
      cases hgb : gridB 1 200 (rowsF l)
      · have HF := Lib.hid (readP_bad hgb)
        go_wp2_with (go_at_call 47; refine call_same HOK.out ?_; rw [hgb])
        go_returns
        exact ⟨_, by rw [HF.out]; rfl, ⟨none, 0, by rw [HF.out]; rfl, by rw [HF.out]; exact .inl rfl⟩, HL.out⟩
      · have HF := Lib.hid (readP_good hgb HAL.out)
        have HGA := Lib.hid (show GridA w.heap.size wr.heap.size wr (some ⟨ob, 0, none⟩) (rowsF l) by
          obtain ⟨a, cap, e, h⟩ := (HOP.out.ownG (gridB_rowlen hgb)).gridA
          injection e with e1 e2 e3
          rw [e1]
          exact h)
        go_wp2_with (go_at_call 47; refine call_same HOK.out ?_; rw [hgb])
        go_returns
        exact ⟨_, by rw [HF.out]; rfl, ⟨some ⟨ob, 0, none⟩, oc, by rw [HF.out]; show _ = Value.slice _ (rowsF l).length _; rw [HRL.out]; rfl, by rw [HF.out]; exact HGA.out⟩, HL.out⟩
end Go.Proofs.YtpklckpnhjhnhaaDoor
