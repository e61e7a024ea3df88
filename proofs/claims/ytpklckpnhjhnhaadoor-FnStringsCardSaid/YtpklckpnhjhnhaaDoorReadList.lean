/- Reading a list of numbers: both sides. -/
import Derived.Test.YtpklckpnhjhnhaaDoorNumber
import Derived.Test.YtpklckpnhjhnhaaDoorOwnInts
namespace Go.Proofs.YtpklckpnhjhnhaaDoor
open Go.RowKit Go.ChangeShapes Go.WideShapes
set_option linter.unusedVariables false

/-- A piece that spells a number within the bounds. -/
def okT (t : List UInt8) : Bool := (numF t).isSome && inB (numV (numF t)) (-1000000000000) 1000000000000
def valT (t : List UInt8) : Int := numV (numF t)
def allOk : List (List UInt8) → Bool
  | [] => true
  | t :: ts => okT t && allOk ts
/-- The numbers of a text; none where it is no list of at most sixty-four numbers. -/
def readF (l : List UInt8) : Option (List Int) :=
  if l = [45] then some [] else if 64 < (splitL 44 l).length then none else if (splitL 44 l).all okT then some ((splitL 44 l).map valT) else none
theorem all_nthT {ts : List (List UInt8)} (h : ∀ j, j < ts.length → okT (nthT ts j) = true) : ts.all okT = true := by
  rw [List.all_eq_true]
  intro x hx
  obtain ⟨j, hj, rfl⟩ := List.getElem_of_mem hx
  have := h j hj
  simpa [nthT, hj] using this
theorem allT_not {ts : List (List UInt8)} {j : Nat} (hj : j < ts.length) (h : okT (nthT ts j) = false) : ts.all okT = false := by
  rw [Bool.eq_false_iff]
  intro ha
  rw [List.all_eq_true] at ha
  rw [show nthT ts j = ts[j] by simp [nthT, hj]] at h
  rw [ha _ (List.getElem_mem hj)] at h
  cases h
/-- The slice v holds the numbers xs: none, or a row that the call has made itself, in a block from B on. -/
def Got (B : Nat) (w : World) (v : Value) (xs : List Int) : Prop := (v = .slice none 0 0 ∧ xs = []) ∨ OwnI B w v xs
theorem Got.nil {B : Nat} (w : World) : Got B w (.slice none 0 0) [] := .inl ⟨rfl, rfl⟩
theorem OwnI.got {B : Nat} {w : World} {v : Value} {xs : List Int} (h : OwnI B w v xs) : Got B w v xs := .inr h
theorem OwnI.mono {B B' : Nat} {w : World} {v : Value} {xs : List Int} (h : OwnI B w v xs) (hB : B' ≤ B) : OwnI B' w v xs := by
  obtain ⟨⟨h1, h2⟩, h3⟩ := h
  refine ⟨⟨h1, ?_⟩, h3⟩
  rcases h2 with h2 | ⟨b, cap, cur, e, hb, r⟩
  · exact .inl h2
  · exact .inr ⟨b, cap, cur, e, by omega, r⟩
theorem Got.form {B : Nat} {w : World} {v : Value} {xs : List Int} (h : Got B w v xs) : ∃ a cap, v = .slice a xs.length cap ∧ Nums .i64 w a xs := by
  rcases h with ⟨rfl, rfl⟩ | h
  · exact ⟨none, 0, rfl, Nums.nil _ _ _⟩
  · obtain ⟨b, cap, rfl, _, _, hn⟩ := h.form
    exact ⟨_, cap, rfl, hn⟩
theorem read_dash : readF [45] = some [] := by unfold readF; rw [if_pos rfl]
theorem read_long {l : List UInt8} (h : 64 < (splitL 44 l).length) (hd : l ≠ [45]) : readF l = none := by unfold readF; rw [if_neg hd, if_pos h]
theorem read_bad {l : List UInt8} (hd : l ≠ [45]) {j : Nat} (hj : j < (splitL 44 l).length) (h : okT (nthT (splitL 44 l) j) = false) : readF l = none := by
  unfold readF
  have := allT_not hj h
  rw [if_neg hd]
  split
  · rfl
  · rw [if_neg (by rw [this]; decide)]
theorem read_good {l : List UInt8} (hd : l ≠ [45]) (hn : (splitL 44 l).length ≤ 64) (h : ∀ j, j < (splitL 44 l).length → okT (nthT (splitL 44 l) j) = true) : readF l = some ((splitL 44 l).map valT) := by
  unfold readF
  rw [if_neg hd, if_neg (by omega), all_nthT h]
  rfl
theorem vals_take {ts : List (List UInt8)} {k : Nat} (h : k < ts.length) : (ts.take k).map valT ++ [valT (nthT ts k)] = (ts.take (k + 1)).map valT := by
  rw [List.take_add_one, List.getElem?_eq_getElem h, List.map_append]
  simp [nthT, h]
theorem splitL_sum (c : UInt8) : ∀ l : List UInt8, ∀ t ∈ splitL c l, t.length ≤ l.length
  | [], t, ht => by simp [splitL] at ht; subst ht; simp
  | b :: r, t, ht => by
    unfold splitL at ht
    split at ht
    · rcases List.mem_cons.1 ht with rfl | ht
      · simp
      · have := splitL_sum c r t ht; simp; omega
    · split at ht
      · simp at ht; subst ht; simp
      · rename_i x xs e
        rcases List.mem_cons.1 ht with rfl | ht
        · have := splitL_sum c r x (by rw [e]; simp)
          simpa using this
        · have := splitL_sum c r t (by rw [e]; simp [ht]); simp; omega
theorem splitL_nth {c : UInt8} {l : List UInt8} {j : Nat} (h : j < (splitL c l).length) : (nthT (splitL c l) j).length ≤ l.length :=
  splitL_sum c l _ (by rw [show nthT (splitL c l) j = (splitL c l)[j] by simp [nthT, h]]; exact List.getElem_mem h)
theorem splitL_len (c : UInt8) : ∀ l : List UInt8, (splitL c l).length ≤ l.length + 1
  | [] => by simp [splitL]
  | b :: r => by
    have := splitL_len c r
    unfold splitL
    split
    · simp; omega
    · split
      · simp
      · rename_i x xs e
        rw [e] at this
        simp at this ⊢
        omega

set_option maxRecDepth 100000 in
theorem sReadList_c (l : List UInt8) (hl : l.length ≤ 1048576) (w : World) :
    Calls Tryd.prog 42 #[.string ⟨l.toArray⟩] w fun e w' => ∃ v, e = .returned (.tuple #[v, .bool (readF l).isSome]) ∧ (Got w.heap.size w' v ((readF l).getD []) ∧ Below w.heap.size w w') := by
  by_cases hd : l = [45]
  · subst hd
    have HF := Lib.hid read_dash
    go_enter Tryd.func42, Tryd.ntmps42
    go_wp2
    go_returns
    exact ⟨_, by rw [HF.out]; rfl, by rw [HF.out]; exact OwnI.got ⟨World.ownsRow_made w #[] 0 (Nat.le_refl _) (Nat.zero_le _) rfl, by simp⟩, (Below.refl _ _).alloc (Nat.le_refl _) _⟩
  · have q : (l == [45]) = false := beq_eq_false_iff_ne.2 hd
    have HD := Lib.hid hd
    clear hd
    have HSL := Lib.hid (splitL_len 44 l)
    have HSN := Lib.hid (fun j (hj : j < (splitL 44 l).length) => splitL_nth hj)
    go_enter Tryd.func42, Tryd.ntmps42
    go_wp2_with (go_at_call 59; refine (l01Split_c 44 l w hl).mono ?_; rintro e w1 ⟨v1, rfl, hown1, hb1⟩; refine Hid.out ?_)
    refine Lib.hid ?_
    obtain ⟨b1, cap1, rfl, ⟨hb1a, hb1b, hb1c⟩, hcell⟩ := hown1.form
    have HC := Lib.hid hcell
    have HB1 := Lib.hid hb1
    have hsz1 := HB1.out.size
    clear hcell hown1 hb1
    by_cases h64 : 64 < (splitL 44 l).length
    · have HF := Lib.hid (read_long h64 HD.out)
      have d : decide ((64 : Int) < ((splitL 44 l).length : Int)) = true := decide_eq_true (by omega)
      go_wp2
      go_returns
      exact ⟨_, by rw [HF.out]; rfl, by rw [HF.out]; exact Got.nil _, HB1.out⟩
    · have d : decide ((64 : Int) < ((splitL 44 l).length : Int)) = false := decide_eq_false (by omega)
      obtain ⟨i0, hi, hz0, hz1, hz2⟩ := info_parts infoI'
      go_wp2
      clear d
      go_loopw [5, 6] (fun v i wr => ∃ k : Nat, k ≤ (splitL 44 l).length ∧ i = .int .i64 k ∧ (∀ j, j < k → okT (nthT (splitL 44 l) j) = true) ∧ OwnI w1.heap.size wr v (((splitL 44 l).take k).map valT) ∧ Below w1.heap.size w1 wr) (fun _ i _ => (splitL 44 l).length - (intOf i).toNat)
      case atStart => exact ⟨0, Nat.zero_le _, rfl, fun j hj => absurd hj (Nat.not_lt_zero _), ⟨World.ownsRow_made w1 #[] 0 (Nat.le_refl _) (Nat.zero_le _) rfl, by simp⟩, (Below.refl _ _).alloc (Nat.le_refl _) _⟩
      case round =>
        obtain ⟨k, hk, rfl, hall, hown, hbl⟩ := hrel
        have HA := Lib.hid hall
        have HO := Lib.hid hown
        have HL := Lib.hid hbl
        clear hall hown hbl
        by_cases hlt : k < (splitL 44 l).length
        · have hc := (HL.out.cell (p := ⟨b1, k, none⟩) hb1b).trans (HC.out k hlt)
          have htl : (nthT (splitL 44 l) k).length ≤ 1048576 := by have := HSN.out k hlt; omega
          have HTL := Lib.hid htl
          have HBAD := Lib.hid (fun h => read_bad HD.out hlt h)
          have HE := Lib.hid (vals_take hlt)
          have HLT := Lib.hid (show (((splitL 44 l).take k).map valT).length = k by simp; omega)
          have HST := Lib.hid (fun (h : okT (nthT (splitL 44 l) k) = true) j (hj : j < k + 1) => show okT (nthT (splitL 44 l) j) = true by
            rcases Nat.lt_or_eq_of_le (Nat.le_of_lt_succ hj) with h1 | rfl
            · exact HA.out j h1
            · exact h)
          have hsz := HL.out.size
          clear htl
          generalize nthT (splitL 44 l) k = t at hc HTL HBAD HE HST
          cases hs : (numF t).isSome
          · have HF := Lib.hid (HBAD.out (by unfold okT; rw [hs]; rfl))
            go_wp2_with (go_at_call 60; refine call_same (l01Number_c t HTL.out _) ?_; rw [hs])
            go_returns
            exact ⟨_, by rw [HF.out]; rfl, by rw [HF.out]; exact Got.nil _, HB1.out.trans (HL.out.mono hsz1)⟩
          · cases hq : inB (numV (numF t)) (-1000000000000) 1000000000000
            · have HF := Lib.hid (HBAD.out (by unfold okT; rw [hs, hq]; rfl))
              go_wp2_with (first | (go_at_call 60; refine call_same (l01Number_c t HTL.out _) ?_; rw [hs]) | (go_at_call 57; refine call_same (l00In_c _ _ _ _) ?_; rw [hq]))
              go_returns
              exact ⟨_, by rw [HF.out]; rfl, by rw [HF.out]; exact Got.nil _, HB1.out.trans (HL.out.mono hsz1)⟩
            · have HOK := Lib.hid (HST.out (by unfold okT; rw [hs, hq]; rfl))
              have HV := Lib.hid (show valT t = numV (numF t) from rfl)
              generalize numV (numF t) = n at hq HV
              go_wp2_with (first | (go_at_call 60; refine call_same (l01Number_c t HTL.out _) ?_; rw [hs, ← show valT t = numV (numF t) from rfl, HV.out]) | (go_at_call 57; refine call_same (l00In_c _ _ _ _) ?_; rw [hq]) | (at_builtin; refine wpList_append_own _ rfl _ _ 52 rfl _ 2 i0 (.int .i64 0) 1 8 Tryd.underlying52 hi hz0 hz1 hz2 rfl (by decide) _ _ _ rfl (HO.out.1.alloc _) ⟨wr.heap.size, 0, none⟩ 1 1 [.int .i64 n] rfl rfl (own_new1 _ _ _) ?c2 ?c3 ?c4 ?c5 ?_))
              case c2 => (first | rfl | (intro u hu; simp at hu; subst hu; rfl))
              case c3 => have := HLT.out; unfold maxLen; first | omega | (simp at this ⊢; omega)
              case c4 => have := HLT.out; first | omega | (simp at this ⊢; omega)
              case c5 => first | omega | (simp; omega)
              · intro v' w5 hown' hgrow hnil
                have hne' : v' ≠ .slice none 0 0 := fun e => by simp [e] at hnil
                have HX5 := Lib.hid (below_grown (HL.out.alloc hsz _) (by simp; omega) hgrow fun q hq => HO.out.lt q hq)
                have HY := Lib.hid (show OwnI w1.heap.size w5 v' (((splitL 44 l).take (k + 1)).map valT) by
                  rw [← HE.out, HV.out]
                  have hmin : min k (splitL 44 l).length = k := by omega
                  exact OwnI.snoc (by simpa [hmin] using hown') hne')
                clear hown' hgrow hnil hne'
                go_wp2_with fail
                exact ⟨⟨k + 1, hlt, by simp, HOK.out, HY.out, HX5.out⟩, by simp only [intOf]; omega⟩
        · have hkl : k = (splitL 44 l).length := by omega
          subst hkl
          have HTK := Lib.hid (show (splitL 44 l).take (splitL 44 l).length = splitL 44 l from List.take_of_length_le (Nat.le_refl _))
          have HF := Lib.hid (read_good HD.out (by omega) HA.out)
          rw [HTK.out] at HO
          go_wp2
          go_returns
          exact ⟨_, by rw [HF.out]; rfl, by rw [HF.out]; exact (HO.out.mono hsz1).got, HB1.out.trans (HL.out.mono hsz1)⟩

theorem piece_cell {w : World} {g : Nat} {ts : List (List UInt8)} (h : w.heap[g]? = some (.cells (strCells ts).toArray 9)) {j : Nat} (hj : j < ts.length) : w.cell? ⟨g, j, none⟩ = some (.string ⟨(nthT ts j).toArray⟩) := by
  simp [World.cell?, h, strCells, nthT, hj]
theorem own_apart {B g : Nat} {w : World} {v : Value} {xs : List Int} {ts : List (List UInt8)} (h : OwnI B w v xs) (hg : w.heap[g]? = some (.cells (strCells ts).toArray 9)) : ∀ q, v.ownBlock = some q → q ≠ g := by
  rcases h.1.2 with ⟨rfl, _⟩ | ⟨b, cap, cur, rfl, _, hh, _⟩
  · exact absurd rfl h.2
  · rintro q hq rfl
    have hb : b = q := by simpa [Value.ownBlock] using hq
    subst hb
    rw [hg] at hh
    cases hh
set_option maxRecDepth 100000 in
theorem readList_c (l : List UInt8) (hl : l.length ≤ 1048576) (w : World) (D : Door w) :
    Calls Tryd.prog 34 #[.string ⟨l.toArray⟩] w fun e w' => ∃ v, e = .returned (.tuple #[v, .bool (readF l).isSome]) ∧ (Got w.heap.size w' v ((readF l).getD []) ∧ Below w.heap.size w w') := by
  have HDR := Lib.hid D
  clear D
  by_cases hd : l = [45]
  · subst hd
    have HF := Lib.hid read_dash
    go_enter Tryd.func34, Tryd.ntmps34
    go_wp2
    go_returns
    exact ⟨_, by rw [HF.out]; rfl, by rw [HF.out]; exact Got.nil _, Below.refl _ _⟩
  · have q : (l == [45]) = false := beq_eq_false_iff_ne.2 hd
    have HD := Lib.hid hd
    clear hd
    have HSL := Lib.hid (splitL_len 44 l)
    have HSN := Lib.hid (fun j (hj : j < (splitL 44 l).length) => splitL_nth hj)
    obtain ⟨i0, hi, hz0, hz1, hz2⟩ := info_parts infoI'
    have HA0 := Lib.hid (show Below w.heap.size w (w.alloc (.cells #[] 2)) from (Below.refl _ _).alloc (Nat.le_refl _) _)
    have HO0 := Lib.hid (show OwnI w.heap.size (w.alloc (.cells #[] 2)) (.slice (some ⟨w.heap.size, 0, none⟩) 0 0) [] from ⟨World.ownsRow_made w #[] 0 (Nat.le_refl _) (Nat.zero_le _) rfl, by simp⟩)
    obtain ⟨m, hmx⟩ := (HDR.out.below HA0.out).max
    have HMX := Lib.hid hmx
    clear hmx
    go_enter Tryd.func34, Tryd.ntmps34
    go_wp2_with (go_at_call 46; refine (split_c 44 ⟨l.toArray⟩ m _ (by simp [ByteArray.size]; omega) HMX.out).mono ?_; rintro e w1 ⟨rfl, ew1⟩; refine Hid.out ?_)
    refine Lib.hid ?_
    clear ew1
    have HC := Lib.hid (show ((w.alloc (.cells #[] 2)).alloc (.cells (strCells (splitL 44 l)).toArray 9)).heap[w.heap.size + 1]? = some (.cells (strCells (splitL 44 l)).toArray 9) by
      have e : (w.alloc (.cells #[] 2)).heap.size = w.heap.size + 1 := by simp
      rw [← e]
      exact Array.getElem?_push_size)
    have HB1 := Lib.hid (show Below w.heap.size w ((w.alloc (.cells #[] 2)).alloc (.cells (strCells (splitL 44 l)).toArray 9)) from HA0.out.alloc (by simp) _)
    have HO1 := Lib.hid (HO0.out.below ((Below.refl _ _).alloc (Nat.le_refl _) (.cells (strCells (splitL 44 l)).toArray 9)))
    have hsz1 : w.heap.size + 1 < ((w.alloc (.cells #[] 2)).alloc (.cells (strCells (splitL 44 l)).toArray 9)).heap.size := by simp
    generalize ((w.alloc (.cells #[] 2)).alloc (.cells (strCells (splitL 44 l)).toArray 9)) = w1 at HC HB1 HO1 hsz1 ⊢
    go_wp2
    go_loopw [4, 15] (fun v i wr => ∃ k : Nat, k ≤ (splitL 44 l).length ∧ k ≤ 64 ∧ i = .int .i64 k ∧ (∀ j, j < k → okT (nthT (splitL 44 l) j) = true) ∧ OwnI w.heap.size wr v (((splitL 44 l).take k).map valT) ∧ Below w.heap.size w wr ∧ wr.heap[w.heap.size + 1]? = some (.cells (strCells (splitL 44 l)).toArray 9)) (fun _ i _ => (splitL 44 l).length - (intOf i).toNat)
    case atStart => exact ⟨0, Nat.zero_le _, Nat.zero_le _, rfl, fun j hj => absurd hj (Nat.not_lt_zero _), HO1.out, HB1.out, HC.out⟩
    case round =>
      obtain ⟨k, hk, hk64, rfl, hall, hown, hbl, hcs⟩ := hrel
      have HA := Lib.hid hall
      have HO := Lib.hid hown
      have HL := Lib.hid hbl
      have HS := Lib.hid hcs
      clear hall hown hbl hcs
      have hsz := HL.out.size
      by_cases hlt : k < (splitL 44 l).length
      · have hc := piece_cell HS.out hlt
        have HTL := Lib.hid (show (nthT (splitL 44 l) k).length ≤ 1048576 by have := HSN.out k hlt; omega)
        have HBAD := Lib.hid (fun h => read_bad HD.out hlt h)
        have HE := Lib.hid (vals_take hlt)
        have HLT := Lib.hid (show (((splitL 44 l).take k).map valT).length = k by simp; omega)
        have hmin : min k (splitL 44 l).length = k := by omega
        have HST := Lib.hid (fun (h : okT (nthT (splitL 44 l) k) = true) j (hj : j < k + 1) => show okT (nthT (splitL 44 l) j) = true by
          rcases Nat.lt_or_eq_of_le (Nat.le_of_lt_succ hj) with h1 | rfl
          · exact HA.out j h1
          · exact h)
        have HDW := Lib.hid (HDR.out.below HL.out)
        obtain ⟨ob, oc, rfl, hob1, hob2, -⟩ := HO.out.form
        have HAP := Lib.hid (own_apart HO.out HS.out)
        generalize nthT (splitL 44 l) k = t at hc HTL HBAD HE HST
        cases hs : (numF t).isSome
        · have HF := Lib.hid (HBAD.out (by unfold okT; rw [hs]; rfl))
          go_wp2_with (go_at_call 53; refine call_below (readDecimal_c t HTL.out _ HDW.out) ?_; rw [hs]; intro w2 hb2)
          go_returns
          exact ⟨_, by rw [HF.out]; rfl, by rw [HF.out]; exact Got.nil _, below_next HL.out hb2⟩
        · cases hq : inB (numV (numF t)) (-1000000000000) 1000000000000
          · have HF := Lib.hid (HBAD.out (by unfold okT; rw [hs, hq]; rfl))
            go_wp2_with (first | (go_at_call 53; refine call_below (readDecimal_c t HTL.out _ HDW.out) ?_; rw [hs]; intro w2 hb2) | (go_at_call 36; refine call_same (within_c _ _ _ _) ?_; rw [hq]))
            go_returns
            exact ⟨_, by rw [HF.out]; rfl, by rw [HF.out]; exact Got.nil _, below_next HL.out hb2⟩
          · have HOK := Lib.hid (HST.out (by unfold okT; rw [hs, hq]; rfl))
            have HV := Lib.hid (show valT t = numV (numF t) from rfl)
            by_cases h64 : k = 64
            · have HF := Lib.hid (read_long (l := l) (by omega) HD.out)
              have e64 : ((k : Int) == 64) = true := by rw [beq_iff_eq]; omega
              rw [HLT.out]
              clear h64
              go_wp2_with (first | (go_at_call 53; refine call_below (readDecimal_c t HTL.out _ HDW.out) ?_; rw [hs]; intro w2 hb2) | (go_at_call 36; refine call_same (within_c _ _ _ _) ?_; rw [hq]))
              go_returns
              exact ⟨_, by rw [HF.out]; rfl, by rw [HF.out]; exact Got.nil _, below_next HL.out hb2⟩
            · have e64 : ((k : Int) == 64) = false := by rw [beq_eq_false_iff_ne]; omega
              rw [HLT.out]
              go_wp2_with (go_at_call 53; refine call_below (readDecimal_c t HTL.out _ HDW.out) ?_; rw [hs]; intro w2 hb2; refine Hid.out ?_)
              refine Lib.hid ?_
              have HL2 := Lib.hid (below_next HL.out hb2)
              have HO2 := Lib.hid (HO.out.below hb2)
              have hlt2 : w.heap.size + 1 < wr.heap.size := (Array.getElem?_eq_some_iff.1 HS.out).1
              have HS2 := Lib.hid ((hb2.block (w.heap.size + 1) hlt2).trans HS.out)
              have hsz2 := HL2.out.size
              have hsz3 := hb2.size
              clear hb2
              have HO3 := Lib.hid (show w2.ownsRow w.heap.size 2 1 (.slice (some ⟨ob, 0, none⟩) k oc) k ((((splitL 44 l).take k).map valT).map (Value.int .i64)) by have := HO2.out.1; rw [HLT.out] at this; exact this)
              go_wp2_with (first | (go_at_call 36; refine call_same (within_c _ _ _ _) ?_; rw [hq]) | (at_builtin; refine wpList_append_own _ rfl _ _ 52 rfl _ 2 i0 (.int .i64 0) 1 8 Tryd.underlying52 hi hz0 hz1 hz2 rfl (by decide) _ _ _ rfl (HO3.out.alloc _) ⟨w2.heap.size, 0, none⟩ 1 1 [.int .i64 (numV (numF t))] rfl rfl (own_new1 _ _ _) ?c2 ?c3 ?c4 ?c5 ?_))
              case c2 => (first | rfl | (intro u hu; simp at hu; subst hu; rfl))
              case c3 => unfold maxLen; first | omega | (simp; omega)
              case c4 => first | omega | (simp; omega)
              case c5 => first | omega | (simp; omega)
              · intro v' w5 hown' hgrow hnil
                have hne' : v' ≠ .slice none 0 0 := fun e => by simp [e] at hnil
                have HX5 := Lib.hid (below_grown (HL2.out.alloc hsz2 _) (by simp; omega) hgrow fun q hq => HO2.out.lt q hq)
                have HY := Lib.hid (show OwnI w.heap.size w5 v' (((splitL 44 l).take (k + 1)).map valT) by
                  rw [← HE.out, HV.out]
                  exact OwnI.snoc (by rw [HLT.out]; simpa using hown') hne')
                have HS5 := Lib.hid (show w5.heap[w.heap.size + 1]? = some (.cells (strCells (splitL 44 l)).toArray 9) from
                  (hgrow.block (w.heap.size + 1) (by simp; omega) (fun e => HAP.out _ e.symm rfl)).trans (by rw [Below.heap_alloc _ _ _ (by omega)]; exact HS2.out))
                clear hown' hgrow hnil hne'
                go_wp2_with fail
                exact ⟨⟨k + 1, hlt, by omega, by simp, HOK.out, HY.out, HX5.out, HS5.out⟩, by simp only [intOf]; omega⟩
      · have hkl : k = (splitL 44 l).length := by omega
        subst hkl
        have HTK := Lib.hid (show (splitL 44 l).take (splitL 44 l).length = splitL 44 l from List.take_of_length_le (Nat.le_refl _))
        have HF := Lib.hid (read_good HD.out hk64 HA.out)
        rw [HTK.out] at HO
        go_wp2
        go_returns
        exact ⟨_, by rw [HF.out]; rfl, by rw [HF.out]; exact HO.out.got, HL.out⟩
end Go.Proofs.YtpklckpnhjhnhaaDoor
