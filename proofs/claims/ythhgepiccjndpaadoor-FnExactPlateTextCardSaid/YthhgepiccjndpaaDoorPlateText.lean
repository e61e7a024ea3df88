/- The text of a plate: its rows' texts. -/
import Derived.Test.YthhgepiccjndpaaDoorLists
import Derived.Test.YthhgepiccjndpaaDoorPlate
namespace Go.Proofs.YthhgepiccjndpaaDoor
open Go.RowKit Go.ChangeShapes Go.WideShapes
set_option linter.unusedVariables false

/-- The texts of a grid's rows. -/
def rowTs (g : List (List Int)) : List (List UInt8) := g.map listT
theorem rowTs_len (g : List (List Int)) : (rowTs g).length = g.length := by simp [rowTs]
theorem rowTs_nth {g : List (List Int)} {j : Nat} (h : j < g.length) : nthT (rowTs g) j = listT (nthL g j) := by simp [nthT, rowTs, nthL, h]
theorem rowTs_take {g : List (List Int)} {k : Nat} (h : k < g.length) : (rowTs g).take k ++ [listT (nthL g k)] = (rowTs g).take (k + 1) := by
  rw [List.take_add_one, List.getElem?_eq_getElem (by rw [rowTs_len]; exact h)]
  simp [rowTs, nthL, h]
theorem listT_len {xs : List Int} (hn : xs.length ≤ 64) (hx : NumOk xs) : (listT xs).length ≤ 1024 := by
  unfold listT
  split
  · simp
  · have := jt_len (sep := 44) hx.len xs.length (by rw [numTs_len]; omega)
    omega
theorem GridOk.num {hi : Int} {g : List (List Int)} (hhi : hi ≤ 1000000000000) (ok : GridOk 1 hi g) {k : Nat} (hk : k < g.length) : NumOk (nthL g k) := fun j hj => by
  have := ok.range k hk j hj
  omega
theorem GridOk.rlen {lo hi : Int} {g : List (List Int)} (ok : GridOk lo hi g) {k : Nat} (hk : k < g.length) : (nthL g k).length ≤ 10 := by
  have := ok.same k hk
  have := ok.cols
  omega
theorem rowTs_bd {g : List (List Int)} (ok : GridOk 1 200 g) : ∀ j, j < (rowTs g).length → (nthT (rowTs g) j).length ≤ 1024 := fun j hj => by
  rw [rowTs_len] at hj
  rw [rowTs_nth hj]
  exact listT_len (by have := ok.rlen hj; omega) (ok.num (by omega) hj)

set_option maxRecDepth 100000 in
theorem l08Text_c (a : Option Addr) (cap : Nat) (g : List (List Int)) (w : World) (h : Grid w a g) (ok : GridOk 1 200 g) :
    Calls Tryd.prog 60 #[.slice a g.length cap] w fun e w' => e = .returned (.string ⟨(jt 47 (rowTs g) g.length).toArray⟩) ∧ Below w.heap.size w w' := by
  have hn := ok.rows
  have HR := Lib.hid ok
  have HT := Lib.hid (jt_len (sep := 47) (rowTs_bd ok))
  clear ok
  go_enter Tryd.func60, Tryd.ntmps60
  go_wp2
  go_loopw [3, 4] (fun s i wr => ∃ k : Nat, k ≤ g.length ∧ i = .int .i64 k ∧ s = .string ⟨(jt 47 (rowTs g) k).toArray⟩ ∧ Below w.heap.size w wr) (fun _ i _ => g.length - (intOf i).toNat)
  case atStart => exact ⟨0, Nat.zero_le _, rfl, by rw [jt_zero], Below.refl _ _⟩
  case round =>
    obtain ⟨k, hk, rfl, rfl, hbl⟩ := hrel
    have HL := Lib.hid hbl
    by_cases hlt : k < g.length
    · obtain ⟨b, o, rfl, hb, ar, cr, hc, hnu⟩ := (h.below hbl).pos hlt
      have HNU := Lib.hid hnu
      have HRL := Lib.hid (show (nthL g k).length ≤ 64 by have := HR.out.rlen hlt; omega)
      have HNO := Lib.hid (HR.out.num (by omega) hlt)
      have HLV := Lib.hid (listT_len HRL.out HNO.out)
      have HV := Lib.hid (rowTs_nth hlt)
      have hsz := HL.out.size
      clear hbl hnu
      by_cases hk0 : k = 0
      · have d : decide (0 < k) = false := decide_eq_false (by omega)
        have HJ := Lib.hid (show jt 47 (rowTs g) (k + 1) = listT (nthL g k) by rw [hk0, jt_one (by rw [rowTs_len]; omega), ← hk0, HV.out])
        have HZ := Lib.hid (show jt 47 (rowTs g) k = [] by rw [hk0, jt_zero])
        rw [HZ.out]
        clear hk0
        go_wp2_with (go_at_call 79; refine call_below (l01List_c _ _ _ _ HNU.out HRL.out HNO.out) fun w1 hb1 => ?_; refine Hid.out ?_)
        refine Lib.hid ?_
        have hlv := HLV.out
        generalize listT (nthL g k) = z at hlv HJ ⊢
        go_wp2_with fail
        refine ⟨⟨k + 1, hlt, by simp, ?_, below_next HL.out hb1⟩, by simp only [intOf]; omega⟩
        rw [HJ.out]
        exact congrArg Value.string (ByteArray.mk_append_mk [] z)
      · have d : decide (0 < k) = true := decide_eq_true (by omega)
        have HJ := Lib.hid (show jt 47 (rowTs g) (k + 1) = jt 47 (rowTs g) k ++ [47] ++ listT (nthL g k) by rw [jt_succ hk0 (by rw [rowTs_len]; omega), HV.out])
        have hjl : (jt 47 (rowTs g) k).length ≤ 20000 := by have := HT.out k (by rw [rowTs_len]; omega); omega
        clear hk0
        generalize jt 47 (rowTs g) k = t at hjl HJ ⊢
        go_wp2_with (go_at_call 79; refine call_below (l01List_c _ _ _ _ HNU.out HRL.out HNO.out) fun w1 hb1 => ?_; refine Hid.out ?_)
        refine Lib.hid ?_
        have hlv := HLV.out
        generalize listT (nthL g k) = z at hlv HJ ⊢
        go_wp2_with fail
        refine ⟨⟨k + 1, hlt, by simp, ?_, below_next HL.out hb1⟩, by simp only [intOf]; omega⟩
        rw [HJ.out]
        exact congrArg Value.string ((congrArg (· ++ _) (ByteArray.mk_append_mk t [47])).trans (ByteArray.mk_append_mk _ z))
    · have hkl : k = g.length := by omega
      subst hkl
      go_wp2
      go_ret
      exact ⟨rfl, HL.out⟩

/-- What is written of a plate: nothing where it is not valid. -/
def plateT (g : List (List Int)) : List UInt8 := if gridB 1 200 g then jt 47 (rowTs g) g.length else []

theorem sPlateText_c (a : Option Addr) (cap : Nat) (g : List (List Int)) (w : World) (h : Grid w a g) (hs : Small g) :
    Calls Tryd.prog 30 #[.slice a g.length cap] w fun e w' => e = .returned (.string ⟨(plateT g).toArray⟩) ∧ Below w.heap.size w w' := by
  have hn := hs.len
  have HH := Lib.hid h
  clear h
  cases hv : gridB 1 200 g
  · have HF := Lib.hid (show plateT g = [] by unfold plateT; rw [hv]; rfl)
    go_enter Tryd.func30, Tryd.ntmps30
    go_wp2_with fail
    refine call_below (l08Ok_c _ _ g _ HH.out hs) ?_
    intro w1 hb1
    rw [hv]
    go_wp2
    go_ret
    exact ⟨by rw [HF.out]; rfl, hb1⟩
  · have HF := Lib.hid (show plateT g = jt 47 (rowTs g) g.length by unfold plateT; rw [hv]; rfl)
    have HOK := Lib.hid (gridB_true hv)
    go_enter Tryd.func30, Tryd.ntmps30
    go_wp2_with fail
    refine call_below (l08Ok_c _ _ g _ HH.out hs) ?_
    intro w1 hb1
    rw [hv]
    have H1 := Lib.hid (HH.out.below hb1)
    go_wp2_with (go_at_call 60; refine call_below (l08Text_c _ _ g _ H1.out HOK.out) ?_; intro w2 hb2)
    go_ret
    exact ⟨by rw [HF.out]; rfl, below_next hb1 hb2⟩

set_option maxRecDepth 100000 in
theorem plateText_c (a : Option Addr) (cap : Nat) (g : List (List Int)) (w : World) (h : Grid w a g) (hs : Small g) (htab : Lib.TabIs Tryd.prog w "internal/strconv.uint64pow10" .u64 Lib.pow10Tab) :
    Calls Tryd.prog 32 #[.slice a g.length cap] w fun e w' => e = .returned (.string ⟨(plateT g).toArray⟩) ∧ Below w.heap.size w w' := by
  have hn := hs.len
  have HH := Lib.hid h
  have HTB := Lib.hid (Lib.tabBelow_of_tabIs htab)
  clear htab
  cases hv : gridB 1 200 g
  · have HF := Lib.hid (show plateT g = [] by unfold plateT; rw [hv]; rfl)
    go_enter Tryd.func32, Tryd.ntmps32
    go_wp2_with fail
    refine call_same (validPlate_c _ _ g _ HH.out hs) ?_
    rw [hv]
    go_wp2
    go_ret
    exact ⟨by rw [HF.out]; rfl, Below.refl _ _⟩
  · have HF := Lib.hid (show plateT g = jt 47 (rowTs g) g.length by unfold plateT; rw [hv]; rfl)
    obtain ⟨i0, hi, hz0, hz1, hz2⟩ := info_parts infoStr
    have HR := Lib.hid (gridB_true hv)
    have HBD := Lib.hid (rowTs_bd HR.out)
    have hg10 := HR.out.rows
    go_enter Tryd.func32, Tryd.ntmps32
    go_wp2_with fail
    refine call_same (validPlate_c _ _ g _ HH.out hs) ?_
    rw [hv]
    go_wp2
    clear hv
    go_loopw [3, 12] (fun v i wr => ∃ k : Nat, k ≤ g.length ∧ i = .int .i64 k ∧ OwnS w.heap.size wr v ((rowTs g).take k) ∧ Below w.heap.size w wr) (fun _ i _ => g.length - (intOf i).toNat)
    case atStart => exact ⟨0, Nat.zero_le _, rfl, ⟨World.ownsRow_made w #[] 0 (Nat.le_refl _) (Nat.zero_le _) rfl, by simp⟩, (Below.refl _ _).alloc (Nat.le_refl _) _⟩
    case round =>
      obtain ⟨k, hk, rfl, hown, hbl⟩ := hrel
      have HL := Lib.hid hbl
      have HO := Lib.hid hown
      by_cases hlt : k < g.length
      · obtain ⟨b, o, rfl, hb, ar, cr, hc, hnu⟩ := (h.below hbl).pos hlt
        have HNU := Lib.hid hnu
        have HRL := Lib.hid (show (nthL g k).length ≤ 64 by have := HR.out.rlen hlt; omega)
        have HNO := Lib.hid (HR.out.num (by omega) hlt)
        have HE := Lib.hid (rowTs_take hlt)
        have HTL := Lib.hid (show ((rowTs g).take k).length = k by rw [List.length_take, rowTs_len]; omega)
        have HTW := Lib.hid (HTB.out.on HL.out).here
        clear hbl hown hnu h
        go_wp2_with (go_at_call 47; refine call_below (listText_c _ _ _ _ HNU.out HRL.out HNO.out HTW.out) fun w1 hb1 => ?_; refine Hid.out ?_)
        refine Lib.hid ?_
        have HB1 := Lib.hid (below_next HL.out hb1)
        have HO1 := Lib.hid (HO.out.below hb1)
        have hsz1 := HB1.out.size
        clear hb1
        generalize listT (nthL g k) = z at HE ⊢
        go_wp2_with (at_builtin; refine wpList_append_own _ rfl _ _ 79 rfl w.heap.size 9 i0 (.string ⟨#[]⟩) 1 16 Tryd.underlying79 hi hz0 hz1 hz2 rfl (by decide) _ _ _ rfl (HO1.out.1.alloc _) ⟨w1.heap.size, 0, none⟩ 1 1 [.string ⟨z.toArray⟩] rfl rfl (own_new1 _ _ _) ?c2 ?c3 ?c4 ?c5 ?_)
        case c2 => (first | rfl | (intro u hu; simp at hu; subst hu; rfl))
        case c3 => have := HTL.out; unfold maxLen; first | omega | (simp; omega)
        case c4 => have := HTL.out; first | omega | (simp; omega)
        case c5 => first | omega | (simp; omega)
        · intro v' w5 hown' hgrow hnil
          have hne' : v' ≠ .slice none 0 0 := fun e => by simp [e] at hnil
          have HX5 := Lib.hid (below_grown (HB1.out.alloc hsz1 _) (by simp; omega) hgrow fun q hq => HO1.out.lt q hq)
          have HY := Lib.hid (OwnS.snoc (ts := (rowTs g).take k) (v := v') (t := z) (by rw [List.length_take]; exact hown') hne')
          clear hown' hgrow hnil hne'
          go_wp2_with fail
          rw [HE.out] at HY
          exact ⟨⟨k + 1, hlt, by simp, HY.out, HX5.out⟩, by simp only [intOf]; omega⟩
      · have hkl : k = g.length := by omega
        subst hkl
        have HTK := Lib.hid (show (rowTs g).take g.length = rowTs g by rw [List.take_of_length_le (by rw [rowTs_len]; omega)])
        rw [HTK.out] at HO
        go_wp2_with (go_at_call 63; refine call_below (join_c 47 HO.out (by rw [rowTs_len]; omega) (fun j hj => by have := HBD.out j hj; omega)) fun w1 hb1 => ?_; refine Hid.out ?_)
        refine Lib.hid ?_
        go_wp2
        go_ret
        exact ⟨by rw [HF.out, rowTs_len]; rfl, below_next HL.out hb1⟩
end Go.Proofs.YthhgepiccjndpaaDoor
