/- The arches that the reference draws: grids in memory of their own whose heights lie in the range. -/
import Derived.Test.YtlenihncfhemkaaDrawPlate2
import Derived.Test.YtlenihncfhemkaaGridF
import Derived.Test.YtlenihncfhemkaaPlate
namespace Go.Proofs.Ytlenihncfhemkaa
open Go.RowKit Go.ChangeShapes Go.WideShapes
set_option linter.unusedVariables false

theorem pickA_c (b : Nat) (a : Option Addr) (cap : Nat) (z : List Int) (m n : Int) (w : World) (h : Src b w a cap z n) (h0 : 0 ≤ n) (h1 : n ≤ 1000000000000) (hm0 : 1 ≤ m) (hm1 : m ≤ 200) :
    Calls Try.prog 37 #[.pointer (some ⟨b, 0, none⟩), .int .i64 m] w fun e w' => ∃ (x : Int) (k : Int), e = .returned (.int .i64 x) ∧ (0 ≤ x ∧ x < m) ∧ (n ≤ k ∧ k ≤ n + 2) ∧ Src b w' a cap z k ∧ Only b w w' := by
  rcases Int.lt_or_eq_of_le hm0 with hm | rfl
  · exact pick_c b a cap z m n w h h0 h1 (by omega) hm1
  · have HS := Lib.hid h
    clear h
    go_enter Try.func37, Try.ntmps37
    go_wp2
    go_ret
    exact ⟨0, n, rfl, by omega, by omega, HS.out, Only.refl _ _⟩
theorem l00MinA_c (a b : Int) (w : World) : Calls Try.prog 38 #[.int .i64 a, .int .i64 b] w fun e w' => e = .returned (.int .i64 (min a b)) ∧ w = w' := by
  by_cases h : a < b
  all_goals
    go_enter Try.func38, Try.ntmps38
    go_wp2
    go_ret
    exact ⟨by simp; omega, rfl⟩
theorem GridF.wideA {B C C' : Nat} {w : World} {b : Nat} {r c : Nat → Nat} {g : List (List Int)} {f : Nat → Nat → Int} (h : GridF B C w b r c g f) (hC : C ≤ C') : GridF B C' w b r c g f :=
  ⟨⟨h.1.1, by have := h.1.2; omega⟩, fun j hj => ⟨(h.2.1 j hj).1, by have := (h.2.1 j hj).2.1; omega, (h.2.1 j hj).2.2⟩, h.2.2⟩
theorem GridF.only {B C b0 : Nat} {w w' : World} {b : Nat} {r c : Nat → Nat} {g : List (List Int)} {f : Nat → Nat → Int} (h : GridF B C w b r c g f) (hC : C ≤ w.heap.size) (ho : Only b0 w w') (hb : b0 < B) : GridF B C w' b r c g f :=
  ⟨h.1, fun j hj => ⟨(World.cell?_of_block (w := w) (ho.block b (by have := h.1; omega) (by have := h.1; omega))).trans (h.2.1 j hj).1, (h.2.1 j hj).2.1, (h.2.1 j hj).2.2.of_block (ho.block _ (by have := (h.2.1 j hj).2.1; omega) (by have := (h.2.1 j hj).2.1; omega))⟩, h.2.2⟩
theorem keepD' {b ob r0 i j n0 c0 : Nat} {x0 : Int} {w w' : World} (h : (w.cell? ⟨ob, i, none⟩ = some (.slice (some ⟨r0, 0, none⟩) n0 c0) ∧ w.cell? ⟨r0, j, none⟩ = some (.int .i64 x0) ∧ w.frozen? ⟨r0, j, none⟩ = false) ∧ ob ≠ b ∧ r0 ≠ b) (ho : Only b w w') :
    w'.cell? ⟨ob, i, none⟩ = some (.slice (some ⟨r0, 0, none⟩) n0 c0) ∧ w'.cell? ⟨r0, j, none⟩ = some (.int .i64 x0) ∧ w'.frozen? ⟨r0, j, none⟩ = false ∧ Only b w w' := by
  obtain ⟨⟨h1, h2, h3⟩, h4, h5⟩ := h
  exact ⟨(ho.cell (p := ⟨ob, i, none⟩) (World.block_lt_of_cell? _ _ h1) h4).trans h1, (ho.cell (p := ⟨r0, j, none⟩) (World.block_lt_of_cell? _ _ h2) h5).trans h2, (ho.frozen (p := ⟨r0, j, none⟩) (World.block_lt_of_cell? _ _ h2) h5).trans h3, ho⟩
/-- Numbers that are heights. -/
def Rise (zs : List Int) : Prop := ∀ j, j < zs.length → 0 ≤ nth zs j ∧ nth zs j ≤ 1000
def RiseG (g : List (List Int)) : Prop := ∀ j, j < g.length → Rise (nthL g j)
theorem Rise.nil : Rise [] := fun j hj => absurd hj (Nat.not_lt_zero _)
theorem RiseG.nil : RiseG [] := fun j hj => absurd hj (Nat.not_lt_zero _)
theorem Rise.snoc {zs : List Int} (h : Rise zs) {x : Int} (hx : 0 ≤ x ∧ x ≤ 1000) : Rise (zs ++ [x]) := fun j hj => by
  simp only [List.length_append, List.length_singleton] at hj
  by_cases h1 : j < zs.length
  · have := h j h1
    simpa [nth, List.getD_eq_getElem?_getD, List.getElem?_append_left h1] using this
  · obtain rfl : j = zs.length := by omega
    simpa [nth, List.getD_eq_getElem?_getD] using hx
theorem RiseG.snoc {g : List (List Int)} (h : RiseG g) {zs : List Int} (hx : Rise zs) : RiseG (g ++ [zs]) := fun j hj => by
  simp only [List.length_append, List.length_singleton] at hj
  by_cases h1 : j < g.length
  · rw [nthL_left h1]; exact h j h1
  · obtain rfl : j = g.length := by omega
    rw [nthL_last]; exact hx
/-- Heights place by place. -/
def RiseF (f : Nat → Nat → Int) (g : List (List Int)) : Prop := ∀ j, j < g.length → ∀ k, k < (nthL g j).length → 0 ≤ f j k ∧ f j k ≤ 1000
theorem RiseF.set {f : Nat → Nat → Int} {g : List (List Int)} (h : RiseF f g) {i k : Nat} {u : Int} (hu : 0 ≤ u ∧ u ≤ 1000) : RiseF (fun x y => if x = i ∧ y = k then u else f x y) g := fun j hj q hq => by
  by_cases e : j = i ∧ q = k
  · simpa [e] using hu
  · simpa [e] using h j hj q hq
theorem rise_gridB {g : List (List Int)} {R K : Nat} {f : Nat → Nat → Int} (hl : g.length = R) (hR : 1 ≤ R ∧ R ≤ 10) (hK : 1 ≤ K ∧ K ≤ 10) (he : Even g K) (h : RiseF f g) :
    (gridG (fun p => f p.1 p.2) (lenG g) g.length).length = R ∧ Small (gridG (fun p => f p.1 p.2) (lenG g) g.length) ∧ gridB 0 1000 (gridG (fun p => f p.1 p.2) (lenG g) g.length) = true := by
  have hn : ∀ i, i < g.length → lenG g i = K := fun i hi => he i hi
  refine ⟨by rw [gridG_len, hl], gridG_small (by omega) fun i hi => by rw [hn i hi]; omega, gridB_rows (by rw [gridG_len, hl]; exact decide_eq_true ⟨by omega, by omega⟩) fun j hj => ?_⟩
  rw [gridG_len] at hj
  have e1 : nthL (gridG (fun p => f p.1 p.2) (lenG g) g.length) j = rowG (fun p => f p.1 p.2) j K := by rw [gridG_nth hj, hn j hj]
  have e0 : nthL (gridG (fun p => f p.1 p.2) (lenG g) g.length) 0 = rowG (fun p => f p.1 p.2) 0 K := by rw [gridG_nth (by omega), hn 0 (by omega)]
  refine ⟨by rw [e1, rowG_len]; omega, by rw [e1, e0, rowG_len, rowG_len], ?_⟩
  rw [e1, List.all_eq_true]
  intro x hx
  obtain ⟨k, hk, rfl⟩ := List.getElem_of_mem hx
  rw [rowG_len] at hk
  have h1 := h j hj k (by rw [he j hj]; exact hk)
  have h2 : (rowG (fun p => f p.1 p.2) j K)[k]'(by rw [rowG_len]; exact hk) = f j k := by simp [rowG]
  rw [h2]
  exact decide_eq_true ⟨by omega, by omega⟩

set_option maxRecDepth 100000 in
set_option maxHeartbeats 1000000 in
theorem drawArch_c (b : Nat) (a : Option Addr) (cap : Nat) (z : List Int) (n : Int) (w : World) (h : Src b w a cap z n) (h0 : 0 ≤ n) (h1 : n ≤ 100000000000) :
    Calls Try.prog 20 #[.pointer (some ⟨b, 0, none⟩)] w fun e w' => ∃ (v : Option Addr) (cp : Nat) (g : List (List Int)) (k : Int), e = .returned (.slice v g.length cp) ∧ GridA w.heap.size w'.heap.size w' v g ∧ Small g ∧ gridB 0 1000 g = true ∧ Src b w' a cap z k ∧ Only b w w' := by
  have HS := Lib.hid h
  have hbl := h.lt
  clear h
  obtain ⟨i0, hi, hz0, hz1, hz2⟩ := info_parts infoI'
  obtain ⟨j0, hj, hy0, hy1, hy2⟩ := info_parts infoS
  go_enter Try.func20, Try.ntmps20
  go_wp2_with fail
  refine (pick_c b a cap z 6 n _ HS.out h0 (by omega) (by omega) (by omega)).mono ?_
  rintro e w1 ⟨xr, k1, rfl, hxr, hk1, hs1, ho1⟩
  have HS1 := Lib.hid hs1
  have HO1 := Lib.hid ho1
  clear hs1 ho1
  go_wp2_with fail
  refine (pick_c b a cap z 6 k1 _ HS1.out (by omega) (by omega) (by omega) (by omega)).mono ?_
  rintro e w2 ⟨xc, k2, rfl, hxc, hk2, hs2, ho2⟩
  have HS2 := Lib.hid hs2
  have HO2 := Lib.hid (HO1.out.trans ho2)
  clear hs2 ho2 HS1 HO1
  obtain ⟨R, hR⟩ : ∃ R : Nat, 1 + xr = R := ⟨(1 + xr).toNat, by omega⟩
  obtain ⟨K, hK⟩ : ∃ K : Nat, 1 + xc = K := ⟨(1 + xc).toNat, by omega⟩
  have hR1 : 1 ≤ R ∧ R ≤ 6 := by omega
  have hK1 : 1 ≤ K ∧ K ≤ 6 := by omega
  have hk2b : n ≤ k2 ∧ k2 ≤ n + 4 := by omega
  clear hxr hxc hk1 hk2
  have HA0 := Lib.hid (show Only b w (w2.alloc (.cells #[] 26)) from HO2.out.alloc _)
  have HSA := Lib.hid (HS2.out.alloc (.cells #[] 26))
  have hz2w := HO2.out.size
  have HG0 := Lib.hid (show OwnG w.heap.size (w2.alloc (.cells #[] 26)).heap.size (w2.alloc (.cells #[] 26)) (.slice (some ⟨w2.heap.size, 0, none⟩) 0 0) [] from OwnG.start (World.ownsRow_made w2 #[] 0 hz2w (Nat.zero_le _) rfl) (by simp) (Nat.le_refl _))
  go_wp2
  clear hR hK
  go_loopw [5, 6] (fun v i wr => ∃ (g : List (List Int)), g.length ≤ R ∧ i = .int .i64 g.length ∧ Even g K ∧ RiseG g ∧ OwnG w.heap.size wr.heap.size wr v g ∧ Src b wr a cap z k2 ∧ Only b w wr) (fun _ i _ => R - (intOf i).toNat)
  case atStart => exact ⟨[], by simp, rfl, Even.nil K, RiseG.nil, HG0.out, HSA.out, HA0.out⟩
  case round =>
    clear HG0 HSA HA0 HS2 HO2
    obtain ⟨g, hgl, rfl, hev, hri, hown, hsrc, honly⟩ := hrel
    have HE := Lib.hid hev
    have HRI := Lib.hid hri
    have HG := Lib.hid hown
    have HSR := Lib.hid hsrc
    have HOL := Lib.hid honly
    have hszr := honly.size
    clear hev hri hown hsrc honly
    by_cases hlt : g.length < R
    · obtain ⟨Bo, hBo⟩ : ∃ Bo, Bo = wr.heap.size := ⟨_, rfl⟩
      have HBo := Lib.hid hBo
      have HR0 := Lib.hid (show OwnI Bo (wr.alloc (.cells #[] 2)) (.slice (some ⟨wr.heap.size, 0, none⟩) 0 0) [] from ⟨World.ownsRow_made wr #[] 0 (by omega) (Nat.zero_le _) rfl, by simp⟩)
      have HS0 := Lib.hid (HSR.out.alloc (.cells #[] 2))
      have HL0 := Lib.hid ((Only.refl b wr).alloc (.cells #[] 2))
      have hBob : b < Bo := by have := HSR.out.lt; omega
      have hBow : w.heap.size ≤ Bo := by omega
      clear hBo
      go_wp2
      go_loopw [7, 8] (fun v2 i2 wi => ∃ (zs : List Int), zs.length ≤ K ∧ i2 = .int .i64 zs.length ∧ Rise zs ∧ OwnI Bo wi v2 zs ∧ Src b wi a cap z k2 ∧ Only b wr wi) (fun _ i _ => K - (intOf i).toNat)
      case atStart => exact ⟨[], by simp, rfl, Rise.nil, HR0.out, HS0.out, HL0.out⟩
      case round =>
        clear HR0 HS0 HL0
        obtain ⟨zs, hzl, rfl, hrs, hrow, hsrc2, honly2⟩ := hrel
        have HRS := Lib.hid hrs
        have HR2 := Lib.hid hrow
        have HS2 := Lib.hid hsrc2
        have HL2 := Lib.hid honly2
        clear hrs hrow hsrc2 honly2
        have HB3 := Lib.hid (show Bo ≤ wr.heap.size by have := HBo.out; have := HL2.out.size; omega)
        by_cases hzt : zs.length < K
        · have hv1 : 0 ≤ min (g.length : Int) (min ((R : Int) - 1 - (g.length : Int)) (min (zs.length : Int) ((K : Int) - 1 - (zs.length : Int)))) ∧ min (g.length : Int) (min ((R : Int) - 1 - (g.length : Int)) (min (zs.length : Int) ((K : Int) - 1 - (zs.length : Int)))) ≤ 6 := by omega
          have hxb : 0 ≤ (40 + 60 * min (g.length : Int) (min ((R : Int) - 1 - (g.length : Int)) (min (zs.length : Int) ((K : Int) - 1 - (zs.length : Int))))) ∧ (40 + 60 * min (g.length : Int) (min ((R : Int) - 1 - (g.length : Int)) (min (zs.length : Int) ((K : Int) - 1 - (zs.length : Int))))) ≤ 1000 := by omega
          clear hv1
          go_wp2_with (first | (go_at_call 38; refine call_same (l00MinA_c _ _ _) ?_) | (at_builtin; refine wpList_append_own _ rfl _ _ 26 rfl Bo 2 i0 (.int .i64 0) 1 8 Try.underlying26 hi hz0 hz1 hz2 rfl (by decide) _ _ _ rfl (HR2.out.1.alloc _) ⟨wr.heap.size, 0, none⟩ 1 1 [.int .i64 (40 + 60 * min (g.length : Int) (min ((R : Int) - 1 - (g.length : Int)) (min (zs.length : Int) ((K : Int) - 1 - (zs.length : Int)))))] rfl rfl (own_new1 _ _ _) ?c2 ?c3 ?c4 ?c5 ?_))
          case c2 => (first | rfl | (intro u hu; simp at hu; subst hu; rfl))
          case c3 => unfold maxLen; omega
          case c4 => omega
          case c5 => have := HB3.out; simp; omega
          · intro v' w5 hown' hgrow hnil
            have hne' : v' ≠ .slice none 0 0 := fun e => by simp [e] at hnil
            have HO5 := Lib.hid (only_grown (HL2.out.alloc (.cells #[.int .i64 (40 + 60 * min (g.length : Int) (min ((R : Int) - 1 - (g.length : Int)) (min (zs.length : Int) ((K : Int) - 1 - (zs.length : Int)))))] 2)) hgrow fun q hq => by have := HR2.out.lt q hq; have := HBo.out; omega)
            have HS5 := Lib.hid (HSR.out.grown (HS2.out.alloc (.cells #[.int .i64 (40 + 60 * min (g.length : Int) (min ((R : Int) - 1 - (g.length : Int)) (min (zs.length : Int) ((K : Int) - 1 - (zs.length : Int)))))] 2)) hgrow (fun e => by have := HR2.out.lt b e; omega) HO5.out)
            have HY := Lib.hid (show OwnI Bo w5 v' (zs ++ [(40 + 60 * min (g.length : Int) (min ((R : Int) - 1 - (g.length : Int)) (min (zs.length : Int) ((K : Int) - 1 - (zs.length : Int)))))]) from OwnI.snoc hown' hne')
            have HLN := Lib.hid (show (zs ++ [(40 + 60 * min (g.length : Int) (min ((R : Int) - 1 - (g.length : Int)) (min (zs.length : Int) ((K : Int) - 1 - (zs.length : Int)))))]).length = zs.length + 1 by simp)
            have HRN := Lib.hid (HRS.out.snoc hxb)
            clear hown' hgrow hnil hne'
            go_wp2_with fail
            exact ⟨⟨zs ++ [(40 + 60 * min (g.length : Int) (min ((R : Int) - 1 - (g.length : Int)) (min (zs.length : Int) ((K : Int) - 1 - (zs.length : Int)))))], by rw [HLN.out]; omega, by rw [HLN.out]; go_num, HRN.out, HY.out, HS5.out, HO5.out⟩, by simp only [intOf]; omega⟩
        · have hzk : zs.length = K := by omega
          obtain ⟨br, cr, rfl, hbr1, hbr2, -⟩ := HR2.out.form
          have HRC := Lib.hid (own_rowC HR2.out)
          have HG2 := Lib.hid (HG.out.only (Nat.le_refl _) HL2.out (by omega))
          obtain ⟨r, c, hown, hnn, hrows, hdist, hv⟩ := HG2.out
          have HOW := Lib.hid hown
          have HV := Lib.hid (And.intro hrows (And.intro hdist hv))
          have HEV := Lib.hid (HE.out.snoc (row := zs) hzk)
          have HRV := Lib.hid (HRI.out.snoc HRS.out)
          have HOA := Lib.hid (HOL.out.trans HL2.out)
          have hszi := HOA.out.size
          have HWW := Lib.hid HBo.out
          have HLG := Lib.hid (show (g ++ [zs]).length = g.length + 1 by simp)
          clear hown hnn hrows hdist hv hzk
          go_wp2_with (at_builtin; refine wpList_append_own _ rfl _ _ 24 rfl w.heap.size 26 j0 (.slice none 0 0) 1 24 Try.underlying24 hj hy0 hy1 hy2 rfl (by decide) _ _ _ rfl (HOW.out.alloc _) ⟨wr.heap.size, 0, none⟩ 1 1 [.slice (some ⟨br, 0, none⟩) zs.length cr] rfl rfl (own_new1 _ _ _) ?d2 ?d3 ?d4 ?d5 ?_)
          case d2 => (first | rfl | (intro u hu; simp at hu; subst hu; rfl))
          case d3 => unfold maxLen; omega
          case d4 => omega
          case d5 => simp; omega
          · intro v' w5 hown' hgrow hnil
            have HO5 := Lib.hid (only_grown (HOA.out.alloc (.cells #[.slice (some ⟨br, 0, none⟩) zs.length cr] 26)) hgrow fun q hq => HG2.out.lt q hq)
            have HS5 := Lib.hid (HS.out.grown (HS2.out.alloc (.cells #[.slice (some ⟨br, 0, none⟩) zs.length cr] 26)) hgrow (fun e => by have := HG2.out.lt b e; omega) HO5.out)
            have HY := Lib.hid (show OwnG w.heap.size w5.heap.size w5 v' (g ++ [zs]) from
              own_push HOW.out HV.out.1 HV.out.2.1 HV.out.2.2 (by have := HWW.out; omega) (by omega) hbr2 (by omega) HRC.out hown' hgrow hnil)
            clear hown' hgrow hnil
            go_wp2_with fail
            exact ⟨⟨g ++ [zs], by rw [HLG.out]; omega, by rw [HLG.out]; go_num, HEV.out, HRV.out, HY.out, HS5.out, HO5.out⟩, by simp only [intOf]; omega⟩
    · have hgr : g.length = R := by omega
      have hl0 := HE.out
      obtain ⟨va, cp, hve, hga⟩ := HG.out.gridA
      subst hve
      obtain ⟨ob, r, c, rfl, hgf⟩ := hga.gridF (by omega)
      have HGF := Lib.hid hgf
      have HGR := Lib.hid (show RiseF (fun j => nth (nthL g j)) g from fun j hj k hk => HRI.out j hj k hk)
      have HWF := Lib.hid hszr
      clear hga hgf hl0
      go_wp2_with fail
      refine (pick_c b a cap z 4 k2 _ HSR.out (by omega) (by omega) (by omega) (by omega)).mono ?_
      rintro e w3 ⟨x, k3, rfl, hx, hk3, hs3, ho3⟩
      have HS3 := Lib.hid hs3
      have HO3 := Lib.hid (HOL.out.trans ho3)
      have HG3 := Lib.hid ((HGF.out.only (Nat.le_refl _) ho3 (by omega)).wideA ho3.size)
      clear hs3 ho3
      go_wp2
      go_loopw [10] (fun i wr => ∃ (y k : Int) (f : Nat → Nat → Int), (0 ≤ y ∧ y ≤ 3) ∧ i = .int .i64 y ∧ (n ≤ k ∧ k ≤ n + 100 - 10 * y) ∧ RiseF f g ∧ GridF w.heap.size wr.heap.size wr ob r c g f ∧ Src b wr a cap z k ∧ Only b w wr) (fun i _ => (intOf i).toNat)
      case atStart => exact ⟨x, k3, _, by omega, rfl, by omega, HGR.out, HG3.out, HS3.out, HO3.out⟩
      case round =>
        clear HG3 HS3 HO3 HGR HGF HSR HOL HG
        obtain ⟨y, k, f, hy, rfl, hk, hri, hgf, hsrc, honly⟩ := hrel
        have HR4 := Lib.hid hri
        have HG4 := Lib.hid hgf
        have HS4 := Lib.hid hsrc
        have HO4 := Lib.hid honly
        have hsz4 := honly.size
        clear hri hgf hsrc honly
        by_cases hyt : 0 < y
        · go_wp2_with fail
          refine (pickA_c b a cap z R k _ HS4.out (by omega) (by omega) (by omega) (by omega)).mono ?_
          rintro e w4 ⟨xi, k5, rfl, hxi, hk5, hs5, ho5⟩
          have HS5 := Lib.hid hs5
          have HO5 := Lib.hid (HO4.out.trans ho5)
          have HG5 := Lib.hid ((HG4.out.only (Nat.le_refl _) ho5 (by omega)).wideA ho5.size)
          clear hs5 ho5 HS4 HO4 HG4
          go_wp2_with fail
          refine (pickA_c b a cap z K k5 _ HS5.out (by omega) (by omega) (by omega) (by omega)).mono ?_
          rintro e w5 ⟨xj, k6, rfl, hxj, hk6, hs6, ho6⟩
          have HS6 := Lib.hid hs6
          have HO6 := Lib.hid (HO5.out.trans ho6)
          have HG6 := Lib.hid ((HG5.out.only (Nat.le_refl _) ho6 (by omega)).wideA ho6.size)
          have hz6 := HO6.out.size
          clear hs6 ho6 HS5 HO5 HG5
          obtain ⟨i, rfl⟩ : ∃ i : Nat, xi = i := ⟨xi.toNat, by omega⟩
          obtain ⟨j, rfl⟩ : ∃ j : Nat, xj = j := ⟨xj.toNat, by omega⟩
          have hig : i < g.length := by omega
          have hjr : j < (nthL g i).length := by rw [HE.out i hig]; omega
          obtain ⟨e1, e2, e3⟩ := HG6.out.2.1 i hig
          obtain ⟨e4, e5⟩ := e3 j hjr
          have HJR := Lib.hid hjr
          have HIG := Lib.hid hig
          rw [HE.out i hig] at e1
          have hbb := HS6.out.lt
          have hob : ob ≠ b := by have := HG6.out.1; omega
          have hrb : r i ≠ b := by omega
          have hro : (⟨r i, j, none⟩ : Addr) ≠ ⟨ob, i, none⟩ := fun e => e2.2.2 (congrArg Addr.block e)
          have HQ := Lib.hid (show (w5.cell? ⟨ob, i, none⟩ = some (.slice (some ⟨r i, 0, none⟩) K (c i)) ∧ w5.cell? ⟨r i, j, none⟩ = some (.int .i64 (f i j)) ∧ w5.frozen? ⟨r i, j, none⟩ = false) ∧ ob ≠ b ∧ r i ≠ b from ⟨⟨e1, e4, e5⟩, hob, hrb⟩)
          have q1 : (i : Int) < (R : Int) := by omega
          have q2 : (0 : Int) ≤ (i : Int) := by omega
          have q3 : (j : Int) < (K : Int) := by omega
          have q4 : (0 : Int) ≤ (j : Int) := by omega
          have q5 : i < R := by omega
          have q6 : j < K := by omega
          have HRI2 := Lib.hid e2
          clear e3 e2 hig hjr hxi hxj
          go_wp2_with fail
          go_region_held3 (fun w' => w'.cell? ⟨ob, i, none⟩ = some (.slice (some ⟨r i, 0, none⟩) K (c i)) ∧ w'.frozen? ⟨r i, j, none⟩ = false)
            (first | exact ⟨(keepD' HQ.out (Only.refl b w5).drew).1, (keepD' HQ.out (Only.refl b w5).drew).2.2.1⟩ | exact ⟨(keepD' HQ.out ((Only.refl b w5).drew.trans ho7)).1, (keepD' HQ.out ((Only.refl b w5).drew.trans ho7)).2.2.1⟩ | exact ⟨(World.cell?_setCell_other _ _ _ _ hro).trans p1, by simpa using p3⟩ | go_keep)
            (first | (go_at_call 37; refine (pick_c b a cap z 20 k6 _ HS6.out.drew (by omega) (by omega) (by omega) (by omega)).mono ?_; rintro e w7 ⟨x7, k7, rfl, hx7, hk7, hs7, ho7⟩; obtain ⟨p1, p2, p3, -⟩ := keepD' HQ.out ((Only.refl b w5).drew.trans ho7)))
          all_goals
            rw [IntWalk.i64_in (10 * x7) (by omega)]
            have HO7 := Lib.hid ((HO6.out.trans ((Only.refl b w5).drew.trans ho7)).setNew (p := ⟨r i, j, none⟩) (show w.heap.size ≤ r i from HRI2.out.1) (.int .i64 (10 * x7)))
            have HS7 := Lib.hid (HS.out.over hs7 (p := ⟨r i, j, none⟩) (u := .int .i64 (10 * x7)) hrb HO7.out)
            have HG7 := Lib.hid ((((HG6.out.only (Nat.le_refl _) ((Only.refl b w5).drew.trans ho7) (by omega)).wideA ((Only.refl b w5).drew.trans ho7).size).set HIG.out HJR.out (10 * x7)).wideA (show w7.heap.size ≤ (w7.setCell ⟨r i, j, none⟩ (.int .i64 (10 * x7))).heap.size by simp))
            have HR7 := Lib.hid (HR4.out.set (i := i) (k := j) (u := 10 * x7) (by omega))
            clear p1 p2 p3 hs7 ho7
            generalize (w7.setCell ⟨r i, j, none⟩ (.int .i64 (10 * x7))) = w8 at HO7 HS7 HG7 ⊢
            go_wp2
            go_roundw
            case rel => exact ⟨y - 1, k7, _, by omega, rfl, by omega, HR7.out, HG7.out, HS7.out, HO7.out⟩
            case measure => simp [intOf]; omega
        · obtain rfl : y = 0 := by omega
          obtain ⟨p1, p2, p3⟩ := rise_gridB hgr (by omega) (by omega) HE.out HR4.out
          have HP := Lib.hid (And.intro p2 p3)
          have HGA := Lib.hid (GridF.gridA (E := fun p => f p.1 p.2) HG4.out)
          have HPL := Lib.hid p1
          clear p1 p2 p3
          go_wp2
          go_ret
          exact ⟨_, cp, _, by rw [HPL.out]; rfl, HGA.out, HP.out.1, HP.out.2, ⟨k, HS4.out⟩, HO4.out⟩

set_option maxRecDepth 100000 in
theorem r8Arch_c (a : Option Addr) (cap : Nat) (z : List Int) (w : World) (hz : Nums .u8 w a z) (hB : Bytes z) (hl : z.length ≤ 1048576) :
    Calls Try.prog 5 #[.slice a z.length cap] w fun e' w' => ∃ (v : Option Addr) (cp : Nat) (g : List (List Int)), e' = .returned (.slice v g.length cp) ∧ Grid w' v g ∧ Small g ∧ gridB 0 1000 g = true ∧ Below w.heap.size w w' := by
  have HN := Lib.hid hz
  clear hz
  go_enter Try.func5, Try.ntmps5
  go_wp2_with fail
  refine (l00From_c a cap z _ HN.out hB hl).mono ?_
  rintro e w1 ⟨rfl, hs1, hb1⟩
  have HS1 := Lib.hid hs1
  have HW1 := Lib.hid hb1
  have hz1 : w.heap.size < w1.heap.size := hs1.lt
  obtain ⟨b, hb⟩ : ∃ b, b = w.heap.size := ⟨_, rfl⟩
  rw [← hb] at HS1 HW1 hz1 ⊢
  have HB := Lib.hid hb
  clear hs1 hb1 hb
  go_wp2_with fail
  refine (drawArch_c b a cap z 0 w1 HS1.out (by omega) (by omega)).mono ?_
  rintro e w2 ⟨v, cp, g, k, rfl, hga, hsm, hgb, hs2, ho2⟩
  have HG2 := Lib.hid hga
  have HO2 := Lib.hid ho2
  have HSM := Lib.hid hsm
  clear hs2 hga ho2 hsm
  go_wp2
  go_ret
  exact ⟨v, cp, g, rfl, HG2.out.grid, HSM.out, hgb, by rw [← HB.out]; exact HW1.out.trans (HO2.out.below (Nat.le_refl _) (by omega))⟩
end Go.Proofs.Ytlenihncfhemkaa
