/- The plates that the reference draws: what matters is that they are grids in memory of their own, small ones. -/
import Derived.Test.YtpklckpnhjhnhaaDraw
import Derived.Test.YtpklckpnhjhnhaaOwnG
namespace Go.Proofs.Ytpklckpnhjhnhaa
open Go.RowKit Go.ChangeShapes Go.WideShapes
set_option linter.unusedVariables false

theorem only_grown {b : Nat} {a w w' : World} {row : Option Nat} (h : Only b a w) (hg : w.grownBy w' row) (hrow : ∀ k, row = some k → a.heap.size ≤ k) : Only b a w' :=
  ⟨hg.os.trans h.os, hg.tape.trans h.tape, hg.output.trans h.output, Nat.le_trans h.size hg.size, fun k hk hne => (hg.block k (Nat.lt_of_lt_of_le hk h.size) (fun e => by have := hrow k e.symm; omega)).trans (h.block k hk hne)⟩
theorem own_only {B b : Nat} {w w' : World} {e : TypeId} {size n : Nat} {v : Value} {xs : List Value} (h : w.ownsRow B e size v n xs) (ho : Only b w w') (hb : b < B) : w'.ownsRow B e size v n xs :=
  h.kept (row := some b) ⟨ho.os, ho.tape, ho.output, ho.size, fun k hk hne => ho.block k hk (fun e => hne (by rw [e]))⟩ (.inr fun e => by have := (h.lt b e).1; omega)
theorem OwnI.only {B b : Nat} {w w' : World} {v : Value} {zs : List Int} (h : OwnI B w v zs) (ho : Only b w w') (hb : b < B) : OwnI B w' v zs := ⟨own_only h.1 ho hb, h.2⟩
theorem OwnG.only {B C b : Nat} {w w' : World} {v : Value} {g : List (List Int)} (h : OwnG B C w v g) (hC : C ≤ w.heap.size) (ho : Only b w w') (hb : b < B) : OwnG B C w' v g := by
  obtain ⟨r, c, h, hn, hr, hd, hv⟩ := h
  exact ⟨r, c, own_only h ho hb, hn, fun j hj => ⟨(hr j hj).1, (hr j hj).2.1, (hr j hj).2.2.of_block (ho.block _ (by have := (hr j hj).1; omega) (by have := (hr j hj).1; omega))⟩, hd, hv⟩
theorem GridA.only {B C b : Nat} {w w' : World} {a : Option Addr} {g : List (List Int)} (h : GridA B C w a g) (hC : C ≤ w.heap.size) (ho : Only b w w') (hb : b < B) : GridA B C w' a g :=
  h.keep fun k h1 h2 => ho.block k (by omega) (by omega)
/-- The source, behind an append to a row of the call's own. -/
theorem Src.grown {b : Nat} {w0 w w' : World} {a : Option Addr} {cap : Nat} {z : List Int} {n0 n : Int} {row : Option Nat} (h0 : Src b w0 a cap z n0) (h : Src b w a cap z n) (hg : w.grownBy w' row) (hne : row ≠ some b) (ho : Only b w0 w') : Src b w' a cap z n := by
  have hlt := h.lt
  have hk : w'.heap[b]? = w.heap[b]? := hg.block b hlt (fun e => hne e.symm)
  obtain ⟨⟨c0, c1, s, c2⟩, ⟨f1, f2⟩, _, hB, ha⟩ := h
  refine ⟨⟨(World.cell?_of_block (w := w) hk).trans c0, (World.cell?_of_block (w := w) hk).trans c1, s, (World.cell?_of_block (w := w) hk).trans c2⟩, ⟨(World.frozen?_of_block (w := w) hk).trans f1, (World.frozen?_of_block (w := w) hk).trans f2⟩, ?_, hB, ha⟩
  obtain ⟨-, -, hz, -, ha0⟩ := h0
  rcases hz with rfl | ⟨b2, o2, rfl, hc⟩
  · exact .inl rfl
  · refine .inr ⟨b2, o2, rfl, fun j hj => ?_⟩
    have h1 := hc j hj
    exact (ho.cell (p := ⟨b2, o2 + j, none⟩) (World.block_lt_of_cell? _ _ h1) (show b2 ≠ b from ha0 (by omega) ⟨b2, o2, none⟩ rfl)).trans h1
/-- A grid of rows of one length. -/
def Even (g : List (List Int)) (c : Nat) : Prop := ∀ j, j < g.length → (nthL g j).length = c
theorem Even.nil (c : Nat) : Even [] c := fun j hj => absurd hj (Nat.not_lt_zero _)
theorem Even.snoc {g : List (List Int)} {c : Nat} (h : Even g c) {row : List Int} (hr : row.length = c) : Even (g ++ [row]) c := fun j hj => by
  simp only [List.length_append, List.length_singleton] at hj
  by_cases h1 : j < g.length
  · rw [nthL_left h1]; exact h j h1
  · obtain rfl : j = g.length := by omega
    rw [nthL_last]; exact hr
theorem small_of {g : List (List Int)} (h : g.length ≤ 100) (hr : ∀ j, j < g.length → (nthL g j).length ≤ 100) : Small g := by
  have key : ∀ i, i ≤ g.length → sumL g i ≤ 100 * i := by
    intro i
    induction i with
    | zero => intro _; simp [sumL]
    | succ i ih =>
      intro hi
      have h1 := ih (by omega)
      have h2 := hr i (by omega)
      simp only [sumL]
      omega
  have := key _ (Nat.le_refl _)
  unfold Small
  omega

set_option maxRecDepth 100000 in
set_option maxHeartbeats 1000000 in
theorem drawOk_c (b : Nat) (a : Option Addr) (cap : Nat) (z : List Int) (n : Int) (w : World) (h : Src b w a cap z n) (h0 : 0 ≤ n) (h1 : n ≤ 100000000000) :
    Calls Try.prog 61 #[.pointer (some ⟨b, 0, none⟩)] w fun e w' => ∃ (v : Value) (g : List (List Int)) (k : Int), e = .returned v ∧ OwnG w.heap.size w'.heap.size w' v g ∧ (1 ≤ g.length ∧ g.length ≤ 5) ∧ (∃ c, c ≤ 5 ∧ Even g c) ∧ (n ≤ k ∧ k ≤ n + 100) ∧ Src b w' a cap z k ∧ Only b w w' := by
  have HS := Lib.hid h
  have hbl := h.lt
  clear h
  obtain ⟨i0, hi, hz0, hz1, hz2⟩ := info_parts infoI'
  obtain ⟨j0, hj, hy0, hy1, hy2⟩ := info_parts infoS
  go_enter Try.func61, Try.ntmps61
  go_wp2_with fail
  refine (pick_c b a cap z 5 n _ HS.out h0 (by omega) (by omega) (by omega)).mono ?_
  rintro e w1 ⟨xr, k1, rfl, hxr, hk1, hs1, ho1⟩
  have HS1 := Lib.hid hs1
  have HO1 := Lib.hid ho1
  clear hs1 ho1
  go_wp2_with fail
  refine (pick_c b a cap z 5 k1 _ HS1.out (by omega) (by omega) (by omega) (by omega)).mono ?_
  rintro e w2 ⟨xc, k2, rfl, hxc, hk2, hs2, ho2⟩
  have HS2 := Lib.hid hs2
  have HO2 := Lib.hid (HO1.out.trans ho2)
  clear hs2 ho2 HS1 HO1
  obtain ⟨R, hR⟩ : ∃ R : Nat, 1 + xr = R := ⟨(1 + xr).toNat, by omega⟩
  obtain ⟨K, hK⟩ : ∃ K : Nat, 1 + xc = K := ⟨(1 + xc).toNat, by omega⟩
  have hR1 : 1 ≤ R ∧ R ≤ 5 := by omega
  have hK1 : 1 ≤ K ∧ K ≤ 5 := by omega
  have hk2b : n ≤ k2 ∧ k2 ≤ n + 4 := by omega
  clear hxr hxc hk1 hk2
  have HA0 := Lib.hid (show Only b w (w2.alloc (.cells #[] 26)) from HO2.out.alloc _)
  have HSA := Lib.hid (HS2.out.alloc (.cells #[] 26))
  have hz2w := HO2.out.size
  have HG0 := Lib.hid (show OwnG w.heap.size (w2.alloc (.cells #[] 26)).heap.size (w2.alloc (.cells #[] 26)) (.slice (some ⟨w2.heap.size, 0, none⟩) 0 0) [] from OwnG.start (World.ownsRow_made w2 #[] 0 hz2w (Nat.zero_le _) rfl) (by simp) (Nat.le_refl _))
  go_wp2
  clear hR hK
  go_loopw [5, 6] (fun v i wr => ∃ (g : List (List Int)) (k : Int), g.length ≤ R ∧ i = .int .i64 g.length ∧ Even g K ∧ OwnG w.heap.size wr.heap.size wr v g ∧ (k2 ≤ k ∧ k ≤ k2 + 12 * g.length) ∧ Src b wr a cap z k ∧ Only b w wr) (fun _ i _ => R - (intOf i).toNat)
  case atStart => exact ⟨[], k2, by simp, rfl, Even.nil K, HG0.out, by simp, HSA.out, HA0.out⟩
  case round =>
    clear HG0 HSA HA0 HS2 HO2
    obtain ⟨g, k, hgl, rfl, hev, hown, hkb, hsrc, honly⟩ := hrel
    have HE := Lib.hid hev
    have HG := Lib.hid hown
    have HSR := Lib.hid hsrc
    have HOL := Lib.hid honly
    have hszr := honly.size
    clear hev hown hsrc honly
    by_cases hlt : g.length < R
    · obtain ⟨Bo, hBo⟩ : ∃ Bo, Bo = wr.heap.size := ⟨_, rfl⟩
      have HBo := Lib.hid hBo
      have HR0 := Lib.hid (show OwnI Bo (wr.alloc (.cells #[] 2)) (.slice (some ⟨wr.heap.size, 0, none⟩) 0 0) [] from ⟨World.ownsRow_made wr #[] 0 (by omega) (Nat.zero_le _) rfl, by simp⟩)
      have HS0 := Lib.hid (HSR.out.alloc (.cells #[] 2))
      have HL0 := Lib.hid ((Only.refl b wr).alloc (.cells #[] 2))
      have hBob : b < Bo := by have := HSR.out.lt; omega
      have hBow : w.heap.size ≤ Bo := by omega
      clear hBo
      go_wp2
      go_loopw [7, 8] (fun v2 i2 wi => ∃ (zs : List Int) (k' : Int), zs.length ≤ K ∧ i2 = .int .i64 zs.length ∧ OwnI Bo wi v2 zs ∧ (k ≤ k' ∧ k' ≤ k + 2 * zs.length) ∧ Src b wi a cap z k' ∧ Only b wr wi) (fun _ i _ => K - (intOf i).toNat)
      case atStart => exact ⟨[], k, by simp, rfl, HR0.out, by simp, HS0.out, HL0.out⟩
      case round =>
        clear HR0 HS0 HL0
        obtain ⟨zs, k', hzl, rfl, hrow, hk'b, hsrc2, honly2⟩ := hrel
        have HR2 := Lib.hid hrow
        have HS2 := Lib.hid hsrc2
        have HL2 := Lib.hid honly2
        clear hrow hsrc2 honly2
        by_cases hzt : zs.length < K
        · go_wp2_with fail
          refine (pick_c b a cap z 20 k' _ HS2.out (by omega) (by omega) (by omega) (by omega)).mono ?_
          rintro e w3 ⟨x, k3, rfl, hx, hk3, hs3, ho3⟩
          have HS3 := Lib.hid hs3
          have HL3 := Lib.hid (HL2.out.trans ho3)
          have HR3 := Lib.hid (HR2.out.only ho3 hBob)
          have hz3 := HL3.out.size
          have HB3 := Lib.hid (show Bo ≤ w3.heap.size by have := HBo.out; omega)
          clear hs3 ho3 HS2 HL2 HR2
          go_wp2_with (at_builtin; refine wpList_append_own _ rfl _ _ 26 rfl Bo 2 i0 (.int .i64 0) 1 8 Try.underlying26 hi hz0 hz1 hz2 rfl (by decide) _ _ _ rfl (HR3.out.1.alloc _) ⟨w3.heap.size, 0, none⟩ 1 1 [.int .i64 (20 + x)] rfl rfl (own_new1 _ _ _) ?c2 ?c3 ?c4 ?c5 ?_)
          case c2 => (first | rfl | (intro u hu; simp at hu; subst hu; rfl))
          case c3 => unfold maxLen; omega
          case c4 => omega
          case c5 => have := HB3.out; simp; omega
          · intro v' w5 hown' hgrow hnil
            have hne' : v' ≠ .slice none 0 0 := fun e => by simp [e] at hnil
            have HO5 := Lib.hid (only_grown (HL3.out.alloc (.cells #[.int .i64 (20 + x)] 2)) hgrow fun q hq => by have := HR3.out.lt q hq; have := HBo.out; omega)
            have HS5 := Lib.hid (HSR.out.grown (HS3.out.alloc (.cells #[.int .i64 (20 + x)] 2)) hgrow (fun e => by have := HR3.out.lt b e; omega) HO5.out)
            have HY := Lib.hid (show OwnI Bo w5 v' (zs ++ [20 + x]) from OwnI.snoc hown' hne')
            have HLN := Lib.hid (show (zs ++ [20 + x]).length = zs.length + 1 by simp)
            clear hown' hgrow hnil hne'
            go_wp2_with fail
            exact ⟨⟨zs ++ [20 + x], k3, by rw [HLN.out]; omega, by rw [HLN.out]; go_num, HY.out, by rw [HLN.out]; omega, HS5.out, HO5.out⟩, by simp only [intOf]; omega⟩
        · have hzk : zs.length = K := by omega
          obtain ⟨br, cr, rfl, hbr1, hbr2, -⟩ := HR2.out.form
          have HRC := Lib.hid (own_rowC HR2.out)
          have HG2 := Lib.hid (HG.out.only (Nat.le_refl _) HL2.out (by omega))
          obtain ⟨r, c, hown, hnn, hrows, hdist, hv⟩ := HG2.out
          have HOW := Lib.hid hown
          have HV := Lib.hid (And.intro hrows (And.intro hdist hv))
          have HEV := Lib.hid (HE.out.snoc (row := zs) hzk)
          have HOA := Lib.hid (HOL.out.trans HL2.out)
          have hszi := HOA.out.size
          have HWW := Lib.hid HBo.out
          have HLG := Lib.hid (show (g ++ [zs]).length = g.length + 1 by simp)
          clear hown hnn hrows hdist hv hzk
          go_wp2_with (at_builtin; refine wpList_append_own _ rfl _ _ 24 rfl w.heap.size 26 j0 (.slice none 0 0) 1 24 Try.underlying24 hj hy0 hy1 hy2 rfl (by decide) _ _ _ rfl (HOW.out.alloc _) ⟨wr.heap.size, 0, none⟩ 1 1 [.slice (some ⟨br, 0, none⟩) zs.length cr] rfl rfl (own_new1 _ _ _) ?d2 ?d3 ?d4 ?d5 ?_)
          case d2 => (first | rfl | (intro u hu; simp at hu; subst hu; rfl))
          case d3 => unfold maxLen; omega
          case d4 => omega
          case d5 => simp; omega
          · intro v' w5 hown' hgrow hnil
            have HO5 := Lib.hid (only_grown (HOA.out.alloc (.cells #[.slice (some ⟨br, 0, none⟩) zs.length cr] 26)) hgrow fun q hq => HG2.out.lt q hq)
            have HS5 := Lib.hid (HS.out.grown (HS2.out.alloc (.cells #[.slice (some ⟨br, 0, none⟩) zs.length cr] 26)) hgrow (fun e => by have := HG2.out.lt b e; omega) HO5.out)
            have HY := Lib.hid (show OwnG w.heap.size w5.heap.size w5 v' (g ++ [zs]) from
              own_push HOW.out HV.out.1 HV.out.2.1 HV.out.2.2 (by have := HWW.out; omega) (by omega) hbr2 (by omega) HRC.out hown' hgrow hnil)
            clear hown' hgrow hnil
            go_wp2_with fail
            exact ⟨⟨g ++ [zs], k', by rw [HLG.out]; omega, by rw [HLG.out]; go_num, HEV.out, HY.out, by rw [HLG.out]; omega, HS5.out, HO5.out⟩, by simp only [intOf]; omega⟩
    · have hgr : g.length = R := by omega
      go_wp2
      go_ret
      exact ⟨_, g, k, rfl, HG.out, by omega, ⟨K, hK1.2, HE.out⟩, by omega, HSR.out, HOL.out⟩
end Go.Proofs.Ytpklckpnhjhnhaa
