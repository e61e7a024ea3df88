/- A smoother arching: the program's map and the reference's copy, written in place. -/
import Derived.Test.YtlenihncfhemkaaAround
import Derived.Test.YtlenihncfhemkaaGridF
import Derived.Test.YtlenihncfhemkaaMass
import Derived.Test.YtlenihncfhemkaaSteep
import Derived.StillTailTactics
namespace Go.Proofs.Ytlenihncfhemkaa
open Go.RowKit Go.ChangeShapes Go.WideShapes
set_option linter.unusedVariables false

/-- The smoother height of a place. -/
def smF (g : List (List Int)) (p : Nat × Nat) : Int := if edgeB g p then atG g p else rdiv (4 * atG g p + sumP g (nearL g p)) 8
theorem cell_keep {w w' : World} {b o : Nat} {v : Value} (h : w.cell? ⟨b, o, none⟩ = some v) (hb : Below w.heap.size w w') : w'.cell? ⟨b, o, none⟩ = some v := (hb.cell (World.block_lt_of_cell? w _ h)).trans h
theorem smooth1_c (p : Nat × Nat) (b0 : Nat) (a : Option Addr) (cap : Nat) (g : List (List Int)) (W : World) (h : Grid W a g) (hs : Small g) (ok : GridOk 0 1000 g) (hp : p.1 < g.length ∧ p.2 < (nthL g p.1).length)
    (c0 : W.cell? ⟨b0, 0, none⟩ = some (.slice a g.length cap)) :
    Calls Try.prog 29 #[.agg #[.int .i64 p.1, .int .i64 p.2], .pointer (some ⟨b0, 0, none⟩)] W fun e W' => e = .returned (.int .i64 (smF g p)) ∧ Below W.heap.size W W' := by
  have HA := Lib.hid (show Below W.heap.size W (W.alloc (.cells #[.int .i64 p.1, .int .i64 p.2] 43)) from (Below.refl _ _).alloc (Nat.le_refl _) _)
  have e0 : (W.alloc (.cells #[.int .i64 p.1, .int .i64 p.2] 43)).cell? ⟨W.heap.size, 0, none⟩ = some (.int .i64 p.1) := by go_cell
  have e1 : (W.alloc (.cells #[.int .i64 p.1, .int .i64 p.2] 43)).cell? ⟨W.heap.size, 1, none⟩ = some (.int .i64 p.2) := by go_cell
  have HQ := Lib.hid (And.intro (And.intro e0 e1) (cell_keep c0 HA.out))
  have HG := Lib.hid (h.below HA.out)
  have hp2 : p.2 < 1048576 := by have := (ok.len hp.1).2; omega
  have hvp := ok.at_ hp
  have HV := Lib.hid (fun (p : Nat × Nat) (hp : p.1 < g.length ∧ p.2 < (nthL g p.1).length) => ok.at_ hp)
  have HNI := Lib.hid (fun (p q : Nat × Nat) (hq : q ∈ nearL g p) => ok.near hq)
  clear h e0 e1 c0 ok
  go_enter Try.func29, Try.ntmps29
  obtain ⟨⟨d0, d1⟩, d2⟩ := HQ.out
  go_wp2_with fail
  refine call_below (edge_c _ _ g p _ HG.out hs hp.1 hp2) ?_
  intro w1 hb1
  generalize W.alloc (.cells #[.int .i64 p.1, .int .i64 p.2] 43) = wA at HA HQ HG d0 d1 d2 hb1 ⊢
  have k0 := cell_keep d0 hb1
  have k1 := cell_keep d1 hb1
  have k2 := cell_keep d2 hb1
  have HB1 := Lib.hid hb1
  clear hb1 d0 d1 d2
  cases hE : edgeB g p
  · have HF := Lib.hid (show smF g p = rdiv (4 * atG g p + sumP g (nearL g p)) 8 by unfold smF; rw [hE]; rfl)
    clear hE
    go_wp2_with fail
    refine call_below (of_c _ _ g p _ (HG.out.below HB1.out) hs hp.1 hp.2) ?_
    intro w2 hb2
    have HB2 := Lib.hid (below_next HB1.out hb2)
    have k0' := cell_keep k0 hb2
    have k1' := cell_keep k1 hb2
    have k2' := cell_keep k2 hb2
    clear k0 k1 k2 hb2
    go_wp2_with fail
    refine (near_c _ _ g p _ (HG.out.below HB2.out) hs hp.1 hp2).mono ?_
    rintro e w3 ⟨v3, rfl, hown3, hnn3, hb3⟩
    obtain ⟨bq, cq, rfl, -, hbq, hcell3⟩ := own_form hown3 hnn3
    have HC3 := Lib.hid hcell3
    have HB3 := Lib.hid (below_next HB2.out hb3)
    have k3 := cell_keep k2' hb3
    have HK3 := Lib.hid k3
    have HQI := Lib.hid (fun i (hi : i < (nearL g p).length) => HNI.out p _ (place_mem hi))
    have HTQ := Lib.hid (fun i (hi : i < (nearL g p).length) => sumP_take (g := g) hi)
    have HBD := Lib.hid (show ∀ i, i ≤ (nearL g p).length → 0 ≤ sumP g ((nearL g p).take i) ∧ sumP g ((nearL g p).take i) ≤ 100000 from fun i hi => by
      have h1 := sumP_bd (g := g) (l := (nearL g p).take i) fun q hq => HV.out q (HNI.out p q (List.mem_of_mem_take hq))
      have h2 : (nearL g p).length ≤ 4 := nearTo_len _ _ _ _
      rw [List.length_take] at h1
      omega)
    have HEQ := Lib.hid (show sumP g ((nearL g p).take (nearL g p).length) = sumP g (nearL g p) by rw [List.take_length])
    have h00 : sumP g ((nearL g p).take 0) = 0 := by simp [sumP]
    have hlq : (nearL g p).length ≤ 4 := nearTo_len _ _ _ _
    clear hown3 hnn3 hcell3 hb3 k0' k1' k2' k3
    generalize nearL g p = LQ at HF HC3 HQI HTQ HBD HEQ hlq h00 ⊢
    go_wp2
    go_loopw [4, 21] (fun m i wi => ∃ q : Nat, q ≤ LQ.length ∧ i = .int .i64 q ∧ m = .int .i64 (4 * atG g p + sumP g (LQ.take q)) ∧ Below w3.heap.size w3 wi) (fun _ i _ => LQ.length - (intOf i).toNat)
    case atStart => exact ⟨0, Nat.zero_le _, rfl, by rw [h00, Int.add_zero], Below.refl _ _⟩
    case round =>
      clear h00
      obtain ⟨q, hq, rfl, rfl, hbi⟩ := hrel
      have HLI := Lib.hid hbi
      have hbd := HBD.out q hq
      by_cases hlt2 : q < LQ.length
      · have hT := HTQ.out q hlt2
        have hP := HQI.out q hlt2
        have hC := HC3.out q hlt2
        generalize LQ.getD q (0, 0) = r at hT hP hC
        have c0 := (hbi.cell (p := ⟨bq, q * 2, none⟩) hbq).trans hC.1
        have c1 := (hbi.cell (p := ⟨bq, q * 2 + 1, none⟩) hbq).trans hC.2
        have hk := cell_keep HK3.out hbi
        have HRR := Lib.hid hP
        have hvr := HV.out r hP
        have HTT := Lib.hid hT
        clear hbi hP hC hT
        generalize sumP g (LQ.take q) = s at hbd HTT ⊢
        have hk2 := cell_keep hk (show Below wr.heap.size wr (wr.alloc (.cells #[.int .i64 r.1, .int .i64 r.2] 43)) from (Below.refl _ _).alloc (Nat.le_refl _) _)
        go_wp2_with fail
        refine call_below (of_c _ _ g r _ (((HG.out.below HB3.out).below HLI.out).below ((Below.refl _ _).alloc (Nat.le_refl _) _)) hs HRR.out.1 HRR.out.2) ?_
        intro w4 hb4
        have HB4 := Lib.hid (below_from hb4)
        clear hb4 hk2 c0 c1 hk
        go_wp2
        go_roundw
        case rel => exact ⟨q + 1, by omega, by go_num, by rw [HTT.out]; congr 1; omega, below_next HLI.out HB4.out⟩
        case measure => simp [intOf]; omega
      · obtain rfl : q = LQ.length := by omega
        rw [HEQ.out] at hbd ⊢
        clear hbi
        go_wp2_with (go_at_call 30; refine call_same (divRound_c _ _ _ (by omega) (by omega) (by omega) (by omega)) ?_)
        go_ret
        exact ⟨by rw [HF.out]; rfl, below_next HA.out (below_next HB3.out HLI.out)⟩
  · have HF := Lib.hid (show smF g p = atG g p by unfold smF; rw [hE]; rfl)
    clear hE
    go_wp2_with fail
    refine call_below (of_c _ _ g p _ (HG.out.below HB1.out) hs hp.1 hp.2) ?_
    intro w2 hb2
    go_wp2
    go_ret
    exact ⟨by rw [HF.out]; rfl, below_next HA.out (below_next HB1.out hb2)⟩
/-- The program's mapped, with this closure: what it hands back is the grid of the closure's answers. -/
theorem mapped_smooth (a : Option Addr) (cap : Nat) (g : List (List Int)) (b0 : Nat) (E : Nat × Nat → Int) (w : World) (h : Grid w a g) (hs : Small g) (hne : ∀ j, j < g.length → 1 ≤ (nthL g j).length)
    (hF : ∀ (p : Nat × Nat) (W : World), p.1 < g.length → p.2 < (nthL g p.1).length → Below w.heap.size w W → Calls Try.prog 29 #[.agg #[.int .i64 p.1, .int .i64 p.2], .pointer (some ⟨b0, 0, none⟩)] W fun e W' => e = .returned (.int .i64 (E p)) ∧ Below W.heap.size W W') :
    Calls Try.prog 28 #[.slice a g.length cap, .func (.func 29) #[] #[.pointer (some ⟨b0, 0, none⟩)]] w fun e w' => ∃ v, e = .returned v ∧ (OwnG w.heap.size w'.heap.size w' v (gridG E (lenG g) g.length) ∧ Below w.heap.size w w') := by
  obtain ⟨i0, hi, hz0, hz1, hz2⟩ := info_parts infoI'
  obtain ⟨j0, hj, hy0, hy1, hy2⟩ := info_parts infoS
  have hn := hs.len
  have HF := Lib.hid hF
  have HNE := Lib.hid hne
  clear hF hne
  go_enter Try.func28, Try.ntmps28
  go_wp2
  go_loopw [5, 13] (fun v i wr => ∃ k : Nat, k ≤ g.length ∧ i = .int .i64 k ∧ OwnG w.heap.size wr.heap.size wr v (gridG E (lenG g) k) ∧ Below w.heap.size w wr) (fun _ i _ => g.length - (intOf i).toNat)
  case atStart => exact ⟨0, Nat.zero_le _, rfl, OwnG.start (World.ownsRow_made w #[] 0 (Nat.le_refl _) (Nat.zero_le _) rfl) (by simp) (Nat.le_refl _), (Below.refl _ _).alloc (Nat.le_refl _) _⟩
  case round =>
    obtain ⟨k, hk, rfl, hown, hbl⟩ := hrel
    have HO := Lib.hid hown
    have HL := Lib.hid hbl
    by_cases hlt : k < g.length
    · obtain ⟨b, o, rfl, hb, ar, cr, hc, hnu⟩ := (h.below hbl).pos hlt
      have hrow := hs.row hlt
      have hne := HNE.out k hlt
      have HE := Lib.hid (gridG_succ E (lenG g) k)
      have HLN := Lib.hid (gridG_len E (lenG g) k)
      clear hown hbl h hnu
      obtain ⟨wo, hwo⟩ : ∃ wo : World, wo = wr := ⟨_, rfl⟩
      rw [← hwo] at HO HL hc hb ⊢
      clear hwo
      go_wp2_with fail
      go_loopw [8, 21] (fun v i wi => ∃ c : Nat, c ≤ (nthL g k).length ∧ i = .int .i64 c ∧ OwnI wo.heap.size wi v (rowG E k c) ∧ Below wo.heap.size wo wi) (fun _ i _ => (nthL g k).length - (intOf i).toNat)
      case atStart => exact ⟨0, Nat.zero_le _, rfl, ⟨World.ownsRow_made wo #[] 0 (Nat.le_refl _) (Nat.zero_le _) rfl, by simp⟩, (Below.refl _ _).alloc (Nat.le_refl _) _⟩
      case round =>
        clear hc
        obtain ⟨c, hcl, rfl, hown, hbl⟩ := hrel
        have HO2 := Lib.hid hown
        have HL2 := Lib.hid hbl
        have HE2 := Lib.hid (rowG_succ E k c)
        have HN2 := Lib.hid (rowG_len E k c)
        clear hown hbl
        by_cases hct : c < (nthL g k).length
        · go_wp2_with fail
          refine call_below (HF.out (k, c) _ hlt hct (below_next HL.out HL2.out)) ?_
          intro w3 hb3
          have HO3 := Lib.hid (HO2.out.below hb3)
          have HL3 := Lib.hid (below_next HL2.out hb3)
          clear hb3
          go_wp2_with (at_builtin; refine wpList_append_own _ rfl _ _ 26 rfl wo.heap.size 2 i0 (.int .i64 0) 1 8 Try.underlying26 hi hz0 hz1 hz2 rfl (by decide) _ _ _ rfl (HO3.out.1.alloc _) ⟨w3.heap.size, 0, none⟩ 1 1 [.int .i64 (E (k, c))] rfl rfl (own_new1 _ _ _) ?c2 ?c3 ?c4 ?c5 ?_)
          case c2 => (first | rfl | (intro u hu; simp at hu; subst hu; rfl))
          case c3 => have := HN2.out; unfold maxLen; omega
          case c4 => have := HN2.out; omega
          case c5 => have := HL3.out.size; simp; omega
          · intro v' w4 hown' hgrow hnil
            have hb1 : Below wo.heap.size wo w4 := below_grown (HL3.out.alloc HL3.out.size _) (by have := HL3.out.size; simp; omega) hgrow fun q hq => HO3.out.lt q hq
            have HX := Lib.hid (show OwnI wo.heap.size w4 v' (rowG E k (c + 1)) by rw [HE2.out]; exact OwnI.snoc hown' hnil)
            have HY := Lib.hid hb1
            clear hown' hgrow hnil hb1
            go_wp2
            go_roundw
            case rel => exact ⟨c + 1, by omega, by go_num, HX.out, HY.out⟩
            case measure => simp [intOf]; omega
        · obtain rfl : c = (nthL g k).length := by omega
          obtain ⟨br, cr', rfl, hbr0, hbr1, hnu⟩ := HO2.out.form
          have hro := HO2.out.1
          have hrc : RowC wr br (rowG E k (nthL g k).length).length (nth (rowG E k (nthL g k).length)) := own_rowC HO2.out
          obtain ⟨r, cc, hown, hnn, hrows, hdist, hv⟩ := HO.out.below (Nat.le_refl _) HL2.out
          have HROW := Lib.hid (And.intro hrows (And.intro hdist (And.intro hv hrc)))
          have HOW := Lib.hid hown
          have HNU := Lib.hid hnu
          clear hro hrc hrows hdist hv hown hnu hnn
          go_wp2_with (at_builtin; refine wpList_append_own _ rfl _ _ 24 rfl w.heap.size 26 j0 (.slice none 0 0) 1 24 Try.underlying24 hj hy0 hy1 hy2 rfl (by decide) _ _ _ rfl (HOW.out.alloc _) ⟨wr.heap.size, 0, none⟩ 1 1 [.slice (some ⟨br, 0, none⟩) (rowG E k (nthL g k).length).length cr'] rfl rfl (own_new1 _ _ _) ?d2 ?d3 ?d4 ?d5 ?_)
          case d2 => (first | rfl | (intro u hu; simp at hu; subst hu; rfl))
          case d3 => have := HLN.out; unfold maxLen; omega
          case d4 => have := HLN.out; omega
          case d5 => have := HL.out.size; have := HL2.out.size; simp; omega
          · intro v' w4 hown' hgrow hnil
            have hsz1 := HL.out.size
            have hsz2 := HL2.out.size
            have hb1 : Below w.heap.size w w4 := below_grown ((below_next HL.out HL2.out).alloc (by omega) _) (by simp; omega) hgrow fun q hq => (HOW.out.lt q hq).1
            have HX := Lib.hid (show OwnG w.heap.size w4.heap.size w4 v' (gridG E (lenG g) (k + 1)) by
              rw [HE.out]
              exact own_push HOW.out HROW.out.1 HROW.out.2.1 HROW.out.2.2.1 hbr0 (by omega) hbr1 (by rw [rowG_len]; exact hne) HROW.out.2.2.2 hown' hgrow hnil)
            have HY := Lib.hid hb1
            clear hown' hgrow hnil hb1
            go_wp2
            go_roundw
            case rel => exact ⟨k + 1, by omega, by go_num, HX.out, HY.out⟩
            case measure => simp [intOf]; omega
    · obtain rfl : k = g.length := by omega
      clear hown
      go_wp2
      go_ret
      exact ⟨_, rfl, HO.out, HL.out⟩
theorem Mid.drew {B C : Nat} {a w : World} (h : Mid B C a w) : Mid B C a w.drew := ⟨h.os, h.tape, h.output, h.size, h.block⟩
/-- A contract that leaves the world alone, inside a region that is still but for its tail. -/
theorem to_still {P : Program} {f : FuncId} {args : Array Value} {w : World} {v : Value} (c : Calls P f args w fun e w' => e = .returned v ∧ w = w') : Calls P f args w fun e w'' => e = .returned v ∧ w'' = w :=
  c.mono fun _ _ ⟨he, hw⟩ => ⟨he, hw.symm⟩
/-- A grid of which all before place (k, m) has turned. -/
def mixF (E : Nat × Nat → Int) (g : List (List Int)) (k m i j : Nat) : Int := if i < k ∨ (i = k ∧ j < m) then E (i, j) else nth (nthL g i) j
theorem mixF_zero (E : Nat × Nat → Int) (g : List (List Int)) (i j : Nat) : nth (nthL g i) j = mixF E g 0 0 i j := by unfold mixF; rw [if_neg (by omega)]
theorem mixF_step (E : Nat × Nat → Int) (g : List (List Int)) (k m i j : Nat) : (if i = k ∧ j = m then E (k, m) else mixF E g k m i j) = mixF E g k (m + 1) i j := by
  unfold mixF
  by_cases h : i = k ∧ j = m
  · obtain ⟨rfl, rfl⟩ := h
    rw [if_pos ⟨rfl, rfl⟩, if_pos (by omega)]
  · rw [if_neg h]
    by_cases h1 : i < k ∨ (i = k ∧ j < m)
    · rw [if_pos h1, if_pos (by omega)]
    · rw [if_neg h1, if_neg (by omega)]
theorem mixF_row (E : Nat × Nat → Int) (g : List (List Int)) (k i j : Nat) (hj : j < (nthL g i).length) : mixF E g k (nthL g k).length i j = mixF E g (k + 1) 0 i j := by
  unfold mixF
  by_cases h1 : i < k ∨ (i = k ∧ j < (nthL g k).length)
  · rw [if_pos h1, if_pos (by omega)]
  · rw [if_neg h1, if_neg (fun h2 => h1 ?_)]
    rcases h2 with h2 | h2
    · rcases Nat.lt_or_eq_of_le (Nat.le_of_lt_succ h2) with h3 | rfl
      · exact .inl h3
      · exact .inr ⟨rfl, hj⟩
    · omega
theorem mixF_end (E : Nat × Nat → Int) (g : List (List Int)) (i j : Nat) (hi : i < g.length) : mixF E g g.length 0 i j = E (i, j) := by unfold mixF; rw [if_pos (.inl hi)]
theorem mixF_at (E : Nat × Nat → Int) (g : List (List Int)) (k m : Nat) : mixF E g k m k m = nth (nthL g k) m := by unfold mixF; rw [if_neg (by omega)]

end Go.Proofs.Ytlenihncfhemkaa
