/- A plate that is made thinner: the program's thinned and the reference's l08All. -/
import Derived.Test.YthhgepiccjndpaaMapThin
import Derived.Test.YthhgepiccjndpaaGridF
import Derived.Test.YthhgepiccjndpaaMass
import Derived.StillTailTactics
namespace Go.Proofs.Ythhgepiccjndpaa
open Go.RowKit Go.ChangeShapes Go.WideShapes
set_option linter.unusedVariables false

theorem isLeast_c (n : Int) (w : World) : Calls Try.prog 51 #[.int .i64 n] w fun e w' => e = .returned (.bool (inB n 1 200)) ∧ w = w' := by
  go_enter Try.func51, Try.ntmps51
  go_wp2_with (go_at_call 50; refine call_same (within_c _ _ _ _) ?_)
  go_ret
  exact ⟨rfl, rfl⟩
theorem isBy_c (n : Int) (w : World) : Calls Try.prog 85 #[.int .i64 n] w fun e w' => e = .returned (.bool (inB n 0 200)) ∧ w = w' := by
  go_enter Try.func85, Try.ntmps85
  go_wp2_with (go_at_call 50; refine call_same (within_c _ _ _ _) ?_)
  go_ret
  exact ⟨rfl, rfl⟩
/-- Five cells, kept by what lays new blocks. -/
theorem keep5 {w1 w2 : World} {b b0 b1 b2 : Nat} {v0 v1 v2 v3 v4 : Value} (d : w1.cell? ⟨b, 0, none⟩ = some v0 ∧ w1.cell? ⟨b, 1, none⟩ = some v1 ∧ w1.cell? ⟨b0, 0, none⟩ = some v2 ∧ w1.cell? ⟨b1, 0, none⟩ = some v3 ∧ w1.cell? ⟨b2, 0, none⟩ = some v4) (h : Below w1.heap.size w1 w2) :
    w2.cell? ⟨b, 0, none⟩ = some v0 ∧ w2.cell? ⟨b, 1, none⟩ = some v1 ∧ w2.cell? ⟨b0, 0, none⟩ = some v2 ∧ w2.cell? ⟨b1, 0, none⟩ = some v3 ∧ w2.cell? ⟨b2, 0, none⟩ = some v4 ∧ Below w1.heap.size w1 w2 :=
  ⟨(h.cell (World.block_lt_of_cell? w1 _ d.1)).trans d.1, (h.cell (World.block_lt_of_cell? w1 _ d.2.1)).trans d.2.1, (h.cell (World.block_lt_of_cell? w1 _ d.2.2.1)).trans d.2.2.1, (h.cell (World.block_lt_of_cell? w1 _ d.2.2.2.1)).trans d.2.2.2.1, (h.cell (World.block_lt_of_cell? w1 _ d.2.2.2.2)).trans d.2.2.2.2, h⟩
theorem cell_keep {w w' : World} {b o : Nat} {v : Value} (h : w.cell? ⟨b, o, none⟩ = some v) (hb : Below w.heap.size w w') : w'.cell? ⟨b, o, none⟩ = some v := (hb.cell (World.block_lt_of_cell? w _ h)).trans h

theorem thin1_c (p : Nat × Nat) (b0 b1 b2 : Nat) (a : Option Addr) (cap : Nat) (g : List (List Int)) (b l : Int) (W : World) (h : Grid W a g) (hs : Small g) (hp : p.1 < g.length ∧ p.2 < (nthL g p.1).length)
    (c0 : W.cell? ⟨b0, 0, none⟩ = some (.slice a g.length cap)) (c1 : W.cell? ⟨b1, 0, none⟩ = some (.int .i64 b)) (c2 : W.cell? ⟨b2, 0, none⟩ = some (.int .i64 l)) (hv : 1 ≤ atG g p ∧ atG g p ≤ 200) (hb : 0 ≤ b ∧ b ≤ 200) :
    Calls Try.prog 88 #[.agg #[.int .i64 p.1, .int .i64 p.2], .pointer (some ⟨b0, 0, none⟩), .pointer (some ⟨b1, 0, none⟩), .pointer (some ⟨b2, 0, none⟩)] W fun e W' => e = .returned (.int .i64 (thinF (atG g p) b l)) ∧ Below W.heap.size W W' := by
  have HA := Lib.hid (show Below W.heap.size W (W.alloc (.cells #[.int .i64 p.1, .int .i64 p.2] 64)) from (Below.refl _ _).alloc (Nat.le_refl _) _)
  have e0 : (W.alloc (.cells #[.int .i64 p.1, .int .i64 p.2] 64)).cell? ⟨W.heap.size, 0, none⟩ = some (.int .i64 p.1) := by go_cell
  have e1 : (W.alloc (.cells #[.int .i64 p.1, .int .i64 p.2] 64)).cell? ⟨W.heap.size, 1, none⟩ = some (.int .i64 p.2) := by go_cell
  have HQ := Lib.hid (And.intro e0 (And.intro e1 (And.intro (cell_keep c0 HA.out) (And.intro (cell_keep c1 HA.out) (cell_keep c2 HA.out)))))
  have HG := Lib.hid (h.below HA.out)
  clear h e0 e1 c0 c1 c2
  go_enter Try.func88, Try.ntmps88
  go_wp2_with fail
  generalize W.alloc (.cells #[.int .i64 p.1, .int .i64 p.2] 64) = wA at HA HQ HG ⊢
  go_region_held3 (fun w' => w'.cell? ⟨W.heap.size, 0, none⟩ = some (.int .i64 p.1) ∧ w'.cell? ⟨W.heap.size, 1, none⟩ = some (.int .i64 p.2) ∧ w'.cell? ⟨b0, 0, none⟩ = some (.slice a g.length cap) ∧ w'.cell? ⟨b1, 0, none⟩ = some (.int .i64 b) ∧ w'.cell? ⟨b2, 0, none⟩ = some (.int .i64 l) ∧ Below wA.heap.size wA w')
    (first | exact keep5 HQ.out (Below.refl _ _).drew | exact keep5 HQ.out (below_next (Below.refl _ _).drew hb3) | go_keep)
    (first | (go_at_call 63; refine call_below (of_c _ _ g p _ ?_ hs hp.1 hp.2) ?_; (exact HG.out.below (Below.refl _ _).drew); intro w3 hb3) | (go_at_call 89; refine call_same (thinner_c _ _ _ _ hv hb) ?_))
  go_wp2
  go_ret
  exact ⟨rfl, below_next HA.out (below_next (Below.refl _ _).drew hb3)⟩

/-- A plate that is made thinner. -/
def thinG (g : List (List Int)) (b l : Int) : List (List Int) := gridG (fun p => thinF (atG g p) b l) (lenG g) g.length
theorem thinG_len (g : List (List Int)) (b l : Int) : (thinG g b l).length = g.length := gridG_len _ _ _
theorem thinG_small {g : List (List Int)} (ok : GridOk 1 200 g) (b l : Int) : Small (thinG g b l) := gridG_small ok.rows.2 fun i hi => (ok.len hi).2
theorem thinG_ok {g : List (List Int)} (ok : GridOk 1 200 g) {b l : Int} (hb : 0 ≤ b ∧ b ≤ 200) (hl : 1 ≤ l ∧ l ≤ 200) : GridOk 1 200 (thinG g b l) := by
  have hr := ok.rows
  have e : ∀ j, j < g.length → nthL (thinG g b l) j = rowG (fun p => thinF (atG g p) b l) j (nthL g j).length := fun j hj => gridG_nth hj
  refine ⟨by rw [thinG_len]; exact hr, by rw [e 0 (by omega), rowG_len]; exact ok.len (by omega), fun j hj => ?_, fun j hj k hk => ?_⟩
  · rw [thinG_len] at hj
    rw [e j hj, e 0 (by omega), rowG_len, rowG_len]
    exact ok.same j hj
  · rw [thinG_len] at hj
    rw [e j hj, rowG_len] at hk
    rw [e j hj, rowG_nth hk]
    exact thinF_bd (ok.range j hj k hk) hb hl

theorem thinned_c (a : Option Addr) (cap : Nat) (g : List (List Int)) (b l : Int) (w : World) (h : Grid w a g) (hs : Small g) (ok : GridOk 1 200 g) (hb : 0 ≤ b ∧ b ≤ 200) :
    Calls Try.prog 53 #[.slice a g.length cap, .int .i64 b, .int .i64 l] w fun e w' => ∃ a' cap', e = .returned (.slice a' (thinG g b l).length cap') ∧ (GridA w.heap.size w'.heap.size w' a' (thinG g b l) ∧ Below w.heap.size w w') := by
  have hmf : ∀ (fn : Fn) (first cap : Array Value) (w : World), (Instr.makeFunc fn first cap).run Try.prog w = .ok (.func fn first cap) w := fun _ _ _ _ => rfl
  have HA := Lib.hid (show Below w.heap.size w (((w.alloc (.cells #[.slice a g.length cap] 22)).alloc (.cells #[.int .i64 b] 2)).alloc (.cells #[.int .i64 l] 2)) from (((Below.refl _ _).alloc (Nat.le_refl _) _).alloc (by simp) _).alloc (by simp; omega) _)
  have e0 : (((w.alloc (.cells #[.slice a g.length cap] 22)).alloc (.cells #[.int .i64 b] 2)).alloc (.cells #[.int .i64 l] 2)).cell? ⟨w.heap.size, 0, none⟩ = some (.slice a g.length cap) := by go_cell
  have e1 : (((w.alloc (.cells #[.slice a g.length cap] 22)).alloc (.cells #[.int .i64 b] 2)).alloc (.cells #[.int .i64 l] 2)).cell? ⟨w.heap.size + 1, 0, none⟩ = some (.int .i64 b) := by go_cell
  have e2 : (((w.alloc (.cells #[.slice a g.length cap] 22)).alloc (.cells #[.int .i64 b] 2)).alloc (.cells #[.int .i64 l] 2)).cell? ⟨w.heap.size + 2, 0, none⟩ = some (.int .i64 l) := by go_cell
  have HQ := Lib.hid (And.intro e0 (And.intro e1 e2))
  go_enter Try.func53, Try.ntmps53
  go_wp2_with fail
  generalize ((w.alloc (.cells #[.slice a g.length cap] 22)).alloc (.cells #[.int .i64 b] 2)).alloc (.cells #[.int .i64 l] 2) = wA at HA HQ ⊢
  have HG := Lib.hid (h.below HA.out)
  clear e0 e1 e2 h hmf
  refine (mapped_thin a cap g w.heap.size (w.heap.size + 1) (w.heap.size + 2) (fun p => thinF (atG g p) b l) wA HG.out hs (fun j hj => (ok.len hj).1) ?_).mono ?_
  · intro p W h1 h2 hW
    exact thin1_c p _ _ _ a cap g b l W (HG.out.below hW) hs ⟨h1, h2⟩ (cell_keep HQ.out.1 hW) (cell_keep HQ.out.2.1 hW) (cell_keep HQ.out.2.2 hW) (ok.at_ ⟨h1, h2⟩) hb
  · rintro e w2 ⟨v, rfl, hown, hb2⟩
    obtain ⟨a', cap', rfl, hr⟩ := hown.gridA
    have HR := Lib.hid hr
    have HB2 := Lib.hid (below_next HA.out hb2)
    clear hown hr hb2
    go_wp2
    go_ret
    exact ⟨a', cap', rfl, HR.out.wide HA.out.size (Nat.le_refl _), HB2.out⟩

theorem l08Own_c (a : Option Addr) (cap : Nat) (g : List (List Int)) (w : World) (h : Grid w a g) (hs : Small g) (hne : ∀ j, j < g.length → 1 ≤ (nthL g j).length) :
    Calls Try.prog 86 #[.slice a g.length cap] w fun e w' => ∃ v, e = .returned v ∧ (OwnG w.heap.size w'.heap.size w' v g ∧ Below w.heap.size w w') := by
  obtain ⟨j0, hj, hy0, hy1, hy2⟩ := info_parts infoS
  have hn := hs.len
  have HNE := Lib.hid hne
  clear hne
  go_enter Try.func86, Try.ntmps86
  go_wp2
  go_loopw [3, 4] (fun v i wr => ∃ k : Nat, k ≤ g.length ∧ i = .int .i64 k ∧ OwnG w.heap.size wr.heap.size wr v (g.take k) ∧ Below w.heap.size w wr) (fun _ i _ => g.length - (intOf i).toNat)
  case atStart => exact ⟨0, Nat.zero_le _, rfl, OwnG.start (World.ownsRow_made w #[] 0 (Nat.le_refl _) (Nat.zero_le _) rfl) (by simp) (Nat.le_refl _), (Below.refl _ _).alloc (Nat.le_refl _) _⟩
  case round =>
    obtain ⟨k, hk, rfl, hown, hbl⟩ := hrel
    have HO := Lib.hid hown
    have HL := Lib.hid hbl
    by_cases hlt : k < g.length
    · obtain ⟨b, o, rfl, hb, ar, cr, hc, hnu⟩ := (h.below hbl).pos hlt
      have hrow := hs.row hlt
      have hne := HNE.out k hlt
      have HE := Lib.hid (show g.take (k + 1) = g.take k ++ [nthL g k] by rw [List.take_succ_eq_append_getElem hlt, nthL_eq hlt])
      have HLN := Lib.hid (show (g.take k).length ≤ k from List.length_take_le _ _)
      have HNU := Lib.hid hnu
      clear hown hbl h hnu
      go_wp2_with fail
      refine (l00Own_c ar cr (nthL g k) _ HNU.out hne hrow).mono ?_
      rintro e w2 ⟨v2, rfl, hrw, hb2⟩
      obtain ⟨br, cr', rfl, hbr0, hbr1, -⟩ := hrw.form
      have hrc := own_rowC hrw
      obtain ⟨r, cc, hown, hnn, hrows, hdist, hv⟩ := HO.out.below (Nat.le_refl _) hb2
      have HROW := Lib.hid (And.intro hrows (And.intro hdist (And.intro hv hrc)))
      have HOW := Lib.hid hown
      have HL2 := Lib.hid hb2
      clear hrw hrc hrows hdist hv hown hnn hb2 hc
      go_wp2_with (at_builtin; refine wpList_append_own _ rfl _ _ 22 rfl w.heap.size 35 j0 (.slice none 0 0) 1 24 Try.underlying22 hj hy0 hy1 hy2 rfl (by decide) _ _ _ rfl (HOW.out.alloc _) ⟨w2.heap.size, 0, none⟩ 1 1 [.slice (some ⟨br, 0, none⟩) (nthL g k).length cr'] rfl rfl (own_new1 _ _ _) ?d2 ?d3 ?d4 ?d5 ?_)
      case d2 => (first | rfl | (intro u hu; simp at hu; subst hu; rfl))
      case d3 => have := HLN.out; unfold maxLen; omega
      case d4 => have := HLN.out; omega
      case d5 => have := HL.out.size; have := HL2.out.size; simp; omega
      · intro v' w4 hown' hgrow hnil
        have hsz1 := HL.out.size
        have hsz2 := HL2.out.size
        have hb1 : Below w.heap.size w w4 := below_grown ((below_next HL.out HL2.out).alloc (by omega) _) (by simp; omega) hgrow fun q hq => (HOW.out.lt q hq).1
        have HX := Lib.hid (show OwnG w.heap.size w4.heap.size w4 v' (g.take (k + 1)) by
          rw [HE.out]
          exact own_push HOW.out HROW.out.1 HROW.out.2.1 HROW.out.2.2.1 hbr0 (by omega) hbr1 hne HROW.out.2.2.2 (by have h9 := hown'; rwa [show k + 1 = (g.take k).length + 1 by rw [List.length_take]; omega] at h9) hgrow hnil)
        have HY := Lib.hid hb1
        clear hown' hgrow hnil hb1
        go_wp2
        go_roundw
        case rel => exact ⟨k + 1, by omega, by go_num, HX.out, HY.out⟩
        case measure => simp [intOf]; omega
    · obtain rfl : k = g.length := by omega
      clear hown
      go_wp2
      go_ret
      exact ⟨_, rfl, by have := HO.out; rwa [List.take_length] at this, HL.out⟩
theorem Mid.drew {B C : Nat} {a w : World} (h : Mid B C a w) : Mid B C a w.drew := ⟨h.os, h.tape, h.output, h.size, h.block⟩
/-- A contract that leaves the world alone, inside a region that is still but for its tail. -/
theorem to_still {P : Program} {f : FuncId} {args : Array Value} {w : World} {v : Value} (c : Calls P f args w fun e w' => e = .returned v ∧ w = w') : Calls P f args w fun e w'' => e = .returned v ∧ w'' = w :=
  c.mono fun _ _ ⟨he, hw⟩ => ⟨he, hw.symm⟩
/-- A grid of which all before place (k, m) has turned. -/
def mixF (E : Nat × Nat → Int) (g : List (List Int)) (k m i j : Nat) : Int := if i < k ∨ (i = k ∧ j < m) then E (i, j) else nth (nthL g i) j
theorem mixF_zero (E : Nat × Nat → Int) (g : List (List Int)) (i j : Nat) : nth (nthL g i) j = mixF E g 0 0 i j := by unfold mixF; rw [if_neg (by omega)]
theorem mixF_step (E : Nat × Nat → Int) (g : List (List Int)) (k m i j : Nat) : (if i = k ∧ j = m then E (k, m) else mixF E g k m i j) = mixF E g k (m + 1) i j := by
  unfold mixF
  by_cases h : i = k ∧ j = m
  · obtain ⟨rfl, rfl⟩ := h
    rw [if_pos ⟨rfl, rfl⟩, if_pos (by omega)]
  · rw [if_neg h]
    by_cases h1 : i < k ∨ (i = k ∧ j < m)
    · rw [if_pos h1, if_pos (by omega)]
    · rw [if_neg h1, if_neg (by omega)]
theorem mixF_row (E : Nat × Nat → Int) (g : List (List Int)) (k i j : Nat) (hj : j < (nthL g i).length) : mixF E g k (nthL g k).length i j = mixF E g (k + 1) 0 i j := by
  unfold mixF
  by_cases h1 : i < k ∨ (i = k ∧ j < (nthL g k).length)
  · rw [if_pos h1, if_pos (by omega)]
  · rw [if_neg h1, if_neg (fun h2 => h1 ?_)]
    rcases h2 with h2 | h2
    · rcases Nat.lt_or_eq_of_le (Nat.le_of_lt_succ h2) with h3 | rfl
      · exact .inl h3
      · exact .inr ⟨rfl, hj⟩
    · omega
theorem mixF_end (E : Nat × Nat → Int) (g : List (List Int)) (i j : Nat) (hi : i < g.length) : mixF E g g.length 0 i j = E (i, j) := by unfold mixF; rw [if_pos (.inl hi)]
theorem mixF_at (E : Nat × Nat → Int) (g : List (List Int)) (k m : Nat) : mixF E g k m k m = nth (nthL g k) m := by unfold mixF; rw [if_neg (by omega)]

set_option maxRecDepth 100000 in
theorem l08All_c (a : Option Addr) (cap : Nat) (g : List (List Int)) (b l : Int) (w : World) (h : Grid w a g) (hs : Small g) (ok : GridOk 1 200 g) (hb : 0 ≤ b ∧ b ≤ 200) :
    Calls Try.prog 46 #[.slice a g.length cap, .int .i64 b, .int .i64 l] w fun e w' => ∃ a' cap', e = .returned (.slice a' (thinG g b l).length cap') ∧ (GridA w.heap.size w'.heap.size w' a' (thinG g b l) ∧ Below w.heap.size w w') := by
  have hg := ok.rows
  have HV := Lib.hid ok.range
  have HLE := Lib.hid (fun j (hj : j < g.length) => ok.len hj)
  have HT := Lib.hid (show thinG g b l = gridG (fun p => thinF (atG g p) b l) (lenG g) g.length from rfl)
  have HTL := Lib.hid (thinG_len g b l)
  clear ok
  go_enter Try.func46, Try.ntmps46
  go_wp2_with fail
  refine (l08Own_c a cap g _ h hs (fun j hj => (HLE.out j hj).1)).mono ?_
  rintro e w1 ⟨v, rfl, hown, hb1⟩
  obtain ⟨a1, c1, rfl, hga⟩ := hown.gridA
  obtain ⟨bo, r, cc, rfl, hgf⟩ := hga.gridF (by omega)
  have HF0 := Lib.hid (hgf.congr (f' := mixF (fun p => thinF (atG g p) b l) g 0 0) fun j _ k _ => mixF_zero _ _ _ _)
  have HB1 := Lib.hid hb1
  clear hown hga hgf hb1 h
  generalize hE : (fun p : Nat × Nat => thinF (atG g p) b l) = E at HF0 HT
  have HE := Lib.hid (fun k m => show thinF (nth (nthL g k) m) b l = E (k, m) by rw [← hE]; rfl)
  clear hE
  go_wp2
  go_loopw [8] (fun i wr => ∃ k : Nat, k ≤ g.length ∧ i = .int .i64 k ∧ GridF w.heap.size w1.heap.size wr bo r cc g (mixF E g k 0) ∧ Mid w.heap.size w1.heap.size w1 wr) (fun i _ => g.length - (intOf i).toNat)
  case atStart => exact ⟨0, Nat.zero_le _, rfl, HF0.out, Mid.refl _ _ _⟩
  case round =>
    obtain ⟨k, hk, rfl, hgf, hmd⟩ := hrel
    have HF := Lib.hid hgf
    have HM := Lib.hid hmd
    clear hgf hmd HF0
    by_cases hlt : k < g.length
    · have hrl := HLE.out k hlt
      obtain ⟨hc0, hrr, _⟩ := HF.out.2.1 k hlt
      obtain ⟨wo, hwo⟩ : ∃ wo : World, wo = wr := ⟨_, rfl⟩
      rw [← hwo] at HF HM hc0 ⊢
      clear hwo
      go_wp2_with fail
      clear hc0
      go_loopw [9] (fun i wr => ∃ m : Nat, m ≤ (nthL g k).length ∧ i = .int .i64 m ∧ GridF w.heap.size w1.heap.size wr bo r cc g (mixF E g k m) ∧ Mid w.heap.size w1.heap.size w1 wr) (fun i _ => (nthL g k).length - (intOf i).toNat)
      case atStart => exact ⟨0, Nat.zero_le _, rfl, HF.out, HM.out⟩
      case round =>
        obtain ⟨m, hm, rfl, hgf, hmd⟩ := hrel
        have HF2 := Lib.hid hgf
        have HM2 := Lib.hid hmd
        clear hgf hmd
        obtain ⟨hc0, -, hrc⟩ := HF2.out.2.1 k hlt
        by_cases hmt : m < (nthL g k).length
        · obtain ⟨d0, f0⟩ := hrc m hmt
          rw [mixF_at] at d0
          have hv := HV.out k hlt m hmt
          have HEK := Lib.hid (HE.out k m)
          clear hrc
          have j0 : (0 : Int) ≤ (k : Int) := by omega
          have j1 : (k : Int) < g.length := by omega
          have j2 : (0 : Int) ≤ (m : Int) := by omega
          have j3 : (m : Int) < (nthL g k).length := by omega
          have HFD := Lib.hid (HF2.out.below (by rw [HM2.out.size]; exact Nat.le_refl _) (Below.refl _ _).drew)
          have HMD := Lib.hid (HM2.out.drew)
          have d0' : wr.drew.cell? ⟨r k, m, none⟩ = some (.int .i64 (nth (nthL g k) m)) := d0
          have f0' : wr.drew.frozen? ⟨r k, m, none⟩ = false := f0
          go_wp2_with fail
          go_still_tail 16, (by kernel_rfl)
          still_call (to_still (l08Thin_c _ _ _ _ hv hb))
          repeat still_step
          refine wpStill_nil ?_
          change wpList _ _ _ _ _ wr.drew
          clear d0 f0 hc0 j0 j1 j2 j3
          generalize wr.drew = wd at HFD HMD d0' f0' ⊢
          have HN := Lib.hid (show GridF w.heap.size w1.heap.size (wd.setCell ⟨r k, m, none⟩ (.int .i64 (thinF (nth (nthL g k) m) b l))) bo r cc g (mixF E g k (m + 1)) by
            rw [HEK.out]; exact (HFD.out.set hlt hmt _).congr fun j _ q _ => mixF_step E g k m j q)
          have HMN := Lib.hid (HMD.out.setCell hrr.1 hrr.2.1 (p := ⟨r k, m, none⟩) (.int .i64 (thinF (nth (nthL g k) m) b l)))
          go_wp2
          go_roundw
          case rel => exact ⟨m + 1, by omega, by go_num, HN.out, HMN.out⟩
          case measure => simp [intOf]; omega
        · obtain rfl : m = (nthL g k).length := by omega
          have HN := Lib.hid (HF2.out.congr fun j _ q hq => mixF_row E g k j q hq)
          clear hrc
          go_wp2
          go_roundw
          case rel => exact ⟨k + 1, by omega, by go_num, HN.out, HM2.out⟩
          case measure => simp [intOf]; omega
    · obtain rfl : k = g.length := by omega
      have HN := Lib.hid (HF.out.congr (f' := fun i j => E (i, j)) fun j hj q _ => mixF_end E g j q hj)
      have hsz := HM.out.size
      have HBZ := Lib.hid (show Below w.heap.size w wr from HB1.out.trans HM.out.below)
      have HG := Lib.hid (show GridA w.heap.size wr.heap.size wr (some ⟨bo, 0, none⟩) (thinG g b l) by rw [HT.out, hsz]; exact HN.out.gridA)
      clear hsz
      go_wp2
      go_ret
      exact ⟨some ⟨bo, 0, none⟩, c1, by rw [HTL.out]; rfl, HG.out, HBZ.out⟩
end Go.Proofs.Ythhgepiccjndpaa
