/- The program's TooThin returns what the reference's returns, for all arguments. No condition. -/
import Derived.Test.YtejcglenjhkhhaaRows
import Derived.Test.YtejcglenjhkhhaaChosen
import Derived.Test.YtejcglenjhkhhaaThin
import Derived.OpenShut
import Derived.ChangeOld
import Derived.Lib.SmallJoins
namespace Go.Proofs.Ytejcglenjhkhhaa.lawTooThin
open Go.ChangeShapes Go.WideShapes Go.ChangeAt Go.RowKit
set_option linter.unusedVariables false

def thinB (g : List (List Int)) (l : Int) (p : Nat × Nat) : Bool := decide (atG g p < l)
def okB (g : List (List Int)) (l : Int) : Bool := gridB 1 200 g && inB l 1 200
def fZ (g : List (List Int)) (l : Int) : List (List Int) := if okB g l then chosenG g (thinB g l) else []
def fC (g : List (List Int)) (l : Int) : Int := if gridB 1 200 g then (if inB l 1 200 then 0 else 2) else 1
theorem f_small (g : List (List Int)) (l : Int) : Small (fZ g l) := by
  unfold fZ okB
  cases h : gridB 1 200 g
  · simp [Small, sumL]
  · cases inB l 1 200
    · simp [Small, sumL]
    · simpa using chosen_small (gridB_true h) (thinB g l)
theorem keep4c {w1 w2 : World} {b b0 b1 : Nat} {v0 v1 v2 v3 : Value} (d : w1.cell? ⟨b, 0, none⟩ = some v0 ∧ w1.cell? ⟨b, 1, none⟩ = some v1 ∧ w1.cell? ⟨b0, 0, none⟩ = some v2 ∧ w1.cell? ⟨b1, 0, none⟩ = some v3) (h : Below w1.heap.size w1 w2) :
    w2.cell? ⟨b, 0, none⟩ = some v0 ∧ w2.cell? ⟨b, 1, none⟩ = some v1 ∧ w2.cell? ⟨b0, 0, none⟩ = some v2 ∧ w2.cell? ⟨b1, 0, none⟩ = some v3 ∧ Below w1.heap.size w1 w2 :=
  ⟨cell_keep d.1 h, cell_keep d.2.1 h, cell_keep d.2.2.1 h, cell_keep d.2.2.2 h, h⟩
theorem thin2_c (p : Nat × Nat) (b0 b1 : Nat) (a : Option Addr) (cap : Nat) (g : List (List Int)) (l : Int) (W : World) (h : Grid W a g) (hs : Small g) (hp : p.1 < g.length ∧ p.2 < (nthL g p.1).length)
    (c0 : W.cell? ⟨b0, 0, none⟩ = some (.slice a g.length cap)) (c1 : W.cell? ⟨b1, 0, none⟩ = some (.int .i64 l)) :
    Calls Try.prog 80 #[.agg #[.int .i64 p.1, .int .i64 p.2], .pointer (some ⟨b0, 0, none⟩), .pointer (some ⟨b1, 0, none⟩)] W fun e W' => e = .returned (.bool (thinB g l p)) ∧ Below W.heap.size W W' := by
  have HA := Lib.hid (show Below W.heap.size W (W.alloc (.cells #[.int .i64 p.1, .int .i64 p.2] 67)) from (Below.refl _ _).alloc (Nat.le_refl _) _)
  have e0 : (W.alloc (.cells #[.int .i64 p.1, .int .i64 p.2] 67)).cell? ⟨W.heap.size, 0, none⟩ = some (.int .i64 p.1) := by go_cell
  have e1 : (W.alloc (.cells #[.int .i64 p.1, .int .i64 p.2] 67)).cell? ⟨W.heap.size, 1, none⟩ = some (.int .i64 p.2) := by go_cell
  have HQ := Lib.hid (And.intro e0 (And.intro e1 (And.intro (cell_keep c0 HA.out) (cell_keep c1 HA.out))))
  have HG := Lib.hid (h.below HA.out)
  have HF := Lib.hid (show thinB g l p = decide (atG g p < l) from rfl)
  clear h e0 e1 c0 c1
  go_enter Try.func80, Try.ntmps80
  go_wp2_with fail
  generalize W.alloc (.cells #[.int .i64 p.1, .int .i64 p.2] 67) = wA at HA HQ HG ⊢
  go_region_held3 (fun w' => w'.cell? ⟨W.heap.size, 0, none⟩ = some (.int .i64 p.1) ∧ w'.cell? ⟨W.heap.size, 1, none⟩ = some (.int .i64 p.2) ∧ w'.cell? ⟨b0, 0, none⟩ = some (.slice a g.length cap) ∧ w'.cell? ⟨b1, 0, none⟩ = some (.int .i64 l) ∧ Below wA.heap.size wA w')
    (first | exact keep4c HQ.out (Below.refl _ _).drew | exact keep4c HQ.out (below_next (Below.refl _ _).drew hb3) | go_keep)
    (first | (go_at_call 60; refine call_below (of_c _ _ g p _ ?_ hs hp.1 hp.2) ?_; (exact HG.out.below (Below.refl _ _).drew); intro w3 hb3))
  go_wp2
  go_ret
  exact ⟨by rw [HF.out]; rfl, below_next HA.out (below_next (Below.refl _ _).drew hb3)⟩

theorem i_c (a : Option Addr) (cap : Nat) (g : List (List Int)) (l : Int) (w : World) (h : Grid w a g) (hs : Small g) :
    Calls Try.prog 34 #[.slice a g.length cap, .int .i64 l] w fun e w' => ∃ a' cap', e = .returned (.tuple #[.slice a' (fZ g l).length cap', .int .i64 (fC g l)]) ∧ (GridA w.heap.size w'.heap.size w' a' (fZ g l) ∧ Below w.heap.size w w') := by
  have hmf : ∀ (fn : Fn) (first cap : Array Value) (w : World), (Instr.makeFunc fn first cap).run Try.prog w = .ok (.func fn first cap) w := fun _ _ _ _ => rfl
  have HA := Lib.hid (show Below w.heap.size w ((w.alloc (.cells #[.slice a g.length cap] 22)).alloc (.cells #[.int .i64 l] 2)) from ((Below.refl _ _).alloc (Nat.le_refl _) _).alloc (by simp) _)
  have e0 : ((w.alloc (.cells #[.slice a g.length cap] 22)).alloc (.cells #[.int .i64 l] 2)).cell? ⟨w.heap.size, 0, none⟩ = some (.slice a g.length cap) := by go_cell
  have e1 : ((w.alloc (.cells #[.slice a g.length cap] 22)).alloc (.cells #[.int .i64 l] 2)).cell? ⟨w.heap.size + 1, 0, none⟩ = some (.int .i64 l) := by go_cell
  have HQ := Lib.hid (And.intro e0 e1)
  rcases and2 (gridB 1 200 g) (inB l 1 200) with h1 | ⟨h1, h2⟩ | ⟨h1, h2⟩
  · go_enter Try.func34, Try.ntmps34
    go_wp2_with fail
    refine call_same (validPlate_c _ _ g _ (h.below HA.out) hs) ?_
    rw [h1]
    go_wp2
    go_ret2
    exact ⟨none, 0, by simp [fZ, fC, okB, h1], .inl (by simp [fZ, okB, h1]), HA.out⟩
  · go_enter Try.func34, Try.ntmps34
    go_wp2_with fail
    refine call_same (validPlate_c _ _ g _ (h.below HA.out) hs) ?_
    rw [h1]
    go_wp2_with fail
    refine call_same (isLeast_c _ _) ?_
    rw [h2]
    go_wp2
    go_ret2
    exact ⟨none, 0, by simp [fZ, fC, okB, h1, h2], .inl (by simp [fZ, okB, h1, h2]), HA.out⟩
  · have HZ := Lib.hid (show fZ g l = chosenG g (thinB g l) by simp [fZ, okB, h1, h2])
    have HC := Lib.hid (show fC g l = 0 by simp [fC, h1, h2])
    go_enter Try.func34, Try.ntmps34
    go_wp2_with fail
    refine call_same (validPlate_c _ _ g _ (h.below HA.out) hs) ?_
    rw [h1]
    go_wp2_with fail
    refine call_same (isLeast_c _ _) ?_
    rw [h2]
    go_wp2_with fail
    generalize (w.alloc (.cells #[.slice a g.length cap] 22)).alloc (.cells #[.int .i64 l] 2) = wA at HA HQ ⊢
    have HG := Lib.hid (h.below HA.out)
    clear e0 e1 h hmf h1 h2
    refine (chosen_thin a cap g w.heap.size (w.heap.size + 1) (thinB g l) wA HG.out hs ?_).mono ?_
    · intro p W h1 h2 hW
      exact thin2_c p _ _ a cap g l W (HG.out.below hW) hs ⟨h1, h2⟩ (cell_keep HQ.out.1 hW) (cell_keep HQ.out.2 hW)
    · rintro e w2 ⟨v, rfl, hown, hb2⟩
      obtain ⟨a', cap', rfl, hr⟩ := hown.gridA
      have HR := Lib.hid hr
      have HB2 := Lib.hid (below_next HA.out hb2)
      clear hown hr hb2
      go_wp2
      go_ret2
      exact ⟨a', cap', by rw [HZ.out, HC.out]; rfl, by rw [HZ.out]; exact HR.out.wide HA.out.size (Nat.le_refl _), HB2.out⟩
theorem own_new1b (w : World) (e : TypeId) (u : Value) (n : Nat) (hn : n = w.heap.size) : ∀ j x, [u][j]? = some x → (w.alloc (.cells #[u] e)).cell? ((⟨n, 0, none⟩ : Addr).add j) = some x := by
  subst hn
  exact own_new1 w e u
set_option maxRecDepth 100000 in
theorem s_c (a : Option Addr) (cap : Nat) (g : List (List Int)) (l : Int) (w : World) (h : Grid w a g) (hs : Small g) :
    Calls Try.prog 33 #[.slice a g.length cap, .int .i64 l] w fun e w' => ∃ a' cap', e = .returned (.tuple #[.slice a' (fZ g l).length cap', .int .i64 (fC g l)]) ∧ (GridA w.heap.size w'.heap.size w' a' (fZ g l) ∧ Below w.heap.size w w') := by
  have hn := hs.len
  rcases and2 (gridB 1 200 g) (inB l 1 200) with h1 | ⟨h1, h2⟩ | ⟨h1, h2⟩
  · go_enter Try.func33, Try.ntmps33
    go_wp2_with fail
    refine call_below (l08Ok_c _ _ g _ h hs) ?_
    rw [h1]
    intro w1 hb1
    go_wp2
    go_ret2
    exact ⟨none, 0, by simp [fZ, fC, okB, h1], .inl (by simp [fZ, okB, h1]), hb1⟩
  · go_enter Try.func33, Try.ntmps33
    go_wp2_with fail
    refine call_below (l08Ok_c _ _ g _ h hs) ?_
    rw [h1]
    intro w1 hb1
    go_wp2_with fail
    refine call_same (l08Thick_c _ _) ?_
    rw [h2]
    go_wp2
    go_ret2
    exact ⟨none, 0, by simp [fZ, fC, okB, h1, h2], .inl (by simp [fZ, okB, h1, h2]), hb1⟩
  · obtain ⟨j0', hj, hy0, hy1, hy2⟩ := info_parts infoS
    have HZ := Lib.hid (show fZ g l = pairsG ((plTo g g.length).filter (thinB g l)) by simp [fZ, okB, h1, h2, chosenG])
    have HC := Lib.hid (show fC g l = 0 by simp [fC, h1, h2])
    have HLN := Lib.hid (show ∀ k c, k < g.length → c ≤ (nthL g k).length → (pairsG ((plTo g k ++ rowPl k c).filter (thinB g l))).length ≤ 110 from fun k c hk hc => by
      have ok := gridB_true h1
      have h2 := sumL_le (m := 10) (fun j hj => (ok.len hj).2) k (by omega)
      have h3 := (ok.len hk).2
      have h4 := ok.rows
      unfold pairsG
      rw [List.length_map]
      refine Nat.le_trans (List.length_filter_le _ _) ?_
      rw [List.length_append, plTo_len, rowPl_len]
      omega)
    go_enter Try.func33, Try.ntmps33
    go_wp2_with fail
    refine call_below (l08Ok_c _ _ g _ h hs) ?_
    rw [h1]
    intro w1 hb1
    go_wp2_with fail
    refine call_same (l08Thick_c _ _) ?_
    rw [h2]
    have HG := Lib.hid (h.below hb1)
    have HB1 := Lib.hid hb1
    clear h hb1 h1 h2
    go_wp2
    go_loopw [6, 7] (fun v i wr => ∃ k : Nat, k ≤ g.length ∧ i = .int .i64 k ∧ OwnG w1.heap.size wr.heap.size wr v (pairsG ((plTo g k).filter (thinB g l))) ∧ Below w1.heap.size w1 wr) (fun _ i _ => g.length - (intOf i).toNat)
    case atStart => exact ⟨0, Nat.zero_le _, rfl, OwnG.start (World.ownsRow_made w1 #[] 0 (Nat.le_refl _) (Nat.zero_le _) rfl) (by simp) (Nat.le_refl _), (Below.refl _ _).alloc (Nat.le_refl _) _⟩
    case round =>
      obtain ⟨k, hk, rfl, hown, hbl⟩ := hrel
      have HO := Lib.hid hown
      have HL := Lib.hid hbl
      clear hown
      by_cases hlt : k < g.length
      · obtain ⟨b, o, rfl, hb, ar, cr, hc, hnu⟩ := (HG.out.below hbl).pos hlt
        have hrow := hs.row hlt
        clear hnu hbl
        obtain ⟨wo, hwo⟩ : ∃ wo : World, wo = wr := ⟨_, rfl⟩
        rw [← hwo] at HO HL hc hb ⊢
        clear hwo
        go_wp2_with fail
        clear hc
        go_loopw [6, 8] (fun v i wr => ∃ c : Nat, c ≤ (nthL g k).length ∧ i = .int .i64 c ∧ OwnG w1.heap.size wr.heap.size wr v (pairsG ((plTo g k ++ rowPl k c).filter (thinB g l))) ∧ Below w1.heap.size w1 wr) (fun _ i _ => (nthL g k).length - (intOf i).toNat)
        case atStart => exact ⟨0, Nat.zero_le _, rfl, by simpa [rowPl] using HO.out, HL.out⟩
        case round =>
          obtain ⟨c, hcl, rfl, hown, hbl⟩ := hrel
          have HO2 := Lib.hid hown
          have HL2 := Lib.hid hbl
          have HLEN := Lib.hid (HLN.out k c hlt hcl)
          clear hown
          obtain ⟨ak, ck, hc, hnu⟩ := (HG.out.below hbl).at_ hlt
          by_cases hct : c < (nthL g k).length
          · obtain ⟨b2, o2, rfl, hb2, hc2⟩ := hnu.pos hct
            have j0 : (0 : Int) ≤ (k : Int) := by omega
            have j1 : (k : Int) < (g.length : Int) := by omega
            have j2 : (0 : Int) ≤ (c : Int) := by omega
            have j3 : (c : Int) < ((nthL g k).length : Int) := by omega
            cases hE : thinB g l (k, c)
            · have HU := Lib.hid (show pairsG ((plTo g k ++ rowPl k (c + 1)).filter (thinB g l)) = pairsG ((plTo g k ++ rowPl k c).filter (thinB g l)) by
                rw [rowPl_succ, ← List.append_assoc, List.filter_append]; simp [hE])
              have hd : decide (nth (nthL g k) c < l) = false := hE
              have HX2 := Lib.hid (Below.refl wr.heap.size wr)
              clear hE hnu hbl
              go_wp2
              go_roundw
              case rel => exact ⟨c + 1, by omega, by go_num, by rw [HU.out]; exact (HO2.out.below (Nat.le_refl _) HX2.out).wide HX2.out.size, below_next HL2.out HX2.out⟩
              case measure => simp [intOf]; omega
            · have HU := Lib.hid (show pairsG ((plTo g k ++ rowPl k (c + 1)).filter (thinB g l)) = pairsG ((plTo g k ++ rowPl k c).filter (thinB g l)) ++ [[(k : Int), (c : Int)]] by
                rw [rowPl_succ, ← List.append_assoc, List.filter_append, ← pairs_snoc _ (k, c)]; simp [hE])
              have hd : decide (nth (nthL g k) c < l) = true := hE
              have HX2 := Lib.hid (Below.refl wr.heap.size wr)
              clear hE hnu hbl
              obtain ⟨wx, hwx⟩ : ∃ wx : World, wx = wr := ⟨_, rfl⟩
              rw [← hwx] at HX2 HO2 HL2 hc hc2 hb2 ⊢
              clear hwx
              have HBX := Lib.hid (show Below wx.heap.size wx (wx.alloc (.cells #[.int .i64 k, .int .i64 c] 2)) from (Below.refl _ _).alloc (Nat.le_refl _) _)
              have hz1 : (wx.alloc (.cells #[.int .i64 k, .int .i64 c] 2)).heap.size = wx.heap.size + 1 := by simp
              have hrc : RowC (wx.alloc (.cells #[.int .i64 k, .int .i64 c] 2)) wx.heap.size 2 (nth [(k : Int), (c : Int)]) := by
                intro j hj
                obtain rfl | rfl : j = 0 ∨ j = 1 := by omega
                · exact ⟨by rw [show nth [(k : Int), (c : Int)] 0 = k from rfl]; go_cell, by go_cell⟩
                · exact ⟨by rw [show nth [(k : Int), (c : Int)] 1 = c from rfl]; go_cell, by go_cell⟩
              obtain ⟨r, cc, hown, hnn, hrows, hdist, hv⟩ := ((HO2.out.below (Nat.le_refl _) HX2.out).wide HX2.out.size).below (Nat.le_refl _) HBX.out
              have HROW := Lib.hid (And.intro hrows (And.intro hdist (And.intro hv (And.intro hrc hz1))))
              have HOW := Lib.hid hown
              have HL4 := Lib.hid (below_next (below_next HL2.out HX2.out) HBX.out)
              have HZX := Lib.hid (below_next HL2.out HX2.out).size
              clear hrows hdist hv hown hnn hrc hz1
              go_wp2_with (at_builtin; refine wpList_append_own _ rfl _ _ 22 rfl w1.heap.size 32 j0' (.slice none 0 0) 1 24 Try.underlying22 hj hy0 hy1 hy2 rfl (by decide) _ _ _ rfl (HOW.out.alloc _) ⟨wx.heap.size + 1, 0, none⟩ 1 1 [.slice (some ⟨wx.heap.size, 0, none⟩) 2 2] rfl rfl (own_new1b _ _ _ _ (by simp)) ?d2 ?d3 ?d4 ?d5 ?_)
              case d2 => (first | rfl | (intro u hu; simp at hu; subst hu; rfl))
              case d3 => have := HLEN.out; unfold maxLen; omega
              case d4 => have := HLEN.out; omega
              case d5 => have := HZX.out; simp; omega
              · intro v' w5 hown' hgrow hnil
                have hz4 := HZX.out
                have HB5 := Lib.hid (show Below w1.heap.size w1 w5 from below_grown (HL4.out.alloc (by simp; omega) _) (by simp; omega) hgrow fun q hq => (HOW.out.lt q hq).1)
                have HXX := Lib.hid (show OwnG w1.heap.size w5.heap.size w5 v' (pairsG ((plTo g k ++ rowPl k (c + 1)).filter (thinB g l))) by
                  rw [HU.out]
                  exact own_push HOW.out HROW.out.1 HROW.out.2.1 HROW.out.2.2.1 (by omega) (by omega) (by simp) (by simp) HROW.out.2.2.2.1 (by have h9 := hown'; rw [← List.filter_append] at h9; exact h9) hgrow hnil)
                clear hown' hgrow hnil
                go_wp2
                go_roundw
                case rel => exact ⟨c + 1, by omega, by go_num, HXX.out, HB5.out⟩
                case measure => simp [intOf]; omega
          · obtain rfl : c = (nthL g k).length := by omega
            clear hnu hbl
            go_wp2
            go_roundw
            case rel => exact ⟨k + 1, by omega, by go_num, HO2.out, HL2.out⟩
            case measure => simp [intOf]; omega
      · obtain rfl : k = g.length := by omega
        clear hbl
        go_wp2
        go_ret2
        obtain ⟨a', cap', rfl, hr⟩ := HO.out.gridA
        exact ⟨a', cap', by rw [HZ.out, HC.out]; rfl, by rw [HZ.out]; exact hr.wide HB1.out.size (Nat.le_refl _), below_next HB1.out HL.out⟩
set_option maxRecDepth 100000 in
set_option maxHeartbeats 1000000 in
theorem walk (a0 : Option Addr) (cap0 : Nat) (z0 : List (List Int)) (m1 : Int) (w : World) (h0 : Grid w a0 z0) (hm0 : z0.length ≤ maxLen) (hr0 : ∀ j, j < z0.length → (nthL z0 j).length ≤ maxLen) (_ : (Lit.int .i64 m1).wf = true) :
    Calls Try.prog 8 #[.slice a0 z0.length cap0, .int .i64 m1] w fun e w' => e = .returned (.bool true) ∧ Below w.heap.size w w' := by
  have hZ := f_small z0 m1
  have HZ := Lib.hid hZ
  clear hZ
  by_cases hn0 : ((z0.length + sumL z0 z0.length : Nat) : Int) ≤ 1048576
  rotate_left
  · have HN0 := Lib.hid hn0
    clear hn0
    go_enter Try.func8, Try.ntmps8
    go_wp2_with fail
    refine call_same (szInt64SS_c a0 cap0 z0 _ _ h0 hm0 hr0 (by omega) (by omega)) ?_
    rw [szF_no]
    rotate_left
    · have := HN0.out; omega
    go_wp2
    go_ret
    exact ⟨rfl, Below.refl _ _⟩
  have hS0 : Small z0 := by unfold Small; omega
  have HN0 := Lib.hid hn0
  have HS0 := Lib.hid hS0
  have hq0 : (z0.length : Int) + (sumL z0 z0.length : Int) ≤ 1048576 := by omega
  clear hn0 hS0
  go_enter Try.func8, Try.ntmps8
  go_wp2_with fail
  refine call_same (szInt64SS_c a0 cap0 z0 _ _ h0 hm0 hr0 (by omega) (by omega)) ?_
  rw [szF_yes]
  rotate_left
  · have := HN0.out; omega
  go_wp2_with fail
  refine call_pred (toInt64SS_c a0 cap0 z0 _ h0 HS0.out) ?_
  rintro w1 ⟨r1, b1⟩
  have HA1 := Lib.hid b1
  have HY1 := Lib.hid (Laid.grid r1)
  clear r1 b1
  go_wp2_with fail
  refine (s_c _ _ z0 m1 _ HY1.out HS0.out).mono ?_
  rintro e2 w2 ⟨a2, c2, rfl, r2, b2⟩
  have HA2 := Lib.hid (below_next HA1.out b2)
  have HW2 := Lib.hid r2.grid
  clear r2 b2 HY1
  go_wp2_with fail
  refine call_pred (toInt64SS_c a0 cap0 z0 _ (h0.below HA2.out) HS0.out) ?_
  rintro w3 ⟨r3, b3⟩
  have HA3 := Lib.hid (below_next HA2.out b3)
  have HB3 := Lib.hid b3
  have HX3 := Lib.hid (Laid.gridA r3)
  have HC3 := Lib.hid (Nat.le_refl w3.heap.size)
  clear r3 b3
  go_wp2_with fail
  refine (i_c _ _ z0 m1 _ HX3.out.grid HS0.out).mono ?_
  rintro e4 w4 ⟨a4, c4, rfl, r4, b4⟩
  have HA4 := Lib.hid (below_next HA3.out b4)
  have HB4 := Lib.hid (below_next HB3.out b4)
  have HX4 := Lib.hid (HX3.out.below HC3.out b4)
  have HC4 := Lib.hid (Nat.le_trans HC3.out b4.size)
  have HG4 := Lib.hid r4
  have HD4 := Lib.hid (Nat.le_refl w4.heap.size)
  clear r4 b4
  go_wp2_with fail
  refine call_below (eqInt64SS_c a4 a2 _ _ (fZ z0 m1) _ HG4.out.grid (HW2.out.below HB4.out) HZ.out) ?_
  intro w5 b5
  have HA5 := Lib.hid (below_next HA4.out b5)
  have HB5 := Lib.hid (below_next HB4.out b5)
  have HX5 := Lib.hid (HX4.out.below HC4.out b5)
  have HG5 := Lib.hid (HG4.out.below HD4.out b5)
  have HC5 := Lib.hid (Nat.le_trans HC4.out b5.size)
  have HD5 := Lib.hid (Nat.le_trans HD4.out b5.size)
  clear b5
  go_wp2_with fail
  refine call_pred (toInt64SS_c a0 cap0 z0 _ (h0.below HA5.out) HS0.out) ?_
  rintro w6 ⟨r6, b6⟩
  have HA6 := Lib.hid (below_next HA5.out b6)
  have HB6 := Lib.hid (below_next HB5.out b6)
  have HX6 := Lib.hid (HX5.out.below HC5.out b6)
  have HG6 := Lib.hid (HG5.out.below HD5.out b6)
  have HC6 := Lib.hid (Nat.le_trans HC5.out b6.size)
  have HD6 := Lib.hid (Nat.le_trans HD5.out b6.size)
  have HY6 := Lib.hid (Laid.grid r6)
  clear r6 b6
  go_wp2_with fail
  refine call_below (eqInt64SS_c _ _ _ _ z0 _ HX6.out.grid HY6.out HS0.out) ?_
  intro w7 b7
  have HA7 := Lib.hid (below_next HA6.out b7)
  have HB7 := Lib.hid (below_next HB6.out b7)
  have HX7 := Lib.hid (HX6.out.below HC6.out b7)
  have HG7 := Lib.hid (HG6.out.below HD6.out b7)
  have HC7 := Lib.hid (Nat.le_trans HC6.out b7.size)
  have HD7 := Lib.hid (Nat.le_trans HD6.out b7.size)
  clear b7 HY6
  go_wp2_with fail
  refine call_pred (markInt64SS_c _ _ _ _ z0 1 _ HX7.out HS0.out (by omega) (by omega)) ?_
  rintro w8 ⟨r8, md8⟩
  have HA8 := Lib.hid (HA7.out.trans (md8.below.mono HA2.out.size))
  have HB8 := Lib.hid (HB7.out.trans (md8.below))
  have HG8 := Lib.hid (HG7.out.mid md8 (.inl (Nat.le_refl _)))
  have HC8 := Lib.hid (Nat.le_trans HC7.out (Nat.le_of_eq md8.size.symm))
  have HD8 := Lib.hid (Nat.le_trans HD7.out (Nat.le_of_eq md8.size.symm))
  clear md8 HX3 HX4 HX5 HX6 HX7 r8
  go_wp2_with fail
  refine call_below (eqInt64SS_c a4 a2 _ _ (fZ z0 m1) _ HG8.out.grid (HW2.out.below HB8.out) HZ.out) ?_
  intro w9 b9
  have HA9 := Lib.hid (below_next HA8.out b9)
  have HB9 := Lib.hid (below_next HB8.out b9)
  have HG9 := Lib.hid (HG8.out.below HD8.out b9)
  have HC9 := Lib.hid (Nat.le_trans HC8.out b9.size)
  have HD9 := Lib.hid (Nat.le_trans HD8.out b9.size)
  clear b9
  go_wp2_with fail
  refine call_pred (markInt64SS_c _ _ a4 _ (fZ z0 m1) 1 _ HG9.out HZ.out (by omega) (by omega)) ?_
  rintro w10 ⟨r10, md10⟩
  have HA10 := Lib.hid (HA9.out.trans (md10.below.mono HA3.out.size))
  have HB10 := Lib.hid (HB9.out.trans (md10.below.mono HB3.out.size))
  have HC10 := Lib.hid (Nat.le_trans HC9.out (Nat.le_of_eq md10.size.symm))
  have HD10 := Lib.hid (Nat.le_trans HD9.out (Nat.le_of_eq md10.size.symm))
  have HG10 := Lib.hid r10
  clear r10 md10
  go_wp2_with fail
  refine call_same (heldInt64SS_c a4 _ 1 (fZ z0 m1) _ HG10.out.grid HZ.out (by omega) (by omega)) ?_
  go_wp2_with fail
  refine call_pred (toInt64SS_c a0 cap0 z0 _ (h0.below HA10.out) HS0.out) ?_
  rintro w11 ⟨r11, b11⟩
  have HA11 := Lib.hid (below_next HA10.out b11)
  have HB11 := Lib.hid (below_next HB10.out b11)
  have HG11 := Lib.hid (HG10.out.below HD10.out b11)
  have HC11 := Lib.hid (Nat.le_trans HC10.out b11.size)
  have HD11 := Lib.hid (Nat.le_trans HD10.out b11.size)
  have HY11 := Lib.hid (Laid.grid r11)
  clear r11 b11
  go_wp2_with fail
  refine (i_c _ _ z0 m1 _ HY11.out HS0.out).mono ?_
  rintro e12 w12 ⟨a12, c12, rfl, r12, b12⟩
  have HA12 := Lib.hid (below_next HA11.out b12)
  have HB12 := Lib.hid (below_next HB11.out b12)
  have HG12 := Lib.hid (HG11.out.below HD11.out b12)
  have HC12 := Lib.hid (Nat.le_trans HC11.out b12.size)
  have HD12 := Lib.hid (Nat.le_trans HD11.out b12.size)
  have HH12 := Lib.hid r12.grid
  clear r12 b12
  go_wp2_with fail
  refine call_below (eqInt64SS_c a12 a2 _ _ (fZ z0 m1) _ HH12.out (HW2.out.below HB12.out) HZ.out) ?_
  intro w13 b13
  have HA13 := Lib.hid (below_next HA12.out b13)
  have HB13 := Lib.hid (below_next HB12.out b13)
  have HG13 := Lib.hid (HG12.out.below HD12.out b13)
  have HC13 := Lib.hid (Nat.le_trans HC12.out b13.size)
  have HD13 := Lib.hid (Nat.le_trans HD12.out b13.size)
  clear b13
  go_wp2_with fail
  refine call_same (heldInt64SS_c a4 _ 1 (fZ z0 m1) _ HG13.out.grid HZ.out (by omega) (by omega)) ?_
  go_wp2
  go_ret
  exact ⟨rfl, HA13.out⟩

theorem own : ownKnob Try.prog.godebug = none := by kernel_rfl
theorem laidOut : laidOutB Try.prog = true := by kernel_rfl
set_option maxRecDepth 100000 in
theorem lifted (os : Os) (started : os.Started) (H : Type) (enc : TypeId × Value → H) :
    ReturnsInHanded {} Try.checked os 8 .any (Rows.fnExactTooThinSpec.pre6 enc Try.prog Try.f8 Rows.fnExactTooThinRow.domain false) (Rows.fnExactTooThinSpec.post enc Try.prog Try.f8 false true false false) := by
  refine returnsInHanded_of_change (C := Try.checked) own started (by kernel_rfl) Try.func8
    (ChangeSpec.witness6 (enc := enc) (C := Try.checked) false ⟨#[], #[.slice none 0 0, .int .i64 0], []⟩ 8 (by kernel_rfl) (by kernel_rfl) (by kernel_rfl) (by kernel_rfl)) ?_
  intro W base args ds gs before hval0 hW hcnd _
  have hval : ∀ (j : Nat) t v, Try.f8.params[j]? = some t → args[j]? = some v → Value.okWide Try.prog W .any base t v := hval0
  have hW' := hW
  obtain ⟨p, q, hA0, hV, rfl, hfz, hnd⟩ := hW
  have hA : DataW.TrodAll enc Try.prog W 0 (fun _ => true) true Try.f8.params.toList args.toList ds p := hA0
  rw [Try.params8] at hA hval
  obtain ⟨v0, vs0, d0, ds0, p0, q0, hargs, rfl, rfl, h0, r0⟩ := trodAll_cons hA
  obtain ⟨v1, vs1, d1, ds1, p1, q1, rfl, rfl, rfl, h1, r1⟩ := trodAll_cons r0
  obtain ⟨rfl, rfl, rfl⟩ := trodAll_nil r1
  obtain rfl : args = #[v0, v1] := by cases args; simp_all
  obtain ⟨rfl, rfl⟩ := trodVars_none hV
  have k0 := h0
  have lt0 : ∀ x ∈ p0, x.block < W.heap.size := by obtain ⟨m, hm⟩ := k0; exact DataW.trod_lt m _ _ _ hm
  obtain ⟨a0, len0, cap0, rfl⟩ := okWide_slice Try.underlying22 (hval 0 22 v0 rfl rfl)
  obtain ⟨z0, rfl, w0, m0, f0⟩ : ∃ g : List (List Int), g.length = len0 ∧ Grid W a0 g ∧ g.length ≤ maxLen ∧ ∀ j, j < g.length → (nthL g j).length ≤ maxLen := by
    obtain ⟨fuel, hf⟩ := h0
    exact grid_open Try.underlying22 Try.underlying32 Try.underlying2 (by kernel_rfl) (by kernel_rfl) hf
  have k1 := h1
  have lt1 : ∀ x ∈ p1, x.block < W.heap.size := by obtain ⟨m, hm⟩ := k1; exact DataW.trod_lt m _ _ _ hm
  obtain ⟨a1, rfl, rfl, rfl, w1⟩ := open_int Try.underlying2 (hval 1 2 v1 rfl rfl) h1
  clear hA0 hval0
  refine (walk a0 cap0 z0 a1 W w0 m0 f0 w1).mono fun e W' ⟨he, bel⟩ => ?_
  subst he
  exact ⟨_, rfl, _, _, _, [], _, [], hW', trodAll_mk1 (shut_bool Try.underlying4 _), (trodAll_cons_mk (Below.trod laidOut (by kernel_rfl) (of_decide_eq_true (by kernel_rfl)) k0 bel lt0) (trodAll_cons_mk (Below.trod laidOut (by kernel_rfl) (of_decide_eq_true (by kernel_rfl)) k1 bel lt1) trodAll_mk0)), rfl, bel.frame _, fun h => by cases h⟩

theorem over : Rows.fnExactTooThinRow.holds Try.pinned (OpenSpec.ofChange Rows.fnExactTooThinSpec) :=
  OpenClaim.holds_of_wide 8 Try.f8 rfl rfl rfl rfl rfl rfl rfl ⟨rfl, rfl, rfl, rfl, rfl⟩ rfl rfl rfl rfl rfl (by kernel_rfl) Try.func8 (by kernel_rfl)
    (of_decide_eq_true (by kernel_rfl)) (by unfold Func.isWrapper; first | (rw [if_pos (by decide +kernel)]; kernel_rfl) | (rw [if_neg (by decide +kernel)]; exact ⟨rfl, rfl⟩))
    (fun os started H enc _ => lifted os started H enc)

/-- THE STATEMENT. -/
theorem proved : Rows.FnExactTooThinSaid := over
#print axioms proved
end Go.Proofs.Ytejcglenjhkhhaa.lawTooThin
