/- The hollow under an arch, and the places that are too thin: what the program's functions answer. -/
import Derived.Test.YtlenihncfhemkaaWood
import Derived.Test.YtlenihncfhemkaaChosen
import Derived.Test.YtlenihncfhemkaaMapThin
namespace Go.Proofs.Ytlenihncfhemkaa
open Go.RowKit Go.ChangeShapes Go.WideShapes
set_option linter.unusedVariables false

theorem cellKeep {w w' : World} {b o : Nat} {v : Value} (h : w.cell? ⟨b, o, none⟩ = some v) (hb : Below w.heap.size w w') : w'.cell? ⟨b, o, none⟩ = some v := (hb.cell (World.block_lt_of_cell? w _ h)).trans h
theorem keep4h {w1 w2 : World} {b b0 b1 : Nat} {v0 v1 v2 v3 : Value} (d : w1.cell? ⟨b, 0, none⟩ = some v0 ∧ w1.cell? ⟨b, 1, none⟩ = some v1 ∧ w1.cell? ⟨b0, 0, none⟩ = some v2 ∧ w1.cell? ⟨b1, 0, none⟩ = some v3) (h : Below w1.heap.size w1 w2) :
    w2.cell? ⟨b, 0, none⟩ = some v0 ∧ w2.cell? ⟨b, 1, none⟩ = some v1 ∧ w2.cell? ⟨b0, 0, none⟩ = some v2 ∧ w2.cell? ⟨b1, 0, none⟩ = some v3 ∧ Below w1.heap.size w1 w2 :=
  ⟨cellKeep d.1 h, cellKeep d.2.1 h, cellKeep d.2.2.1 h, cellKeep d.2.2.2 h, h⟩
theorem keep5h {w1 w2 : World} {b b0 b1 b2 : Nat} {v0 v1 v2 v3 v4 : Value} (d : w1.cell? ⟨b, 0, none⟩ = some v0 ∧ w1.cell? ⟨b, 1, none⟩ = some v1 ∧ w1.cell? ⟨b0, 0, none⟩ = some v2 ∧ w1.cell? ⟨b1, 0, none⟩ = some v3 ∧ w1.cell? ⟨b2, 0, none⟩ = some v4) (h : Below w1.heap.size w1 w2) :
    w2.cell? ⟨b, 0, none⟩ = some v0 ∧ w2.cell? ⟨b, 1, none⟩ = some v1 ∧ w2.cell? ⟨b0, 0, none⟩ = some v2 ∧ w2.cell? ⟨b1, 0, none⟩ = some v3 ∧ w2.cell? ⟨b2, 0, none⟩ = some v4 ∧ Below w1.heap.size w1 w2 :=
  ⟨cellKeep d.1 h, cellKeep d.2.1 h, cellKeep d.2.2.1 h, cellKeep d.2.2.2.1 h, cellKeep d.2.2.2.2 h, h⟩
/-- The height of the hollow at a place. -/
def holF (g : List (List Int)) (l : Int) (p : Nat × Nat) : Int := atG g p - l
def holG (g : List (List Int)) (l : Int) : List (List Int) := gridG (holF g l) (lenG g) g.length
theorem holG_len (g : List (List Int)) (l : Int) : (holG g l).length = g.length := gridG_len _ _ _
theorem holG_small {lo hi : Int} {g : List (List Int)} {l : Int} (ok : GridOk lo hi g) : Small (holG g l) := gridG_small ok.rows.2 fun i hi => (ok.len hi).2
theorem holG_row {g : List (List Int)} {l : Int} {j : Nat} (hj : j < g.length) : (nthL (holG g l) j).length = (nthL g j).length := by unfold holG; rw [gridG_nth hj, rowG_len]; rfl
theorem holG_at {g : List (List Int)} {l : Int} {p : Nat × Nat} (h1 : p.1 < g.length) (h2 : p.2 < (nthL g p.1).length) : atG (holG g l) p = atG g p - l := by
  show nth (nthL (holG g l) p.1) p.2 = _
  unfold holG
  rw [gridG_nth h1]
  exact rowG_nth (F := holF g l) h2
/-- The hollow's heights lie in the range just where none of the arch's is less than the thickness. -/
theorem holG_ok {g : List (List Int)} {l : Int} (h : gridB 0 1000 g = true) (hl : 0 ≤ l) : gridB 0 1000 (holG g l) = true ↔ ∀ i, i < g.length → ∀ k, k < (nthL g i).length → l ≤ nth (nthL g i) k := by
  have ok := gridB_true h
  have hrows := ok.rows
  have hcols := ok.cols
  constructor
  · intro hh i hi k hk
    have := (gridB_true hh).range i (by rw [holG_len]; exact hi) k (by rw [holG_row hi]; exact hk)
    have e : nth (nthL (holG g l) i) k = nth (nthL g i) k - l := holG_at (p := (i, k)) hi hk
    omega
  · intro hh
    refine gridB_rows (by rw [holG_len]; exact decide_eq_true ⟨by omega, by omega⟩) fun j hj => ?_
    rw [holG_len] at hj
    have hlj := ok.len hj
    refine ⟨by rw [holG_row hj]; omega, by rw [holG_row hj, holG_row (by omega)]; exact ok.same j hj, ?_⟩
    rw [List.all_eq_true]
    intro x hx
    obtain ⟨k, hk, rfl⟩ := List.getElem_of_mem hx
    have hk' : k < (nthL g j).length := by rw [← holG_row (l := l) hj]; exact hk
    have e : nth (nthL (holG g l) j) k = nth (nthL g j) k - l := holG_at (p := (j, k)) hj hk'
    have h1 := hh j hj k hk'
    have h2 := ok.range j hj k hk'
    have e2 : (nthL (holG g l) j)[k] = nth (nthL g j) k - l := by rw [← e]; simp [nth, hk]
    rw [e2]
    exact decide_eq_true ⟨by omega, by omega⟩

theorem hollow1_c (p : Nat × Nat) (b0 b1 : Nat) (a : Option Addr) (cap : Nat) (g : List (List Int)) (l : Int) (W : World) (h : Grid W a g) (hs : Small g) (hp : p.1 < g.length ∧ p.2 < (nthL g p.1).length) (hv : 0 ≤ atG g p ∧ atG g p ≤ 1000) (hl : 0 ≤ l ∧ l ≤ 1000)
    (c0 : W.cell? ⟨b0, 0, none⟩ = some (.slice a g.length cap)) (c1 : W.cell? ⟨b1, 0, none⟩ = some (.int .i64 l)) :
    Calls Try.prog 33 #[.agg #[.int .i64 p.1, .int .i64 p.2], .pointer (some ⟨b0, 0, none⟩), .pointer (some ⟨b1, 0, none⟩)] W fun e W' => e = .returned (.int .i64 (holF g l p)) ∧ Below W.heap.size W W' := by
  have HA := Lib.hid (show Below W.heap.size W (W.alloc (.cells #[.int .i64 p.1, .int .i64 p.2] 43)) from (Below.refl _ _).alloc (Nat.le_refl _) _)
  have e0 : (W.alloc (.cells #[.int .i64 p.1, .int .i64 p.2] 43)).cell? ⟨W.heap.size, 0, none⟩ = some (.int .i64 p.1) := by go_cell
  have e1 : (W.alloc (.cells #[.int .i64 p.1, .int .i64 p.2] 43)).cell? ⟨W.heap.size, 1, none⟩ = some (.int .i64 p.2) := by go_cell
  have HQ := Lib.hid (And.intro e0 (And.intro e1 (And.intro (cellKeep c0 HA.out) (cellKeep c1 HA.out))))
  have HG := Lib.hid (h.below HA.out)
  have HF := Lib.hid (show holF g l p = atG g p - l from rfl)
  have q1 := IntWalk.i64_in (atG g p - l) (by omega)
  clear h e0 e1 c0 c1
  go_enter Try.func33, Try.ntmps33
  go_wp2_with fail
  generalize W.alloc (.cells #[.int .i64 p.1, .int .i64 p.2] 43) = wA at HA HQ HG ⊢
  go_region_held3 (fun w' => w'.cell? ⟨W.heap.size, 0, none⟩ = some (.int .i64 p.1) ∧ w'.cell? ⟨W.heap.size, 1, none⟩ = some (.int .i64 p.2) ∧ w'.cell? ⟨b0, 0, none⟩ = some (.slice a g.length cap) ∧ w'.cell? ⟨b1, 0, none⟩ = some (.int .i64 l) ∧ Below wA.heap.size wA w')
    (first | exact keep4h HQ.out (Below.refl _ _).drew | exact keep4h HQ.out (below_next (Below.refl _ _).drew hb3) | go_keep)
    (first | (go_at_call 22; refine call_below (of_c _ _ g p _ ?_ hs hp.1 hp.2) ?_; (exact HG.out.below (Below.refl _ _).drew); intro w3 hb3))
  go_wp2
  go_ret
  exact ⟨by rw [HF.out]; rfl, below_next HA.out (below_next (Below.refl _ _).drew hb3)⟩
/-- The program's mapped, with this closure: what it hands back is the grid of the closure's answers. -/
theorem mapped_hollow (a : Option Addr) (cap : Nat) (g : List (List Int)) (b0 b1 : Nat) (E : Nat × Nat → Int) (w : World) (h : Grid w a g) (hs : Small g) (hne : ∀ j, j < g.length → 1 ≤ (nthL g j).length)
    (hF : ∀ (p : Nat × Nat) (W : World), p.1 < g.length → p.2 < (nthL g p.1).length → Below w.heap.size w W → Calls Try.prog 33 #[.agg #[.int .i64 p.1, .int .i64 p.2], .pointer (some ⟨b0, 0, none⟩), .pointer (some ⟨b1, 0, none⟩)] W fun e W' => e = .returned (.int .i64 (E p)) ∧ Below W.heap.size W W') :
    Calls Try.prog 28 #[.slice a g.length cap, .func (.func 33) #[] #[.pointer (some ⟨b0, 0, none⟩), .pointer (some ⟨b1, 0, none⟩)]] w fun e w' => ∃ v, e = .returned v ∧ (OwnG w.heap.size w'.heap.size w' v (gridG E (lenG g) g.length) ∧ Below w.heap.size w w') := by
  obtain ⟨i0, hi, hz0, hz1, hz2⟩ := info_parts infoI'
  obtain ⟨j0, hj, hy0, hy1, hy2⟩ := info_parts infoS
  have hn := hs.len
  have HF := Lib.hid hF
  have HNE := Lib.hid hne
  clear hF hne
  go_enter Try.func28, Try.ntmps28
  go_wp2
  go_loopw [5, 13] (fun v i wr => ∃ k : Nat, k ≤ g.length ∧ i = .int .i64 k ∧ OwnG w.heap.size wr.heap.size wr v (gridG E (lenG g) k) ∧ Below w.heap.size w wr) (fun _ i _ => g.length - (intOf i).toNat)
  case atStart => exact ⟨0, Nat.zero_le _, rfl, OwnG.start (World.ownsRow_made w #[] 0 (Nat.le_refl _) (Nat.zero_le _) rfl) (by simp) (Nat.le_refl _), (Below.refl _ _).alloc (Nat.le_refl _) _⟩
  case round =>
    obtain ⟨k, hk, rfl, hown, hbl⟩ := hrel
    have HO := Lib.hid hown
    have HL := Lib.hid hbl
    by_cases hlt : k < g.length
    · obtain ⟨b, o, rfl, hb, ar, cr, hc, hnu⟩ := (h.below hbl).pos hlt
      have hrow := hs.row hlt
      have hne := HNE.out k hlt
      have HE := Lib.hid (gridG_succ E (lenG g) k)
      have HLN := Lib.hid (gridG_len E (lenG g) k)
      clear hown hbl h hnu
      obtain ⟨wo, hwo⟩ : ∃ wo : World, wo = wr := ⟨_, rfl⟩
      rw [← hwo] at HO HL hc hb ⊢
      clear hwo
      go_wp2_with fail
      go_loopw [8, 21] (fun v i wi => ∃ c : Nat, c ≤ (nthL g k).length ∧ i = .int .i64 c ∧ OwnI wo.heap.size wi v (rowG E k c) ∧ Below wo.heap.size wo wi) (fun _ i _ => (nthL g k).length - (intOf i).toNat)
      case atStart => exact ⟨0, Nat.zero_le _, rfl, ⟨World.ownsRow_made wo #[] 0 (Nat.le_refl _) (Nat.zero_le _) rfl, by simp⟩, (Below.refl _ _).alloc (Nat.le_refl _) _⟩
      case round =>
        clear hc
        obtain ⟨c, hcl, rfl, hown, hbl⟩ := hrel
        have HO2 := Lib.hid hown
        have HL2 := Lib.hid hbl
        have HE2 := Lib.hid (rowG_succ E k c)
        have HN2 := Lib.hid (rowG_len E k c)
        clear hown hbl
        by_cases hct : c < (nthL g k).length
        · go_wp2_with fail
          refine call_below (HF.out (k, c) _ hlt hct (below_next HL.out HL2.out)) ?_
          intro w3 hb3
          have HO3 := Lib.hid (HO2.out.below hb3)
          have HL3 := Lib.hid (below_next HL2.out hb3)
          clear hb3
          go_wp2_with (at_builtin; refine wpList_append_own _ rfl _ _ 26 rfl wo.heap.size 2 i0 (.int .i64 0) 1 8 Try.underlying26 hi hz0 hz1 hz2 rfl (by decide) _ _ _ rfl (HO3.out.1.alloc _) ⟨w3.heap.size, 0, none⟩ 1 1 [.int .i64 (E (k, c))] rfl rfl (own_new1 _ _ _) ?c2 ?c3 ?c4 ?c5 ?_)
          case c2 => (first | rfl | (intro u hu; simp at hu; subst hu; rfl))
          case c3 => have := HN2.out; unfold maxLen; omega
          case c4 => have := HN2.out; omega
          case c5 => have := HL3.out.size; simp; omega
          · intro v' w4 hown' hgrow hnil
            have hb1 : Below wo.heap.size wo w4 := below_grown (HL3.out.alloc HL3.out.size _) (by have := HL3.out.size; simp; omega) hgrow fun q hq => HO3.out.lt q hq
            have HX := Lib.hid (show OwnI wo.heap.size w4 v' (rowG E k (c + 1)) by rw [HE2.out]; exact OwnI.snoc hown' hnil)
            have HY := Lib.hid hb1
            clear hown' hgrow hnil hb1
            go_wp2
            go_roundw
            case rel => exact ⟨c + 1, by omega, by go_num, HX.out, HY.out⟩
            case measure => simp [intOf]; omega
        · obtain rfl : c = (nthL g k).length := by omega
          obtain ⟨br, cr', rfl, hbr0, hbr1, hnu⟩ := HO2.out.form
          have hro := HO2.out.1
          have hrc : RowC wr br (rowG E k (nthL g k).length).length (nth (rowG E k (nthL g k).length)) := own_rowC HO2.out
          obtain ⟨r, cc, hown, hnn, hrows, hdist, hv⟩ := HO.out.below (Nat.le_refl _) HL2.out
          have HROW := Lib.hid (And.intro hrows (And.intro hdist (And.intro hv hrc)))
          have HOW := Lib.hid hown
          have HNU := Lib.hid hnu
          clear hro hrc hrows hdist hv hown hnu hnn
          go_wp2_with (at_builtin; refine wpList_append_own _ rfl _ _ 24 rfl w.heap.size 26 j0 (.slice none 0 0) 1 24 Try.underlying24 hj hy0 hy1 hy2 rfl (by decide) _ _ _ rfl (HOW.out.alloc _) ⟨wr.heap.size, 0, none⟩ 1 1 [.slice (some ⟨br, 0, none⟩) (rowG E k (nthL g k).length).length cr'] rfl rfl (own_new1 _ _ _) ?d2 ?d3 ?d4 ?d5 ?_)
          case d2 => (first | rfl | (intro u hu; simp at hu; subst hu; rfl))
          case d3 => have := HLN.out; unfold maxLen; omega
          case d4 => have := HLN.out; omega
          case d5 => have := HL.out.size; have := HL2.out.size; simp; omega
          · intro v' w4 hown' hgrow hnil
            have hsz1 := HL.out.size
            have hsz2 := HL2.out.size
            have hb1 : Below w.heap.size w w4 := below_grown ((below_next HL.out HL2.out).alloc (by omega) _) (by simp; omega) hgrow fun q hq => (HOW.out.lt q hq).1
            have HX := Lib.hid (show OwnG w.heap.size w4.heap.size w4 v' (gridG E (lenG g) (k + 1)) by
              rw [HE.out]
              exact own_push HOW.out HROW.out.1 HROW.out.2.1 HROW.out.2.2.1 hbr0 (by omega) hbr1 (by rw [rowG_len]; exact hne) HROW.out.2.2.2 hown' hgrow hnil)
            have HY := Lib.hid hb1
            clear hown' hgrow hnil hb1
            go_wp2
            go_roundw
            case rel => exact ⟨k + 1, by omega, by go_num, HX.out, HY.out⟩
            case measure => simp [intOf]; omega
    · obtain rfl : k = g.length := by omega
      clear hown
      go_wp2
      go_ret
      exact ⟨_, rfl, HO.out, HL.out⟩
theorem hollowFor_y (a : Option Addr) (cap : Nat) (g : List (List Int)) (l : Int) (w : World) (h : Grid w a g) (hs : Small g) (h1 : gridB 0 1000 g = true) (hl : 0 ≤ l ∧ l ≤ 1000) (hh : gridB 0 1000 (holG g l) = true) :
    Calls Try.prog 17 #[.slice a g.length cap, .int .i64 l] w fun e w' => ∃ a' cap', e = .returned (.tuple #[.slice a' (holG g l).length cap', .int .i64 0]) ∧ Grid w' a' (holG g l) ∧ Below w.heap.size w w' := by
  have hmf : ∀ (fn : Fn) (first cap : Array Value) (w : World), (Instr.makeFunc fn first cap).run Try.prog w = .ok (.func fn first cap) w := fun _ _ _ _ => rfl
  have HA := Lib.hid (show Below w.heap.size w ((w.alloc (.cells #[.slice a g.length cap] 24)).alloc (.cells #[.int .i64 l] 2)) from ((Below.refl _ _).alloc (Nat.le_refl _) _).alloc (by simp) _)
  have e0 : ((w.alloc (.cells #[.slice a g.length cap] 24)).alloc (.cells #[.int .i64 l] 2)).cell? ⟨w.heap.size, 0, none⟩ = some (.slice a g.length cap) := by go_cell
  have e1 : ((w.alloc (.cells #[.slice a g.length cap] 24)).alloc (.cells #[.int .i64 l] 2)).cell? ⟨w.heap.size + 1, 0, none⟩ = some (.int .i64 l) := by go_cell
  have HQ := Lib.hid (And.intro e0 e1)
  have ok := gridB_true h1
  have HSM := Lib.hid (holG_small (l := l) ok)
  have HHE := Lib.hid (show holG g l = gridG (holF g l) (lenG g) g.length from rfl)
  have HHH := Lib.hid hh
  have hr : inB l 0 1000 = true := decide_eq_true hl
  go_enter Try.func17, Try.ntmps17
  go_wp2_with fail
  refine call_same (validArch_c _ _ g _ (h.below HA.out) hs) ?_
  rw [h1]
  go_wp2_with fail
  refine call_same (isRise_c _ _) ?_
  rw [hr]
  go_wp2_with fail
  generalize ((w.alloc (.cells #[.slice a g.length cap] 24)).alloc (.cells #[.int .i64 l] 2)) = wA at HA HQ ⊢
  have HG := Lib.hid (h.below HA.out)
  clear e0 e1 h hmf h1 hr hh
  refine (mapped_hollow a cap g w.heap.size (w.heap.size + 1) (holF g l) wA HG.out hs (fun j hj => (ok.len hj).1) ?_).mono ?_
  · intro p W h1 h2 hW
    exact hollow1_c p _ _ a cap g l W (HG.out.below hW) hs ⟨h1, h2⟩ (ok.at_ ⟨h1, h2⟩) hl (cellKeep HQ.out.1 hW) (cellKeep HQ.out.2 hW)
  · rintro e w2 ⟨v, rfl, hown, hb2⟩
    rw [← HHE.out] at hown
    obtain ⟨a', cap', rfl, hr⟩ := hown.gridA
    have HR := Lib.hid hr.grid
    have HB2 := Lib.hid (below_next HA.out hb2)
    clear hown hr hb2 ok
    obtain ⟨H, hH⟩ : ∃ H, holG g l = H := ⟨_, rfl⟩
    rw [hH] at HR HSM HHH HHE ⊢
    have HHX := Lib.hid hH
    clear hH
    go_wp2_with fail
    refine call_same (validArch_c _ _ H _ HR.out HSM.out) ?_
    rw [HHH.out]
    go_wp2
    go_ret2
    exact ⟨a', cap', by rw [HHX.out]; rfl, by rw [HHX.out]; exact HR.out, HB2.out⟩
theorem hollowFor_n (a : Option Addr) (cap : Nat) (g : List (List Int)) (l : Int) (w : World) (h : Grid w a g) (hs : Small g) (h1 : gridB 0 1000 g = true) (hl : 0 ≤ l ∧ l ≤ 1000) (hh : gridB 0 1000 (holG g l) = false) :
    Calls Try.prog 17 #[.slice a g.length cap, .int .i64 l] w fun e w' => e = .returned (.tuple #[.slice none 0 0, .int .i64 6]) ∧ Below w.heap.size w w' := by
  have hmf : ∀ (fn : Fn) (first cap : Array Value) (w : World), (Instr.makeFunc fn first cap).run Try.prog w = .ok (.func fn first cap) w := fun _ _ _ _ => rfl
  have HA := Lib.hid (show Below w.heap.size w ((w.alloc (.cells #[.slice a g.length cap] 24)).alloc (.cells #[.int .i64 l] 2)) from ((Below.refl _ _).alloc (Nat.le_refl _) _).alloc (by simp) _)
  have e0 : ((w.alloc (.cells #[.slice a g.length cap] 24)).alloc (.cells #[.int .i64 l] 2)).cell? ⟨w.heap.size, 0, none⟩ = some (.slice a g.length cap) := by go_cell
  have e1 : ((w.alloc (.cells #[.slice a g.length cap] 24)).alloc (.cells #[.int .i64 l] 2)).cell? ⟨w.heap.size + 1, 0, none⟩ = some (.int .i64 l) := by go_cell
  have HQ := Lib.hid (And.intro e0 e1)
  have ok := gridB_true h1
  have HSM := Lib.hid (holG_small (l := l) ok)
  have HHE := Lib.hid (show holG g l = gridG (holF g l) (lenG g) g.length from rfl)
  have HHH := Lib.hid hh
  have hr : inB l 0 1000 = true := decide_eq_true hl
  go_enter Try.func17, Try.ntmps17
  go_wp2_with fail
  refine call_same (validArch_c _ _ g _ (h.below HA.out) hs) ?_
  rw [h1]
  go_wp2_with fail
  refine call_same (isRise_c _ _) ?_
  rw [hr]
  go_wp2_with fail
  generalize ((w.alloc (.cells #[.slice a g.length cap] 24)).alloc (.cells #[.int .i64 l] 2)) = wA at HA HQ ⊢
  have HG := Lib.hid (h.below HA.out)
  clear e0 e1 h hmf h1 hr hh
  refine (mapped_hollow a cap g w.heap.size (w.heap.size + 1) (holF g l) wA HG.out hs (fun j hj => (ok.len hj).1) ?_).mono ?_
  · intro p W h1 h2 hW
    exact hollow1_c p _ _ a cap g l W (HG.out.below hW) hs ⟨h1, h2⟩ (ok.at_ ⟨h1, h2⟩) hl (cellKeep HQ.out.1 hW) (cellKeep HQ.out.2 hW)
  · rintro e w2 ⟨v, rfl, hown, hb2⟩
    rw [← HHE.out] at hown
    obtain ⟨a', cap', rfl, hr⟩ := hown.gridA
    have HR := Lib.hid hr.grid
    have HB2 := Lib.hid (below_next HA.out hb2)
    clear hown hr hb2 ok
    obtain ⟨H, hH⟩ : ∃ H, holG g l = H := ⟨_, rfl⟩
    rw [hH] at HR HSM HHH HHE ⊢
    have HHX := Lib.hid hH
    clear hH
    go_wp2_with fail
    refine call_same (validArch_c _ _ H _ HR.out HSM.out) ?_
    rw [HHH.out]
    go_wp2
    go_ret2
    exact ⟨rfl, HB2.out⟩

theorem sameSize_y (a b : Option Addr) (ca cb : Nat) (x y : List (List Int)) (w : World) (h1 : Grid w a x) (h2 : Grid w b y) (s1 : Small x) (s2 : Small y) (p1 : 0 < x.length) (e1 : x.length = y.length) (e2 : (nthL x 0).length = (nthL y 0).length) :
    Calls Try.prog 34 #[.slice a x.length ca, .slice b y.length cb] w fun e w' => e = .returned (.bool true) ∧ Drawn w w' := by
  have p2 : 0 < y.length := by omega
  obtain ⟨b1, o1, rfl, hb1, ar, cr, hc1, -⟩ := h1.pos p1
  obtain ⟨b2, o2, rfl, hb2, br, dr, hc2, -⟩ := h2.pos p2
  rw [Nat.add_zero] at hc1 hc2
  have l1 := s1.len
  have l2 := s2.len
  have r1 := s1.row p1
  have r2 := s2.row p2
  have i1 : (0 : Int) < x.length := by omega
  have i2 : (0 : Int) < y.length := by omega
  have e1' : ((x.length : Int) == y.length) = true := by simp [e1]
  have e2' : (((nthL x 0).length : Int) == (nthL y 0).length) = true := by simp [e2]
  clear h1 h2 s1 s2 e1 e2
  go_enter Try.func34, Try.ntmps34
  go_wp2_with fail
  go_quiet (fail)
  go_wp2
  go_ret
  exact ⟨rfl, ⟨_, rfl⟩⟩
/-- Whether the wood between an arch and its hollow is thin. -/
def tpB (g H : List (List Int)) (l : Int) (p : Nat × Nat) : Bool := decide (atG g p - atG H p < l)
set_option maxRecDepth 100000 in
theorem thinP_c (p : Nat × Nat) (b0 b1 b2 : Nat) (a a2 : Option Addr) (cap cap2 : Nat) (g H : List (List Int)) (l : Int) (W : World) (h : Grid W a g) (hs : Small g) (h2 : Grid W a2 H) (hs2 : Small H) (hp : p.1 < g.length ∧ p.2 < (nthL g p.1).length) (hp2 : p.1 < H.length ∧ p.2 < (nthL H p.1).length) (hv : 0 ≤ atG g p ∧ atG g p ≤ 1000) (hv2 : 0 ≤ atG H p ∧ atG H p ≤ 1000)
    (c0 : W.cell? ⟨b0, 0, none⟩ = some (.slice a g.length cap)) (c1 : W.cell? ⟨b1, 0, none⟩ = some (.slice a2 H.length cap2)) (c2 : W.cell? ⟨b2, 0, none⟩ = some (.int .i64 l)) :
    Calls Try.prog 36 #[.agg #[.int .i64 p.1, .int .i64 p.2], .pointer (some ⟨b0, 0, none⟩), .pointer (some ⟨b1, 0, none⟩), .pointer (some ⟨b2, 0, none⟩)] W fun e W' => e = .returned (.bool (tpB g H l p)) ∧ Below W.heap.size W W' := by
  have HA := Lib.hid (show Below W.heap.size W (W.alloc (.cells #[.int .i64 p.1, .int .i64 p.2] 43)) from (Below.refl _ _).alloc (Nat.le_refl _) _)
  have e0 : (W.alloc (.cells #[.int .i64 p.1, .int .i64 p.2] 43)).cell? ⟨W.heap.size, 0, none⟩ = some (.int .i64 p.1) := by go_cell
  have e1 : (W.alloc (.cells #[.int .i64 p.1, .int .i64 p.2] 43)).cell? ⟨W.heap.size, 1, none⟩ = some (.int .i64 p.2) := by go_cell
  have HQ := Lib.hid (And.intro e0 (And.intro e1 (And.intro (cellKeep c0 HA.out) (And.intro (cellKeep c1 HA.out) (cellKeep c2 HA.out)))))
  have HG := Lib.hid (h.below HA.out)
  have HG2 := Lib.hid (h2.below HA.out)
  have HF := Lib.hid (show tpB g H l p = decide (atG g p - atG H p < l) from rfl)
  have q1 := IntWalk.i64_in (atG g p - atG H p) (by omega)
  have HP := Lib.hid hp
  have HP2 := Lib.hid hp2
  clear h h2 e0 e1 c0 c1 c2 hp hp2
  go_enter Try.func36, Try.ntmps36
  go_wp2_with fail
  generalize W.alloc (.cells #[.int .i64 p.1, .int .i64 p.2] 43) = wA at HA HQ HG HG2 ⊢
  go_region_held3 (fun w' => w'.cell? ⟨W.heap.size, 0, none⟩ = some (.int .i64 p.1) ∧ w'.cell? ⟨W.heap.size, 1, none⟩ = some (.int .i64 p.2) ∧ w'.cell? ⟨b0, 0, none⟩ = some (.slice a g.length cap) ∧ w'.cell? ⟨b1, 0, none⟩ = some (.slice a2 H.length cap2) ∧ w'.cell? ⟨b2, 0, none⟩ = some (.int .i64 l) ∧ Below wA.heap.size wA w')
    (first | exact keep5h HQ.out (Below.refl _ _).drew | exact keep5h HQ.out (below_next (Below.refl _ _).drew hb4) | exact keep5h HQ.out (below_next (below_next (Below.refl _ _).drew hb4) hb5) | go_keep)
    (first | (go_at_call 22; (first | (have hx := hb4; clear hx; refine call_below (of_c a2 cap2 H p _ (HG2.out.below (below_next (Below.refl _ _).drew hb4)) hs2 HP2.out.1 HP2.out.2) ?_; intro w5 hb5) | (refine call_below (of_c a cap g p _ (HG.out.below (Below.refl _ _).drew) hs HP.out.1 HP.out.2) ?_; intro w4 hb4))))
  go_wp2
  go_ret
  exact ⟨by rw [HF.out]; rfl, below_next HA.out (below_next (below_next (Below.refl _ _).drew hb4) hb5)⟩
/-- The program's chosen, with this closure: what it hands back are the places that the closure accepts. -/
theorem chosen_wood (a : Option Addr) (cap : Nat) (g : List (List Int)) (b0 b1 b2 : Nat) (E : Nat × Nat → Bool) (w : World) (h : Grid w a g) (hs : Small g)
    (hF : ∀ (p : Nat × Nat) (W : World), p.1 < g.length → p.2 < (nthL g p.1).length → Below w.heap.size w W → Calls Try.prog 36 #[.agg #[.int .i64 p.1, .int .i64 p.2], .pointer (some ⟨b0, 0, none⟩), .pointer (some ⟨b1, 0, none⟩), .pointer (some ⟨b2, 0, none⟩)] W fun e W' => e = .returned (.bool (E p)) ∧ Below W.heap.size W W') :
    Calls Try.prog 35 #[.slice a g.length cap, .func (.func 36) #[] #[.pointer (some ⟨b0, 0, none⟩), .pointer (some ⟨b1, 0, none⟩), .pointer (some ⟨b2, 0, none⟩)]] w fun e w' => ∃ v, e = .returned v ∧ (OwnG w.heap.size w'.heap.size w' v (pairsG ((plTo g g.length).filter E)) ∧ Below w.heap.size w w') := by
  obtain ⟨j0, hj, hy0, hy1, hy2⟩ := info_parts infoS
  have hll : (plTo g g.length).length ≤ 1048576 := by
    have hS := hs
    unfold Small at hS
    rw [plTo_len]; omega
  have HF := Lib.hid hF
  have HP := Lib.hid (fun j (hj : j < (plTo g g.length).length) => place_ok hj)
  have HRES := Lib.hid (show chosenG g E = pairsG ((plTo g g.length).filter E) from rfl)
  rw [← HRES.out]
  clear hF
  go_enter Try.func35, Try.ntmps35
  go_wp2_with fail
  have HA0 := Lib.hid (show Below w.heap.size w (w.alloc (.cells #[] 26)) from (Below.refl _ _).alloc (Nat.le_refl _) _)
  have HO0 := Lib.hid (show OwnG w.heap.size (w.alloc (.cells #[] 26)).heap.size (w.alloc (.cells #[] 26)) (.slice (some ⟨w.heap.size, 0, none⟩) 0 0) [] from OwnG.start (World.ownsRow_made w #[] 0 (Nat.le_refl _) (Nat.zero_le _) rfl) (by simp) (Nat.le_refl _))
  refine (places_c _ _ g _ (h.below HA0.out) hs).mono ?_
  rintro e w2 ⟨v, rfl, hown, hnn, hb2⟩
  obtain ⟨bp, cp, cur, rfl, hblk, hcell⟩ := own_form2 hown hnn
  have HC := Lib.hid hcell
  have HB2 := Lib.hid (below_next HA0.out hb2)
  have HO2 := Lib.hid ((HO0.out.below (Nat.le_refl _) hb2).wide hb2.size)
  have HBK := Lib.hid hblk
  have HRS := Lib.hid (show chosenG g E = pairsG (((plTo g g.length).take (plTo g g.length).length).filter E) by rw [List.take_length]; rfl)
  have HST := Lib.hid (fun j (hj : j < (plTo g g.length).length) => pairs_take (E := E) hj)
  have HLN := Lib.hid (fun j => pairs_len E (plTo g g.length) j)
  clear hown hnn hcell hb2 HO0 HRES hblk
  generalize plTo g g.length = L at HP HC HRS HST HLN hll ⊢
  go_wp2
  go_loopw [5, 12] (fun v i wr => ∃ j : Nat, j ≤ L.length ∧ i = .int .i64 j ∧ OwnG w.heap.size wr.heap.size wr v (pairsG ((L.take j).filter E)) ∧ Below w.heap.size w wr ∧ wr.heap[bp]? = some (.cells cur 43 (0, 0))) (fun _ i _ => L.length - (intOf i).toNat)
  case atStart => exact ⟨0, Nat.zero_le _, rfl, by simpa [pairsG] using HO2.out, HB2.out, HBK.out⟩
  case round =>
    clear HO2 HBK
    obtain ⟨j, hj', rfl, hown, hbl, hblk⟩ := hrel
    have HO := Lib.hid hown
    have HL := Lib.hid hbl
    have HBK := Lib.hid hblk
    by_cases hlt : j < L.length
    · have hP := HP.out j hlt
      have hC := HC.out wr hblk j hlt
      have hT := HST.out j hlt
      have hN := HLN.out j
      generalize L.getD j (0, 0) = p at hT hP hC
      obtain ⟨c0, c1⟩ := hC
      have HPP := Lib.hid hP
      have HTT := Lib.hid hT
      have HN := Lib.hid hN
      clear hbl hT hP hown hN hblk
      go_wp2_with fail
      refine call_below (HF.out p _ HPP.out.1 HPP.out.2 (below_next HL.out ((Below.refl _ _).alloc (Nat.le_refl _) _))) ?_
      intro w3 hb3
      have HPC := Lib.hid (show w3.cell? ⟨wr.heap.size, 0, none⟩ = some (.int .i64 p.1) ∧ w3.cell? ⟨wr.heap.size, 1, none⟩ = some (.int .i64 p.2) from ⟨by rw [box_cell hb3]; go_cell, by rw [box_cell hb3]; go_cell⟩)
      have HL3 := Lib.hid (below_next HL.out (below_from hb3))
      have HO3 := Lib.hid (HO.out.below (Nat.le_refl _) (below_from hb3))
      have HS3 := Lib.hid (below_from hb3).size
      have HBK3 := Lib.hid (blk_keep HBK.out (below_from hb3))
      clear hb3 c0 c1
      cases hE : E p
      · have HU := Lib.hid (HTT.out.1 hE)
        clear hE
        go_wp2
        go_roundw
        case rel => exact ⟨j + 1, by omega, by go_num, by rw [HU.out]; exact HO3.out.wide HS3.out, HL3.out, HBK3.out⟩
        case measure => simp [intOf]; omega
      · have HU := Lib.hid (HTT.out.2 hE)
        obtain ⟨d0, d1⟩ := HPC.out
        clear hE
        go_wp2_with fail
        refine (pair_c p _).mono ?_
        rintro e w4 ⟨br, rfl, ⟨hbr0, hbr1⟩, hrc, hb4⟩
        obtain ⟨r, cc, hown, hnn, hrows, hdist, hv⟩ := (HO3.out.wide HS3.out).below (Nat.le_refl _) hb4
        have HROW := Lib.hid (And.intro hrows (And.intro hdist (And.intro hv hrc)))
        have HOW := Lib.hid hown
        have HL4 := Lib.hid (below_next HL3.out hb4)
        have HBK4 := Lib.hid (blk_keep HBK3.out hb4)
        have HZ3 := Lib.hid HL3.out.size
        clear hrows hdist hv hown hnn hb4 d0 d1 hrc
        go_wp2_with (at_builtin; refine wpList_append_own _ rfl _ _ 24 rfl w.heap.size 26 j0 (.slice none 0 0) 1 24 Try.underlying24 hj hy0 hy1 hy2 rfl (by decide) _ _ _ rfl (HOW.out.alloc _) ⟨w4.heap.size, 0, none⟩ 1 1 [.slice (some ⟨br, 0, none⟩) 2 2] rfl rfl (own_new1 _ _ _) ?d2 ?d3 ?d4 ?d5 ?_)
        case d2 => (first | rfl | (intro u hu; simp at hu; subst hu; rfl))
        case d3 => have := HN.out; unfold maxLen; omega
        case d4 => have := HN.out; omega
        case d5 => have := HL4.out.size; simp; omega
        · intro v' w5 hown' hgrow hnil
          have hz3 := HZ3.out
          have hz4 := HL4.out.size
          have HB5 := Lib.hid (show Below w.heap.size w w5 from below_grown (HL4.out.alloc (by omega) _) (by simp; omega) hgrow fun q hq => (HOW.out.lt q hq).1)
          have HBK5 := Lib.hid (blk_grown HBK4.out HOW.out hgrow)
          have HX := Lib.hid (show OwnG w.heap.size w5.heap.size w5 v' (pairsG ((L.take (j + 1)).filter E)) by
            rw [HU.out]
            exact own_push HOW.out HROW.out.1 HROW.out.2.1 HROW.out.2.2.1 hbr0 (by omega) hbr1 (by simp) HROW.out.2.2.2 hown' hgrow hnil)
          clear hown' hgrow hnil
          go_wp2
          go_roundw
          case rel => exact ⟨j + 1, by omega, by go_num, HX.out, HB5.out, HBK5.out⟩
          case measure => simp [intOf]; omega
    · obtain rfl : j = L.length := by omega
      clear hbl hown hblk
      go_wp2
      go_ret
      exact ⟨_, rfl, by rw [HRS.out]; exact HO.out, HL.out⟩
set_option maxRecDepth 100000 in
set_option maxHeartbeats 1000000 in
theorem thinPlaces_c (a a2 : Option Addr) (cap cap2 : Nat) (g H : List (List Int)) (l : Int) (w : World) (h : Grid w a g) (hs : Small g) (hg : gridB 0 1000 g = true) (h2 : Grid w a2 H) (hs2 : Small H) (hg2 : gridB 0 1000 H = true) (hl : 0 ≤ l ∧ l ≤ 1000) (he : g.length = H.length) (he2 : ∀ j, j < g.length → (nthL g j).length = (nthL H j).length) :
    Calls Try.prog 18 #[.slice a g.length cap, .slice a2 H.length cap2, .int .i64 l] w fun e w' => ∃ a' cap', e = .returned (.tuple #[.slice a' (chosenG g (tpB g H l)).length cap', .int .i64 0]) ∧ Below w.heap.size w w' := by
  have hmf : ∀ (fn : Fn) (first cap : Array Value) (w : World), (Instr.makeFunc fn first cap).run Try.prog w = .ok (.func fn first cap) w := fun _ _ _ _ => rfl
  have HA := Lib.hid (show Below w.heap.size w (((w.alloc (.cells #[.slice a g.length cap] 24)).alloc (.cells #[.slice a2 H.length cap2] 24)).alloc (.cells #[.int .i64 l] 2)) from (((Below.refl _ _).alloc (Nat.le_refl _) _).alloc (by simp) _).alloc (by simp; omega) _)
  have e0 : (((w.alloc (.cells #[.slice a g.length cap] 24)).alloc (.cells #[.slice a2 H.length cap2] 24)).alloc (.cells #[.int .i64 l] 2)).cell? ⟨w.heap.size, 0, none⟩ = some (.slice a g.length cap) := by go_cell
  have e1 : (((w.alloc (.cells #[.slice a g.length cap] 24)).alloc (.cells #[.slice a2 H.length cap2] 24)).alloc (.cells #[.int .i64 l] 2)).cell? ⟨w.heap.size + 1, 0, none⟩ = some (.slice a2 H.length cap2) := by go_cell
  have e2 : (((w.alloc (.cells #[.slice a g.length cap] 24)).alloc (.cells #[.slice a2 H.length cap2] 24)).alloc (.cells #[.int .i64 l] 2)).cell? ⟨w.heap.size + 1 + 1, 0, none⟩ = some (.int .i64 l) := by go_cell
  have HQ := Lib.hid (And.intro e0 (And.intro e1 e2))
  have ok := gridB_true hg
  have ok2 := gridB_true hg2
  have hr : inB l 0 1000 = true := decide_eq_true hl
  have hrows := ok.rows
  have HCE := Lib.hid (show chosenG g (tpB g H l) = pairsG ((plTo g g.length).filter (tpB g H l)) from rfl)
  have HE2 := Lib.hid he2
  have HE1 := Lib.hid he
  clear he2 he
  go_enter Try.func18, Try.ntmps18
  go_wp2_with fail
  refine call_same (validArch_c _ _ g _ (h.below HA.out) hs) ?_
  rw [hg]
  go_wp2_with fail
  refine call_same (validArch_c _ _ H _ (h2.below HA.out) hs2) ?_
  rw [hg2]
  go_wp2_with fail
  refine call_same (isRise_c _ _) ?_
  rw [hr]
  go_wp2_with fail
  refine call_pred (sameSize_y _ _ _ _ g H _ (h.below HA.out) (h2.below HA.out) hs hs2 (by omega) HE1.out (HE2.out 0 (by omega))) ?_
  rintro w1 ⟨nq, rfl⟩
  go_wp2_with fail
  have HAD := Lib.hid (below_drewN HA.out nq)
  have HQD := Lib.hid (show ((((w.alloc (.cells #[.slice a g.length cap] 24)).alloc (.cells #[.slice a2 H.length cap2] 24)).alloc (.cells #[.int .i64 l] 2)).drewN nq).cell? ⟨w.heap.size, 0, none⟩ = some (.slice a g.length cap) ∧ ((((w.alloc (.cells #[.slice a g.length cap] 24)).alloc (.cells #[.slice a2 H.length cap2] 24)).alloc (.cells #[.int .i64 l] 2)).drewN nq).cell? ⟨w.heap.size + 1, 0, none⟩ = some (.slice a2 H.length cap2) ∧ ((((w.alloc (.cells #[.slice a g.length cap] 24)).alloc (.cells #[.slice a2 H.length cap2] 24)).alloc (.cells #[.int .i64 l] 2)).drewN nq).cell? ⟨w.heap.size + 1 + 1, 0, none⟩ = some (.int .i64 l) from HQ.out)
  generalize ((((w.alloc (.cells #[.slice a g.length cap] 24)).alloc (.cells #[.slice a2 H.length cap2] 24)).alloc (.cells #[.int .i64 l] 2)).drewN nq) = wA at HAD HQD ⊢
  have HG := Lib.hid (h.below HAD.out)
  have HG2 := Lib.hid (h2.below HAD.out)
  clear e0 e1 e2 HQ HA h h2 hmf hg hg2 hr
  refine (chosen_wood a cap g w.heap.size (w.heap.size + 1) (w.heap.size + 1 + 1) (tpB g H l) wA HG.out hs ?_).mono ?_
  · intro p W h1 h2 hW
    have hp2 : p.1 < H.length ∧ p.2 < (nthL H p.1).length := ⟨by rw [← HE1.out]; exact h1, by rw [← HE2.out _ h1]; exact h2⟩
    exact thinP_c p _ _ _ a a2 cap cap2 g H l W (HG.out.below hW) hs (HG2.out.below hW) hs2 ⟨h1, h2⟩ hp2 (ok.at_ ⟨h1, h2⟩) (ok2.at_ hp2) (cellKeep HQD.out.1 hW) (cellKeep HQD.out.2.1 hW) (cellKeep HQD.out.2.2 hW)
  · rintro e w2 ⟨v, rfl, hown, hb2⟩
    rw [← HCE.out] at hown
    obtain ⟨a', cap', rfl, hr⟩ := hown.gridA
    have HB2 := Lib.hid (below_next HAD.out hb2)
    clear hown hr hb2
    go_wp2
    go_ret2
    exact ⟨a', cap', rfl, HB2.out⟩
end Go.Proofs.Ytlenihncfhemkaa
