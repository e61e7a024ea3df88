/- The program's ScrapeRow returns what the reference's returns, for all arguments. No condition. -/
import Derived.Test.YtejcglenjhkhhaaRows
import Derived.Test.YtejcglenjhkhhaaThin
import Derived.OpenShut
import Derived.ChangeOld
import Derived.Lib.SmallJoins
namespace Go.Proofs.Ytejcglenjhkhhaa.lawScrapeRow
open Go.ChangeShapes Go.WideShapes Go.ChangeAt Go.RowKit
set_option linter.unusedVariables false

theorem at_c (i n : Int) (w : World) : Calls Try.prog 95 #[.int .i64 i, .int .i64 n] w fun e w' => e = .returned (.bool (inB i 0 (n - 1))) ∧ w = w' := by
  by_cases h : 0 ≤ i
  · by_cases h2 : i < n
    · have HF := Lib.hid (show inB i 0 (n - 1) = true by simp [inB]; omega)
      go_enter Try.func95, Try.ntmps95
      go_wp2
      go_ret
      exact ⟨by rw [HF.out]; rfl, rfl⟩
    · have HF := Lib.hid (show inB i 0 (n - 1) = false by simp [inB]; omega)
      go_enter Try.func95, Try.ntmps95
      go_wp2
      go_ret
      exact ⟨by rw [HF.out]; rfl, rfl⟩
  · have HF := Lib.hid (show inB i 0 (n - 1) = false by simp [inB]; omega)
    go_enter Try.func95, Try.ntmps95
    go_wp2
    go_ret
    exact ⟨by rw [HF.out]; rfl, rfl⟩
/-- A plate of which one row is made thinner. -/
def scrF (g : List (List Int)) (r b l : Int) (p : Nat × Nat) : Int := if (p.1 : Int) = r then thinF (atG g p) b l else atG g p
def scrG (g : List (List Int)) (r b l : Int) : List (List Int) := gridG (scrF g r b l) (lenG g) g.length
theorem keep6 {w1 w2 : World} {b b0 b1 b2 b3 : Nat} {v0 v1 v2 v3 v4 v5 : Value} (d : w1.cell? ⟨b, 0, none⟩ = some v0 ∧ w1.cell? ⟨b, 1, none⟩ = some v1 ∧ w1.cell? ⟨b0, 0, none⟩ = some v2 ∧ w1.cell? ⟨b1, 0, none⟩ = some v3 ∧ w1.cell? ⟨b2, 0, none⟩ = some v4 ∧ w1.cell? ⟨b3, 0, none⟩ = some v5) (h : Below w1.heap.size w1 w2) :
    w2.cell? ⟨b, 0, none⟩ = some v0 ∧ w2.cell? ⟨b, 1, none⟩ = some v1 ∧ w2.cell? ⟨b0, 0, none⟩ = some v2 ∧ w2.cell? ⟨b1, 0, none⟩ = some v3 ∧ w2.cell? ⟨b2, 0, none⟩ = some v4 ∧ w2.cell? ⟨b3, 0, none⟩ = some v5 ∧ Below w1.heap.size w1 w2 :=
  ⟨cell_keep d.1 h, cell_keep d.2.1 h, cell_keep d.2.2.1 h, cell_keep d.2.2.2.1 h, cell_keep d.2.2.2.2.1 h, cell_keep d.2.2.2.2.2 h, h⟩
theorem scr1_c (p : Nat × Nat) (b0 b1 b2 b3 : Nat) (a : Option Addr) (cap : Nat) (g : List (List Int)) (r b l : Int) (W : World) (h : Grid W a g) (hs : Small g) (hp : p.1 < g.length ∧ p.2 < (nthL g p.1).length)
    (c0 : W.cell? ⟨b0, 0, none⟩ = some (.int .i64 r)) (c1 : W.cell? ⟨b1, 0, none⟩ = some (.slice a g.length cap)) (c2 : W.cell? ⟨b2, 0, none⟩ = some (.int .i64 b)) (c3 : W.cell? ⟨b3, 0, none⟩ = some (.int .i64 l)) (hv : 1 ≤ atG g p ∧ atG g p ≤ 200) (hb : 0 ≤ b ∧ b ≤ 200) :
    Calls Try.prog 97 #[.agg #[.int .i64 p.1, .int .i64 p.2], .pointer (some ⟨b0, 0, none⟩), .pointer (some ⟨b1, 0, none⟩), .pointer (some ⟨b2, 0, none⟩), .pointer (some ⟨b3, 0, none⟩)] W fun e W' => e = .returned (.int .i64 (scrF g r b l p)) ∧ Below W.heap.size W W' := by
  have HA := Lib.hid (show Below W.heap.size W (W.alloc (.cells #[.int .i64 p.1, .int .i64 p.2] 67)) from (Below.refl _ _).alloc (Nat.le_refl _) _)
  have e0 : (W.alloc (.cells #[.int .i64 p.1, .int .i64 p.2] 67)).cell? ⟨W.heap.size, 0, none⟩ = some (.int .i64 p.1) := by go_cell
  have e1 : (W.alloc (.cells #[.int .i64 p.1, .int .i64 p.2] 67)).cell? ⟨W.heap.size, 1, none⟩ = some (.int .i64 p.2) := by go_cell
  have g0 := cell_keep c0 HA.out
  have g1 := cell_keep c1 HA.out
  have g2 := cell_keep c2 HA.out
  have g3 := cell_keep c3 HA.out
  have HQ := Lib.hid (And.intro e0 (And.intro e1 (And.intro g0 (And.intro g1 (And.intro g2 g3)))))
  have HG := Lib.hid (h.below HA.out)
  clear h c0 c1 c2 c3
  by_cases hr : (p.1 : Int) = r
  · have HF := Lib.hid (show scrF g r b l p = thinF (atG g p) b l by unfold scrF; rw [if_pos hr])
    have hr1 : ((p.1 : Int) == r) = true := by simpa using hr
    have hr2 : ((p.1 : Int) != r) = false := by simpa using hr
    clear hr
    go_enter Try.func97, Try.ntmps97
    go_wp2_with fail
    clear hr1 hr2 e0 e1 g0 g1 g2 g3
    generalize W.alloc (.cells #[.int .i64 p.1, .int .i64 p.2] 67) = wA at HA HQ HG ⊢
    go_region_held3 (fun w' => w'.cell? ⟨W.heap.size, 0, none⟩ = some (.int .i64 p.1) ∧ w'.cell? ⟨W.heap.size, 1, none⟩ = some (.int .i64 p.2) ∧ w'.cell? ⟨b0, 0, none⟩ = some (.int .i64 r) ∧ w'.cell? ⟨b1, 0, none⟩ = some (.slice a g.length cap) ∧ w'.cell? ⟨b2, 0, none⟩ = some (.int .i64 b) ∧ w'.cell? ⟨b3, 0, none⟩ = some (.int .i64 l) ∧ Below wA.heap.size wA w')
      (first | exact keep6 HQ.out (Below.refl _ _).drew | exact keep6 HQ.out (below_next (Below.refl _ _).drew hb3) | go_keep)
      (first | (go_at_call 60; refine call_below (of_c _ _ g p _ ?_ hs hp.1 hp.2) ?_; (exact HG.out.below (Below.refl _ _).drew); intro w3 hb3) | (go_at_call 98; refine call_same (thinner_c _ _ _ _ hv hb) ?_))
    go_wp2
    go_ret
    exact ⟨by rw [HF.out]; rfl, below_next HA.out (below_next (Below.refl _ _).drew hb3)⟩
  · have HF := Lib.hid (show scrF g r b l p = atG g p by unfold scrF; rw [if_neg hr])
    have hr1 : ((p.1 : Int) == r) = false := by simpa using hr
    have hr2 : ((p.1 : Int) != r) = true := by simpa using hr
    clear hr
    go_enter Try.func97, Try.ntmps97
    go_wp2_with fail
    refine call_below (of_c _ _ g p _ HG.out hs hp.1 hp.2) ?_
    intro w3 hb3
    go_wp2
    go_ret
    exact ⟨by rw [HF.out]; rfl, below_next HA.out hb3⟩
def okB (g : List (List Int)) (r b l : Int) : Bool := gridB 1 200 g && (inB r 0 ((g.length : Int) - 1) && (inB b 0 200 && inB l 1 200))
def fZ (g : List (List Int)) (r b l : Int) : List (List Int) := if okB g r b l then scrG g r b l else []
def fC (g : List (List Int)) (r b l : Int) : Int := if gridB 1 200 g then (if inB r 0 ((g.length : Int) - 1) && (inB b 0 200 && inB l 1 200) then 0 else 2) else 1
theorem f_small (g : List (List Int)) (r b l : Int) : Small (fZ g r b l) := by
  unfold fZ okB
  cases h : gridB 1 200 g
  · simp [Small, sumL]
  · cases inB r 0 ((g.length : Int) - 1) && (inB b 0 200 && inB l 1 200)
    · simp [Small, sumL]
    · have ok := gridB_true h
      simpa using (show Small (scrG g r b l) from gridG_small ok.rows.2 fun i hi => (ok.len hi).2)
theorem i_c (a : Option Addr) (cap : Nat) (g : List (List Int)) (r b l : Int) (w : World) (h : Grid w a g) (hs : Small g) :
    Calls Try.prog 44 #[.slice a g.length cap, .int .i64 r, .int .i64 b, .int .i64 l] w fun e w' => ∃ a' cap', e = .returned (.tuple #[.slice a' (fZ g r b l).length cap', .int .i64 (fC g r b l)]) ∧ (GridA w.heap.size w'.heap.size w' a' (fZ g r b l) ∧ Below w.heap.size w w') := by
  have hmf : ∀ (fn : Fn) (first cap : Array Value) (w : World), (Instr.makeFunc fn first cap).run Try.prog w = .ok (.func fn first cap) w := fun _ _ _ _ => rfl
  have HA := Lib.hid (show Below w.heap.size w ((((w.alloc (.cells #[.slice a g.length cap] 22)).alloc (.cells #[.int .i64 r] 2)).alloc (.cells #[.int .i64 b] 2)).alloc (.cells #[.int .i64 l] 2)) from ((((Below.refl _ _).alloc (Nat.le_refl _) _).alloc (by simp) _).alloc (by simp; omega) _).alloc (by simp; omega) _)
  have e0 : ((((w.alloc (.cells #[.slice a g.length cap] 22)).alloc (.cells #[.int .i64 r] 2)).alloc (.cells #[.int .i64 b] 2)).alloc (.cells #[.int .i64 l] 2)).cell? ⟨w.heap.size, 0, none⟩ = some (.slice a g.length cap) := by go_cell
  have e1 : ((((w.alloc (.cells #[.slice a g.length cap] 22)).alloc (.cells #[.int .i64 r] 2)).alloc (.cells #[.int .i64 b] 2)).alloc (.cells #[.int .i64 l] 2)).cell? ⟨w.heap.size + 1, 0, none⟩ = some (.int .i64 r) := by go_cell
  have e2 : ((((w.alloc (.cells #[.slice a g.length cap] 22)).alloc (.cells #[.int .i64 r] 2)).alloc (.cells #[.int .i64 b] 2)).alloc (.cells #[.int .i64 l] 2)).cell? ⟨w.heap.size + 2, 0, none⟩ = some (.int .i64 b) := by go_cell
  have e3 : ((((w.alloc (.cells #[.slice a g.length cap] 22)).alloc (.cells #[.int .i64 r] 2)).alloc (.cells #[.int .i64 b] 2)).alloc (.cells #[.int .i64 l] 2)).cell? ⟨w.heap.size + 3, 0, none⟩ = some (.int .i64 l) := by go_cell
  have HQ := Lib.hid (And.intro e0 (And.intro e1 (And.intro e2 e3)))
  have hn := hs.len
  rcases and4 (gridB 1 200 g) (inB r 0 ((g.length : Int) - 1)) (inB b 0 200) (inB l 1 200) with h1 | ⟨h1, h2⟩ | ⟨h1, h2, h3⟩ | ⟨h1, h2, h3, h4⟩ | ⟨h1, h2, h3, h4⟩
  · go_enter Try.func44, Try.ntmps44
    go_wp2_with fail
    refine call_same (validPlate_c _ _ g _ (h.below HA.out) hs) ?_
    rw [h1]
    go_wp2
    go_ret2
    exact ⟨none, 0, by simp [fZ, fC, okB, h1], .inl (by simp [fZ, okB, h1]), HA.out⟩
  · go_enter Try.func44, Try.ntmps44
    go_wp2_with fail
    refine call_same (validPlate_c _ _ g _ (h.below HA.out) hs) ?_
    rw [h1]
    go_wp2_with (first | (go_at_call 95; refine call_same (at_c _ _ _) ?_) | (go_at_call 73; refine call_same (isBy_c _ _) ?_) | (go_at_call 67; refine call_same (isLeast_c _ _) ?_))
    go_ret2
    exact ⟨none, 0, by simp [fZ, fC, okB, h1, h2], .inl (by simp [fZ, okB, h1, h2]), HA.out⟩
  · go_enter Try.func44, Try.ntmps44
    go_wp2_with fail
    refine call_same (validPlate_c _ _ g _ (h.below HA.out) hs) ?_
    rw [h1]
    go_wp2_with (first | (go_at_call 95; refine call_same (at_c _ _ _) ?_) | (go_at_call 73; refine call_same (isBy_c _ _) ?_) | (go_at_call 67; refine call_same (isLeast_c _ _) ?_))
    go_ret2
    exact ⟨none, 0, by simp [fZ, fC, okB, h1, h2, h3], .inl (by simp [fZ, okB, h1, h2, h3]), HA.out⟩
  · go_enter Try.func44, Try.ntmps44
    go_wp2_with fail
    refine call_same (validPlate_c _ _ g _ (h.below HA.out) hs) ?_
    rw [h1]
    go_wp2_with (first | (go_at_call 95; refine call_same (at_c _ _ _) ?_) | (go_at_call 73; refine call_same (isBy_c _ _) ?_) | (go_at_call 67; refine call_same (isLeast_c _ _) ?_))
    go_ret2
    exact ⟨none, 0, by simp [fZ, fC, okB, h1, h2, h3, h4], .inl (by simp [fZ, okB, h1, h2, h3, h4]), HA.out⟩
  · have HZ := Lib.hid (show fZ g r b l = scrG g r b l by simp [fZ, okB, h1, h2, h3, h4])
    have HC := Lib.hid (show fC g r b l = 0 by simp [fC, h1, h2, h3, h4])
    have HS := Lib.hid (show (scrG g r b l).length = g.length from gridG_len _ _ _)
    have ok := gridB_true h1
    have hb := inB_true h3
    go_enter Try.func44, Try.ntmps44
    go_wp2_with fail
    refine call_same (validPlate_c _ _ g _ (h.below HA.out) hs) ?_
    rw [h1]
    go_wp2_with fail
    refine call_same (at_c _ _ _) ?_
    rw [h2]
    go_wp2_with fail
    refine call_same (isBy_c _ _) ?_
    rw [h3]
    go_wp2_with fail
    refine call_same (isLeast_c _ _) ?_
    rw [h4]
    go_wp2_with fail
    generalize (((w.alloc (.cells #[.slice a g.length cap] 22)).alloc (.cells #[.int .i64 r] 2)).alloc (.cells #[.int .i64 b] 2)).alloc (.cells #[.int .i64 l] 2) = wA at HA HQ ⊢
    have HG := Lib.hid (h.below HA.out)
    clear e0 e1 e2 e3 h hmf h1 h2 h3 h4
    refine (mapped_scrape a cap g (w.heap.size + 1) w.heap.size (w.heap.size + 2) (w.heap.size + 3) (scrF g r b l) wA HG.out hs (fun j hj => (ok.len hj).1) ?_).mono ?_
    · intro p W h1 h2 hW
      exact scr1_c p _ _ _ _ a cap g r b l W (HG.out.below hW) hs ⟨h1, h2⟩ (cell_keep HQ.out.2.1 hW) (cell_keep HQ.out.1 hW) (cell_keep HQ.out.2.2.1 hW) (cell_keep HQ.out.2.2.2 hW) (ok.at_ ⟨h1, h2⟩) hb
    · rintro e w2 ⟨v, rfl, hown, hb2⟩
      obtain ⟨a', cap', rfl, hr⟩ := hown.gridA
      have HR := Lib.hid hr
      have HB2 := Lib.hid (below_next HA.out hb2)
      clear hown hr hb2
      go_wp2
      go_ret2
      exact ⟨a', cap', by rw [HZ.out, HC.out]; rfl, by rw [HZ.out]; exact HR.out.wide HA.out.size (Nat.le_refl _), HB2.out⟩
theorem scr_mix (g : List (List Int)) (r b l : Int) (R : Nat) (hR : (R : Int) = r) (m i j : Nat) : (if i = R ∧ j = m then scrF g r b l (R, m) else (if i = R ∧ j < m then scrF g r b l (i, j) else nth (nthL g i) j)) = if i = R ∧ j < m + 1 then scrF g r b l (i, j) else nth (nthL g i) j := by
  by_cases h : i = R ∧ j = m
  · obtain ⟨rfl, rfl⟩ := h
    rw [if_pos ⟨rfl, rfl⟩, if_pos ⟨rfl, by omega⟩]
  · rw [if_neg h]
    by_cases h1 : i = R ∧ j < m
    · rw [if_pos h1, if_pos (by omega)]
    · rw [if_neg h1, if_neg (by omega)]
set_option maxRecDepth 100000 in
theorem s_c (a : Option Addr) (cap : Nat) (g : List (List Int)) (r b l : Int) (w : World) (h : Grid w a g) (hs : Small g) :
    Calls Try.prog 43 #[.slice a g.length cap, .int .i64 r, .int .i64 b, .int .i64 l] w fun e w' => ∃ a' cap', e = .returned (.tuple #[.slice a' (fZ g r b l).length cap', .int .i64 (fC g r b l)]) ∧ (GridA w.heap.size w'.heap.size w' a' (fZ g r b l) ∧ Below w.heap.size w w') := by
  have hn := hs.len
  rcases and3 (gridB 1 200 g) (inB r 0 ((g.length : Int) - 1)) (inB b 0 200 && inB l 1 200) with h1 | ⟨h1, h2⟩ | ⟨h1, h2, h3⟩ | ⟨h1, h2, h3⟩
  · go_enter Try.func43, Try.ntmps43
    go_wp2_with fail
    refine call_below (l08Ok_c _ _ g _ h hs) ?_
    rw [h1]
    intro w1 hb1
    go_wp2
    go_ret2
    exact ⟨none, 0, by simp [fZ, fC, okB, h1], .inl (by simp [fZ, okB, h1]), hb1⟩
  · go_enter Try.func43, Try.ntmps43
    go_wp2_with fail
    refine call_below (l08Ok_c _ _ g _ h hs) ?_
    rw [h1]
    intro w1 hb1
    go_wp2_with (first | (go_at_call 61; refine call_same (l00In_c _ _ _ _) ?_) | (go_at_call 92; refine call_same (l08By_c _ _ _) ?_))
    go_ret2
    exact ⟨none, 0, by simp [fZ, fC, okB, h1, h2], .inl (by simp [fZ, okB, h1, h2]), hb1⟩
  · go_enter Try.func43, Try.ntmps43
    go_wp2_with fail
    refine call_below (l08Ok_c _ _ g _ h hs) ?_
    rw [h1]
    intro w1 hb1
    go_wp2_with fail
    refine call_same (l00In_c _ _ _ _) ?_
    rw [h2]
    go_wp2_with fail
    refine call_same (l08By_c _ _ _) ?_
    rw [h3]
    go_wp2
    go_ret2
    exact ⟨none, 0, by rw [fZ, fC, okB, h1, h2, h3]; rfl, .inl (by rw [fZ, okB, h1, h2, h3]; rfl), hb1⟩
  · have HZ := Lib.hid (show fZ g r b l = scrG g r b l by rw [fZ, okB, h1, h2, h3]; rfl)
    have HC := Lib.hid (show fC g r b l = 0 by rw [fC, h1, h2, h3]; rfl)
    have HS := Lib.hid (show (scrG g r b l).length = g.length from gridG_len _ _ _)
    have ok := gridB_true h1
    have h5 := h3
    rw [Bool.and_eq_true] at h5
    have hb := inB_true h5.1
    clear h5
    have hr := inB_true h2
    obtain ⟨R, hR⟩ : ∃ R : Nat, (R : Int) = r := ⟨r.toNat, by omega⟩
    subst hR
    have hlt : R < g.length := by omega
    have HV := Lib.hid (ok.range R hlt)
    have hrl := ok.len hlt
    have HLE := Lib.hid (fun j (hj : j < g.length) => (ok.len hj).1)
    have hg := ok.rows
    clear ok
    go_enter Try.func43, Try.ntmps43
    go_wp2_with fail
    refine call_below (l08Ok_c _ _ g _ h hs) ?_
    rw [h1]
    intro w1 hb1
    go_wp2_with fail
    refine call_same (l00In_c _ _ _ _) ?_
    rw [h2]
    go_wp2_with fail
    refine call_same (l08By_c _ _ _) ?_
    rw [h3]
    go_wp2_with fail
    refine (l08Own_c a cap g _ (h.below hb1) hs HLE.out).mono ?_
    rintro e w2 ⟨v, rfl, hown, hb2⟩
    obtain ⟨a1, c1, rfl, hga⟩ := hown.gridA
    obtain ⟨bo, rr, cc, rfl, hgf⟩ := hga.gridF (by omega)
    have HF0 := Lib.hid (hgf.congr (f' := fun i j => if i = R ∧ j < 0 then scrF g R b l (i, j) else nth (nthL g i) j) fun j _ k _ => by rw [if_neg (by omega)])
    have HB1 := Lib.hid (below_next hb1 hb2)
    have HSZ := Lib.hid hb1.size
    clear hown hga hgf hb1 hb2 h h1 h2 h3
    go_wp2
    go_loopw [11] (fun i wr => ∃ m : Nat, m ≤ (nthL g R).length ∧ i = .int .i64 m ∧ GridF w1.heap.size w2.heap.size wr bo rr cc g (fun i j => if i = R ∧ j < m then scrF g R b l (i, j) else nth (nthL g i) j) ∧ Mid w1.heap.size w2.heap.size w2 wr) (fun i _ => (nthL g R).length - (intOf i).toNat)
    case atStart => exact ⟨0, Nat.zero_le _, rfl, HF0.out, Mid.refl _ _ _⟩
    case round =>
      obtain ⟨m, hm, rfl, hgf, hmd⟩ := hrel
      have HF2 := Lib.hid hgf
      have HM2 := Lib.hid hmd
      clear hgf hmd HF0
      obtain ⟨hc0, hrr, hrc⟩ := HF2.out.2.1 R hlt
      by_cases hmt : m < (nthL g R).length
      · obtain ⟨d0, f0⟩ := hrc m hmt
        dsimp only at d0
        rw [if_neg (by omega)] at d0
        have hv := HV.out m hmt
        have HEK := Lib.hid (show thinF (nth (nthL g R) m) b l = scrF g R b l (R, m) by unfold scrF; rw [if_pos rfl]; rfl)
        clear hrc
        have HFD := Lib.hid (HF2.out.below (by rw [HM2.out.size]; exact Nat.le_refl _) (Below.refl _ _).drew)
        have HMD := Lib.hid (HM2.out.drew)
        have d0' : wr.drew.cell? ⟨rr R, m, none⟩ = some (.int .i64 (nth (nthL g R) m)) := d0
        have f0' : wr.drew.frozen? ⟨rr R, m, none⟩ = false := f0
        have j0 : (0 : Int) ≤ (R : Int) := by omega
        have j1 : (R : Int) < g.length := by omega
        have j2 : (0 : Int) ≤ (m : Int) := by omega
        have j3 : (m : Int) < (nthL g R).length := by omega
        go_wp2_with fail
        go_still_tail 16, (by kernel_rfl)
        still_call (to_still (l08Thin_c _ _ _ _ hv hb))
        repeat still_step
        refine wpStill_nil ?_
        change wpList _ _ _ _ _ wr.drew
        clear d0 f0 hc0 j0 j1 j2 j3
        generalize wr.drew = wd at HFD HMD d0' f0' ⊢
        have HN := Lib.hid (show GridF w1.heap.size w2.heap.size (wd.setCell ⟨rr R, m, none⟩ (.int .i64 (thinF (nth (nthL g R) m) b l))) bo rr cc g (fun i j => if i = R ∧ j < m + 1 then scrF g R b l (i, j) else nth (nthL g i) j) by
          rw [HEK.out]; exact (HFD.out.set hlt hmt _).congr fun j _ q _ => scr_mix g R b l R rfl m j q)
        have HMN := Lib.hid (HMD.out.setCell hrr.1 hrr.2.1 (p := ⟨rr R, m, none⟩) (.int .i64 (thinF (nth (nthL g R) m) b l)))
        go_wp2
        go_roundw
        case rel => exact ⟨m + 1, by omega, by go_num, HN.out, HMN.out⟩
        case measure => simp [intOf]; omega
      · obtain rfl : m = (nthL g R).length := by omega
        have HN := Lib.hid (HF2.out.congr (f' := fun i j => scrF g R b l (i, j)) fun j _ q hq => by
          by_cases h1 : j = R
          · subst h1; rw [if_pos ⟨rfl, hq⟩]
          · rw [if_neg (fun h2 => h1 h2.1)]
            unfold scrF
            rw [if_neg (by simp only; omega)]; rfl)
        have hsz := HM2.out.size
        have HBZ := Lib.hid (show Below w.heap.size w wr from HB1.out.trans (HM2.out.below.mono HSZ.out))
        have HG := Lib.hid (show GridA w.heap.size wr.heap.size wr (some ⟨bo, 0, none⟩) (scrG g R b l) by rw [hsz]; exact HN.out.gridA.wide HSZ.out (Nat.le_refl _))
        clear hrc hsz
        go_wp2
        go_ret2
        exact ⟨some ⟨bo, 0, none⟩, c1, by rw [HZ.out, HC.out, HS.out]; rfl, by rw [HZ.out]; exact HG.out, HBZ.out⟩
set_option maxRecDepth 100000 in
set_option maxHeartbeats 1000000 in
theorem walk (a0 : Option Addr) (cap0 : Nat) (z0 : List (List Int)) (m1 : Int) (m2 : Int) (m3 : Int) (w : World) (h0 : Grid w a0 z0) (hm0 : z0.length ≤ maxLen) (hr0 : ∀ j, j < z0.length → (nthL z0 j).length ≤ maxLen) (_ : (Lit.int .i64 m1).wf = true) (_ : (Lit.int .i64 m2).wf = true) (_ : (Lit.int .i64 m3).wf = true) :
    Calls Try.prog 11 #[.slice a0 z0.length cap0, .int .i64 m1, .int .i64 m2, .int .i64 m3] w fun e w' => e = .returned (.bool true) ∧ Below w.heap.size w w' := by
  have hZ := f_small z0 m1 m2 m3
  have HZ := Lib.hid hZ
  clear hZ
  by_cases hn0 : ((z0.length + sumL z0 z0.length : Nat) : Int) ≤ 1048576
  rotate_left
  · have HN0 := Lib.hid hn0
    clear hn0
    go_enter Try.func11, Try.ntmps11
    go_wp2_with fail
    refine call_same (szInt64SS_c a0 cap0 z0 _ _ h0 hm0 hr0 (by omega) (by omega)) ?_
    rw [szF_no]
    rotate_left
    · have := HN0.out; omega
    go_wp2
    go_ret
    exact ⟨rfl, Below.refl _ _⟩
  have hS0 : Small z0 := by unfold Small; omega
  have HN0 := Lib.hid hn0
  have HS0 := Lib.hid hS0
  have hq0 : (z0.length : Int) + (sumL z0 z0.length : Int) ≤ 1048576 := by omega
  clear hn0 hS0
  go_enter Try.func11, Try.ntmps11
  go_wp2_with fail
  refine call_same (szInt64SS_c a0 cap0 z0 _ _ h0 hm0 hr0 (by omega) (by omega)) ?_
  rw [szF_yes]
  rotate_left
  · have := HN0.out; omega
  go_wp2_with fail
  refine call_pred (toInt64SS_c a0 cap0 z0 _ h0 HS0.out) ?_
  rintro w1 ⟨r1, b1⟩
  have HA1 := Lib.hid b1
  have HY1 := Lib.hid (Laid.grid r1)
  clear r1 b1
  go_wp2_with fail
  refine (s_c _ _ z0 m1 m2 m3 _ HY1.out HS0.out).mono ?_
  rintro e2 w2 ⟨a2, c2, rfl, r2, b2⟩
  have HA2 := Lib.hid (below_next HA1.out b2)
  have HW2 := Lib.hid r2.grid
  clear r2 b2 HY1
  go_wp2_with fail
  refine call_pred (toInt64SS_c a0 cap0 z0 _ (h0.below HA2.out) HS0.out) ?_
  rintro w3 ⟨r3, b3⟩
  have HA3 := Lib.hid (below_next HA2.out b3)
  have HB3 := Lib.hid b3
  have HX3 := Lib.hid (Laid.gridA r3)
  have HC3 := Lib.hid (Nat.le_refl w3.heap.size)
  clear r3 b3
  go_wp2_with fail
  refine (i_c _ _ z0 m1 m2 m3 _ HX3.out.grid HS0.out).mono ?_
  rintro e4 w4 ⟨a4, c4, rfl, r4, b4⟩
  have HA4 := Lib.hid (below_next HA3.out b4)
  have HB4 := Lib.hid (below_next HB3.out b4)
  have HX4 := Lib.hid (HX3.out.below HC3.out b4)
  have HC4 := Lib.hid (Nat.le_trans HC3.out b4.size)
  have HG4 := Lib.hid r4
  have HD4 := Lib.hid (Nat.le_refl w4.heap.size)
  clear r4 b4
  go_wp2_with fail
  refine call_below (eqInt64SS_c a4 a2 _ _ (fZ z0 m1 m2 m3) _ HG4.out.grid (HW2.out.below HB4.out) HZ.out) ?_
  intro w5 b5
  have HA5 := Lib.hid (below_next HA4.out b5)
  have HB5 := Lib.hid (below_next HB4.out b5)
  have HX5 := Lib.hid (HX4.out.below HC4.out b5)
  have HG5 := Lib.hid (HG4.out.below HD4.out b5)
  have HC5 := Lib.hid (Nat.le_trans HC4.out b5.size)
  have HD5 := Lib.hid (Nat.le_trans HD4.out b5.size)
  clear b5
  go_wp2_with fail
  refine call_pred (toInt64SS_c a0 cap0 z0 _ (h0.below HA5.out) HS0.out) ?_
  rintro w6 ⟨r6, b6⟩
  have HA6 := Lib.hid (below_next HA5.out b6)
  have HB6 := Lib.hid (below_next HB5.out b6)
  have HX6 := Lib.hid (HX5.out.below HC5.out b6)
  have HG6 := Lib.hid (HG5.out.below HD5.out b6)
  have HC6 := Lib.hid (Nat.le_trans HC5.out b6.size)
  have HD6 := Lib.hid (Nat.le_trans HD5.out b6.size)
  have HY6 := Lib.hid (Laid.grid r6)
  clear r6 b6
  go_wp2_with fail
  refine call_below (eqInt64SS_c _ _ _ _ z0 _ HX6.out.grid HY6.out HS0.out) ?_
  intro w7 b7
  have HA7 := Lib.hid (below_next HA6.out b7)
  have HB7 := Lib.hid (below_next HB6.out b7)
  have HX7 := Lib.hid (HX6.out.below HC6.out b7)
  have HG7 := Lib.hid (HG6.out.below HD6.out b7)
  have HC7 := Lib.hid (Nat.le_trans HC6.out b7.size)
  have HD7 := Lib.hid (Nat.le_trans HD6.out b7.size)
  clear b7 HY6
  go_wp2_with fail
  refine call_pred (markInt64SS_c _ _ _ _ z0 1 _ HX7.out HS0.out (by omega) (by omega)) ?_
  rintro w8 ⟨r8, md8⟩
  have HA8 := Lib.hid (HA7.out.trans (md8.below.mono HA2.out.size))
  have HB8 := Lib.hid (HB7.out.trans (md8.below))
  have HG8 := Lib.hid (HG7.out.mid md8 (.inl (Nat.le_refl _)))
  have HC8 := Lib.hid (Nat.le_trans HC7.out (Nat.le_of_eq md8.size.symm))
  have HD8 := Lib.hid (Nat.le_trans HD7.out (Nat.le_of_eq md8.size.symm))
  clear md8 HX3 HX4 HX5 HX6 HX7 r8
  go_wp2_with fail
  refine call_below (eqInt64SS_c a4 a2 _ _ (fZ z0 m1 m2 m3) _ HG8.out.grid (HW2.out.below HB8.out) HZ.out) ?_
  intro w9 b9
  have HA9 := Lib.hid (below_next HA8.out b9)
  have HB9 := Lib.hid (below_next HB8.out b9)
  have HG9 := Lib.hid (HG8.out.below HD8.out b9)
  have HC9 := Lib.hid (Nat.le_trans HC8.out b9.size)
  have HD9 := Lib.hid (Nat.le_trans HD8.out b9.size)
  clear b9
  go_wp2_with fail
  refine call_pred (markInt64SS_c _ _ a4 _ (fZ z0 m1 m2 m3) 1 _ HG9.out HZ.out (by omega) (by omega)) ?_
  rintro w10 ⟨r10, md10⟩
  have HA10 := Lib.hid (HA9.out.trans (md10.below.mono HA3.out.size))
  have HB10 := Lib.hid (HB9.out.trans (md10.below.mono HB3.out.size))
  have HC10 := Lib.hid (Nat.le_trans HC9.out (Nat.le_of_eq md10.size.symm))
  have HD10 := Lib.hid (Nat.le_trans HD9.out (Nat.le_of_eq md10.size.symm))
  have HG10 := Lib.hid r10
  clear r10 md10
  go_wp2_with fail
  refine call_same (heldInt64SS_c a4 _ 1 (fZ z0 m1 m2 m3) _ HG10.out.grid HZ.out (by omega) (by omega)) ?_
  go_wp2_with fail
  refine call_pred (toInt64SS_c a0 cap0 z0 _ (h0.below HA10.out) HS0.out) ?_
  rintro w11 ⟨r11, b11⟩
  have HA11 := Lib.hid (below_next HA10.out b11)
  have HB11 := Lib.hid (below_next HB10.out b11)
  have HG11 := Lib.hid (HG10.out.below HD10.out b11)
  have HC11 := Lib.hid (Nat.le_trans HC10.out b11.size)
  have HD11 := Lib.hid (Nat.le_trans HD10.out b11.size)
  have HY11 := Lib.hid (Laid.grid r11)
  clear r11 b11
  go_wp2_with fail
  refine (i_c _ _ z0 m1 m2 m3 _ HY11.out HS0.out).mono ?_
  rintro e12 w12 ⟨a12, c12, rfl, r12, b12⟩
  have HA12 := Lib.hid (below_next HA11.out b12)
  have HB12 := Lib.hid (below_next HB11.out b12)
  have HG12 := Lib.hid (HG11.out.below HD11.out b12)
  have HC12 := Lib.hid (Nat.le_trans HC11.out b12.size)
  have HD12 := Lib.hid (Nat.le_trans HD11.out b12.size)
  have HH12 := Lib.hid r12.grid
  clear r12 b12
  go_wp2_with fail
  refine call_below (eqInt64SS_c a12 a2 _ _ (fZ z0 m1 m2 m3) _ HH12.out (HW2.out.below HB12.out) HZ.out) ?_
  intro w13 b13
  have HA13 := Lib.hid (below_next HA12.out b13)
  have HB13 := Lib.hid (below_next HB12.out b13)
  have HG13 := Lib.hid (HG12.out.below HD12.out b13)
  have HC13 := Lib.hid (Nat.le_trans HC12.out b13.size)
  have HD13 := Lib.hid (Nat.le_trans HD12.out b13.size)
  clear b13
  go_wp2_with fail
  refine call_same (heldInt64SS_c a4 _ 1 (fZ z0 m1 m2 m3) _ HG13.out.grid HZ.out (by omega) (by omega)) ?_
  go_wp2
  go_ret
  exact ⟨rfl, HA13.out⟩

theorem own : ownKnob Try.prog.godebug = none := by kernel_rfl
theorem laidOut : laidOutB Try.prog = true := by kernel_rfl
set_option maxRecDepth 100000 in
theorem lifted (os : Os) (started : os.Started) (H : Type) (enc : TypeId × Value → H) :
    ReturnsInHanded {} Try.checked os 11 .any (Rows.fnExactScrapeRowSpec.pre6 enc Try.prog Try.f11 Rows.fnExactScrapeRowRow.domain false) (Rows.fnExactScrapeRowSpec.post enc Try.prog Try.f11 false true false false) := by
  refine returnsInHanded_of_change (C := Try.checked) own started (by kernel_rfl) Try.func11
    (ChangeSpec.witness6 (enc := enc) (C := Try.checked) false ⟨#[], #[.slice none 0 0, .int .i64 0, .int .i64 0, .int .i64 0], []⟩ 8 (by kernel_rfl) (by kernel_rfl) (by kernel_rfl) (by kernel_rfl)) ?_
  intro W base args ds gs before hval0 hW hcnd _
  have hval : ∀ (j : Nat) t v, Try.f11.params[j]? = some t → args[j]? = some v → Value.okWide Try.prog W .any base t v := hval0
  have hW' := hW
  obtain ⟨p, q, hA0, hV, rfl, hfz, hnd⟩ := hW
  have hA : DataW.TrodAll enc Try.prog W 0 (fun _ => true) true Try.f11.params.toList args.toList ds p := hA0
  rw [Try.params11] at hA hval
  obtain ⟨v0, vs0, d0, ds0, p0, q0, hargs, rfl, rfl, h0, r0⟩ := trodAll_cons hA
  obtain ⟨v1, vs1, d1, ds1, p1, q1, rfl, rfl, rfl, h1, r1⟩ := trodAll_cons r0
  obtain ⟨v2, vs2, d2, ds2, p2, q2, rfl, rfl, rfl, h2, r2⟩ := trodAll_cons r1
  obtain ⟨v3, vs3, d3, ds3, p3, q3, rfl, rfl, rfl, h3, r3⟩ := trodAll_cons r2
  obtain ⟨rfl, rfl, rfl⟩ := trodAll_nil r3
  obtain rfl : args = #[v0, v1, v2, v3] := by cases args; simp_all
  obtain ⟨rfl, rfl⟩ := trodVars_none hV
  have k0 := h0
  have lt0 : ∀ x ∈ p0, x.block < W.heap.size := by obtain ⟨m, hm⟩ := k0; exact DataW.trod_lt m _ _ _ hm
  obtain ⟨a0, len0, cap0, rfl⟩ := okWide_slice Try.underlying22 (hval 0 22 v0 rfl rfl)
  obtain ⟨z0, rfl, w0, m0, f0⟩ : ∃ g : List (List Int), g.length = len0 ∧ Grid W a0 g ∧ g.length ≤ maxLen ∧ ∀ j, j < g.length → (nthL g j).length ≤ maxLen := by
    obtain ⟨fuel, hf⟩ := h0
    exact grid_open Try.underlying22 Try.underlying32 Try.underlying2 (by kernel_rfl) (by kernel_rfl) hf
  have k1 := h1
  have lt1 : ∀ x ∈ p1, x.block < W.heap.size := by obtain ⟨m, hm⟩ := k1; exact DataW.trod_lt m _ _ _ hm
  obtain ⟨a1, rfl, rfl, rfl, w1⟩ := open_int Try.underlying2 (hval 1 2 v1 rfl rfl) h1
  have k2 := h2
  have lt2 : ∀ x ∈ p2, x.block < W.heap.size := by obtain ⟨m, hm⟩ := k2; exact DataW.trod_lt m _ _ _ hm
  obtain ⟨a2, rfl, rfl, rfl, w2⟩ := open_int Try.underlying2 (hval 2 2 v2 rfl rfl) h2
  have k3 := h3
  have lt3 : ∀ x ∈ p3, x.block < W.heap.size := by obtain ⟨m, hm⟩ := k3; exact DataW.trod_lt m _ _ _ hm
  obtain ⟨a3, rfl, rfl, rfl, w3⟩ := open_int Try.underlying2 (hval 3 2 v3 rfl rfl) h3
  clear hA0 hval0
  refine (walk a0 cap0 z0 a1 a2 a3 W w0 m0 f0 w1 w2 w3).mono fun e W' ⟨he, bel⟩ => ?_
  subst he
  exact ⟨_, rfl, _, _, _, [], _, [], hW', trodAll_mk1 (shut_bool Try.underlying4 _), (trodAll_cons_mk (Below.trod laidOut (by kernel_rfl) (of_decide_eq_true (by kernel_rfl)) k0 bel lt0) (trodAll_cons_mk (Below.trod laidOut (by kernel_rfl) (of_decide_eq_true (by kernel_rfl)) k1 bel lt1) (trodAll_cons_mk (Below.trod laidOut (by kernel_rfl) (of_decide_eq_true (by kernel_rfl)) k2 bel lt2) (trodAll_cons_mk (Below.trod laidOut (by kernel_rfl) (of_decide_eq_true (by kernel_rfl)) k3 bel lt3) trodAll_mk0)))), rfl, bel.frame _, fun h => by cases h⟩

theorem over : Rows.fnExactScrapeRowRow.holds Try.pinned (OpenSpec.ofChange Rows.fnExactScrapeRowSpec) :=
  OpenClaim.holds_of_wide 11 Try.f11 rfl rfl rfl rfl rfl rfl rfl ⟨rfl, rfl, rfl, rfl, rfl⟩ rfl rfl rfl rfl rfl (by kernel_rfl) Try.func11 (by kernel_rfl)
    (of_decide_eq_true (by kernel_rfl)) (by unfold Func.isWrapper; first | (rw [if_pos (by decide +kernel)]; kernel_rfl) | (rw [if_neg (by decide +kernel)]; exact ⟨rfl, rfl⟩))
    (fun os started H enc _ => lifted os started H enc)

/-- THE STATEMENT. -/
theorem proved : Rows.FnExactScrapeRowSaid := over
#print axioms proved
end Go.Proofs.Ytejcglenjhkhhaa.lawScrapeRow
