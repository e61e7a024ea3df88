/- What TooThin returns, on both sides. -/
import Derived.Test.YtpklckpnhjhnhaaChosen
import Derived.Test.YtpklckpnhjhnhaaThin
namespace Go.Proofs.Ytpklckpnhjhnhaa.shTooThin
open Go.ChangeShapes Go.WideShapes Go.RowKit
set_option linter.unusedVariables false

def thinB (g : List (List Int)) (l : Int) (p : Nat × Nat) : Bool := decide (atG g p < l)
def okB (g : List (List Int)) (l : Int) : Bool := gridB 1 200 g && inB l 1 200
def fZ (g : List (List Int)) (l : Int) : List (List Int) := if okB g l then chosenG g (thinB g l) else []
def fC (g : List (List Int)) (l : Int) : Int := if gridB 1 200 g then (if inB l 1 200 then 0 else 2) else 1
theorem f_small (g : List (List Int)) (l : Int) : Small (fZ g l) := by
  unfold fZ okB
  cases h : gridB 1 200 g
  · simp [Small, sumL]
  · cases inB l 1 200
    · simp [Small, sumL]
    · simpa using chosen_small (gridB_true h) (thinB g l)
theorem keep4c {w1 w2 : World} {b b0 b1 : Nat} {v0 v1 v2 v3 : Value} (d : w1.cell? ⟨b, 0, none⟩ = some v0 ∧ w1.cell? ⟨b, 1, none⟩ = some v1 ∧ w1.cell? ⟨b0, 0, none⟩ = some v2 ∧ w1.cell? ⟨b1, 0, none⟩ = some v3) (h : Below w1.heap.size w1 w2) :
    w2.cell? ⟨b, 0, none⟩ = some v0 ∧ w2.cell? ⟨b, 1, none⟩ = some v1 ∧ w2.cell? ⟨b0, 0, none⟩ = some v2 ∧ w2.cell? ⟨b1, 0, none⟩ = some v3 ∧ Below w1.heap.size w1 w2 :=
  ⟨cell_keep d.1 h, cell_keep d.2.1 h, cell_keep d.2.2.1 h, cell_keep d.2.2.2 h, h⟩
theorem thin2_c (p : Nat × Nat) (b0 b1 : Nat) (a : Option Addr) (cap : Nat) (g : List (List Int)) (l : Int) (W : World) (h : Grid W a g) (hs : Small g) (hp : p.1 < g.length ∧ p.2 < (nthL g p.1).length)
    (c0 : W.cell? ⟨b0, 0, none⟩ = some (.slice a g.length cap)) (c1 : W.cell? ⟨b1, 0, none⟩ = some (.int .i64 l)) :
    Calls Try.prog 56 #[.agg #[.int .i64 p.1, .int .i64 p.2], .pointer (some ⟨b0, 0, none⟩), .pointer (some ⟨b1, 0, none⟩)] W fun e W' => e = .returned (.bool (thinB g l p)) ∧ Below W.heap.size W W' := by
  have HA := Lib.hid (show Below W.heap.size W (W.alloc (.cells #[.int .i64 p.1, .int .i64 p.2] 51)) from (Below.refl _ _).alloc (Nat.le_refl _) _)
  have e0 : (W.alloc (.cells #[.int .i64 p.1, .int .i64 p.2] 51)).cell? ⟨W.heap.size, 0, none⟩ = some (.int .i64 p.1) := by go_cell
  have e1 : (W.alloc (.cells #[.int .i64 p.1, .int .i64 p.2] 51)).cell? ⟨W.heap.size, 1, none⟩ = some (.int .i64 p.2) := by go_cell
  have HQ := Lib.hid (And.intro e0 (And.intro e1 (And.intro (cell_keep c0 HA.out) (cell_keep c1 HA.out))))
  have HG := Lib.hid (h.below HA.out)
  have HF := Lib.hid (show thinB g l p = decide (atG g p < l) from rfl)
  clear h e0 e1 c0 c1
  go_enter Try.func56, Try.ntmps56
  go_wp2_with fail
  generalize W.alloc (.cells #[.int .i64 p.1, .int .i64 p.2] 51) = wA at HA HQ HG ⊢
  go_region_held3 (fun w' => w'.cell? ⟨W.heap.size, 0, none⟩ = some (.int .i64 p.1) ∧ w'.cell? ⟨W.heap.size, 1, none⟩ = some (.int .i64 p.2) ∧ w'.cell? ⟨b0, 0, none⟩ = some (.slice a g.length cap) ∧ w'.cell? ⟨b1, 0, none⟩ = some (.int .i64 l) ∧ Below wA.heap.size wA w')
    (first | exact keep4c HQ.out (Below.refl _ _).drew | exact keep4c HQ.out (below_next (Below.refl _ _).drew hb3) | go_keep)
    (first | (go_at_call 33; refine call_below (of_c _ _ g p _ ?_ hs hp.1 hp.2) ?_; (exact HG.out.below (Below.refl _ _).drew); intro w3 hb3))
  go_wp2
  go_ret
  exact ⟨by rw [HF.out]; rfl, below_next HA.out (below_next (Below.refl _ _).drew hb3)⟩

theorem i_c (a : Option Addr) (cap : Nat) (g : List (List Int)) (l : Int) (w : World) (h : Grid w a g) (hs : Small g) :
    Calls Try.prog 25 #[.slice a g.length cap, .int .i64 l] w fun e w' => ∃ a' cap', e = .returned (.tuple #[.slice a' (fZ g l).length cap', .int .i64 (fC g l)]) ∧ (GridA w.heap.size w'.heap.size w' a' (fZ g l) ∧ Below w.heap.size w w') := by
  have hmf : ∀ (fn : Fn) (first cap : Array Value) (w : World), (Instr.makeFunc fn first cap).run Try.prog w = .ok (.func fn first cap) w := fun _ _ _ _ => rfl
  have HA := Lib.hid (show Below w.heap.size w ((w.alloc (.cells #[.slice a g.length cap] 24)).alloc (.cells #[.int .i64 l] 2)) from ((Below.refl _ _).alloc (Nat.le_refl _) _).alloc (by simp) _)
  have e0 : ((w.alloc (.cells #[.slice a g.length cap] 24)).alloc (.cells #[.int .i64 l] 2)).cell? ⟨w.heap.size, 0, none⟩ = some (.slice a g.length cap) := by go_cell
  have e1 : ((w.alloc (.cells #[.slice a g.length cap] 24)).alloc (.cells #[.int .i64 l] 2)).cell? ⟨w.heap.size + 1, 0, none⟩ = some (.int .i64 l) := by go_cell
  have HQ := Lib.hid (And.intro e0 e1)
  rcases and2 (gridB 1 200 g) (inB l 1 200) with h1 | ⟨h1, h2⟩ | ⟨h1, h2⟩
  · go_enter Try.func25, Try.ntmps25
    go_wp2_with fail
    refine call_same (validPlate_c _ _ g _ (h.below HA.out) hs) ?_
    rw [h1]
    go_wp2
    go_ret2
    exact ⟨none, 0, by simp [fZ, fC, okB, h1], .inl (by simp [fZ, okB, h1]), HA.out⟩
  · go_enter Try.func25, Try.ntmps25
    go_wp2_with fail
    refine call_same (validPlate_c _ _ g _ (h.below HA.out) hs) ?_
    rw [h1]
    go_wp2_with fail
    refine call_same (isLeast_c _ _) ?_
    rw [h2]
    go_wp2
    go_ret2
    exact ⟨none, 0, by simp [fZ, fC, okB, h1, h2], .inl (by simp [fZ, okB, h1, h2]), HA.out⟩
  · have HZ := Lib.hid (show fZ g l = chosenG g (thinB g l) by simp [fZ, okB, h1, h2])
    have HC := Lib.hid (show fC g l = 0 by simp [fC, h1, h2])
    go_enter Try.func25, Try.ntmps25
    go_wp2_with fail
    refine call_same (validPlate_c _ _ g _ (h.below HA.out) hs) ?_
    rw [h1]
    go_wp2_with fail
    refine call_same (isLeast_c _ _) ?_
    rw [h2]
    go_wp2_with fail
    generalize (w.alloc (.cells #[.slice a g.length cap] 24)).alloc (.cells #[.int .i64 l] 2) = wA at HA HQ ⊢
    have HG := Lib.hid (h.below HA.out)
    clear e0 e1 h hmf h1 h2
    refine (chosen_thin a cap g w.heap.size (w.heap.size + 1) (thinB g l) wA HG.out hs ?_).mono ?_
    · intro p W h1 h2 hW
      exact thin2_c p _ _ a cap g l W (HG.out.below hW) hs ⟨h1, h2⟩ (cell_keep HQ.out.1 hW) (cell_keep HQ.out.2 hW)
    · rintro e w2 ⟨v, rfl, hown, hb2⟩
      obtain ⟨a', cap', rfl, hr⟩ := hown.gridA
      have HR := Lib.hid hr
      have HB2 := Lib.hid (below_next HA.out hb2)
      clear hown hr hb2
      go_wp2
      go_ret2
      exact ⟨a', cap', by rw [HZ.out, HC.out]; rfl, by rw [HZ.out]; exact HR.out.wide HA.out.size (Nat.le_refl _), HB2.out⟩
theorem own_new1b (w : World) (e : TypeId) (u : Value) (n : Nat) (hn : n = w.heap.size) : ∀ j x, [u][j]? = some x → (w.alloc (.cells #[u] e)).cell? ((⟨n, 0, none⟩ : Addr).add j) = some x := by
  subst hn
  exact own_new1 w e u
end Go.Proofs.Ytpklckpnhjhnhaa.shTooThin
