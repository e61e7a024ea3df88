/- What SmoothArch returns, on both sides. -/
import Derived.Test.YtlenihncfhemkaaSmooth
namespace Go.Proofs.Ytlenihncfhemkaa.shSmoothArch
open Go.ChangeShapes Go.WideShapes Go.RowKit
set_option linter.unusedVariables false

def smG (g : List (List Int)) : List (List Int) := gridG (smF g) (lenG g) g.length
def fZ (g : List (List Int)) : List (List Int) := if gridB 0 1000 g then smG g else []
def fC (g : List (List Int)) : Int := if gridB 0 1000 g then 0 else 1
theorem f_small (g : List (List Int)) : Small (fZ g) := by
  unfold fZ
  cases h : gridB 0 1000 g
  · simp [Small, sumL]
  · have ok := gridB_true h
    simpa using (show Small (smG g) from gridG_small ok.rows.2 fun i hi => (ok.len hi).2)
theorem i_c (a : Option Addr) (cap : Nat) (g : List (List Int)) (w : World) (h : Grid w a g) (hs : Small g) :
    Calls Try.prog 11 #[.slice a g.length cap] w fun e w' => ∃ a' cap', e = .returned (.tuple #[.slice a' (fZ g).length cap', .int .i64 (fC g)]) ∧ (GridA w.heap.size w'.heap.size w' a' (fZ g) ∧ Below w.heap.size w w') := by
  have hmf : ∀ (fn : Fn) (first cap : Array Value) (w : World), (Instr.makeFunc fn first cap).run Try.prog w = .ok (.func fn first cap) w := fun _ _ _ _ => rfl
  have HA := Lib.hid (show Below w.heap.size w (w.alloc (.cells #[.slice a g.length cap] 24)) from (Below.refl _ _).alloc (Nat.le_refl _) _)
  have e0 : (w.alloc (.cells #[.slice a g.length cap] 24)).cell? ⟨w.heap.size, 0, none⟩ = some (.slice a g.length cap) := by go_cell
  have HQ := Lib.hid e0
  cases h1 : gridB 0 1000 g
  · go_enter Try.func11, Try.ntmps11
    go_wp2_with fail
    refine call_same (validArch_c _ _ g _ (h.below HA.out) hs) ?_
    rw [h1]
    go_wp2
    go_ret2
    exact ⟨none, 0, by simp [fZ, fC, h1], .inl (by simp [fZ, h1]), HA.out⟩
  · have HZ := Lib.hid (show fZ g = smG g by simp [fZ, h1])
    have HC := Lib.hid (show fC g = 0 by simp [fC, h1])
    have ok := gridB_true h1
    go_enter Try.func11, Try.ntmps11
    go_wp2_with fail
    refine call_same (validArch_c _ _ g _ (h.below HA.out) hs) ?_
    rw [h1]
    go_wp2_with fail
    generalize w.alloc (.cells #[.slice a g.length cap] 24) = wA at HA HQ ⊢
    have HG := Lib.hid (h.below HA.out)
    clear e0 h hmf h1
    refine (mapped_smooth a cap g w.heap.size (smF g) wA HG.out hs (fun j hj => (ok.len hj).1) ?_).mono ?_
    · intro p W h1 h2 hW
      exact smooth1_c p _ a cap g W (HG.out.below hW) hs ok ⟨h1, h2⟩ (cell_keep HQ.out hW)
    · rintro e w2 ⟨v, rfl, hown, hb2⟩
      obtain ⟨a', cap', rfl, hr⟩ := hown.gridA
      have HR := Lib.hid hr
      have HB2 := Lib.hid (below_next HA.out hb2)
      clear hown hr hb2
      go_wp2
      go_ret2
      exact ⟨a', cap', by rw [HZ.out, HC.out]; rfl, by rw [HZ.out]; exact HR.out.wide HA.out.size (Nat.le_refl _), HB2.out⟩

end Go.Proofs.Ytlenihncfhemkaa.shSmoothArch
