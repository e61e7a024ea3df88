/- Whether a string holds with a share: the program's method and the reference's function. -/
import Derived.Test.YtpklckpnhjhnhaaDoorCord2
namespace Go.Proofs.YtpklckpnhjhnhaaDoor
open Go.RowKit

/-- Whether a string holds with a share of its strength. -/
def holdB (p l g s m : Int) : Bool := decide (1000 * tenF p l g ≤ m * s)
/-- A strength and a share within their bounds. -/
def ShareIn (s m : Int) : Prop := (1 ≤ s ∧ s ≤ 500000) ∧ (0 ≤ m ∧ m ≤ 1000)

theorem isShare_c (n : Int) (w : World) : Calls Tryd.prog 37 #[.int .i64 n] w fun e w' => e = .returned (.bool (inB n 0 1000)) ∧ w = w' := by
  go_enter Tryd.func37, Tryd.ntmps37
  go_wp2_with (go_at_call 36; refine call_same (within_c _ _ _ _) ?_)
  go_ret
  exact ⟨rfl, rfl⟩
theorem holds_c (p l g s m : Int) (w : World) (hi : CordIn p l g) (hs : ShareIn s m) :
    Calls Tryd.prog 38 #[.agg #[.int .i64 p, .int .i64 l, .int .i64 g, .int .i64 s], .int .i64 m] w fun e w' => e = .returned (.bool (holdB p l g s m)) ∧ Below w.heap.size w w' := by
  obtain ⟨hs1, hs2⟩ := hs
  have hT := tenF_bd hi
  have hm := mul_bd (a := m) (b := s) hs2.1 hs2.2 (by omega) hs1.2
  have i1 := IntWalk.i64_in (1000 * tenF p l g) (by omega)
  have i2 := IntWalk.i64_in (m * s) (by omega)
  go_enter Tryd.func38, Tryd.ntmps38
  go_wp2_with fail
  have HD := Lib.hid (box_four (w := w) (t := 25) (v0 := .int .i64 p) (v1 := .int .i64 l) (v2 := .int .i64 g) (v3 := .int .i64 s) (Below.refl _ _))
  go_region_held3 (fun w' => w'.cell? ⟨w.heap.size, 0, none⟩ = some (.int .i64 p) ∧ w'.cell? ⟨w.heap.size, 1, none⟩ = some (.int .i64 l) ∧ w'.cell? ⟨w.heap.size, 2, none⟩ = some (.int .i64 g) ∧ w'.cell? ⟨w.heap.size, 3, none⟩ = some (.int .i64 s) ∧ Below (w.alloc (.cells #[.int .i64 p, .int .i64 l, .int .i64 g, .int .i64 s] 25)).heap.size (w.alloc (.cells #[.int .i64 p, .int .i64 l, .int .i64 g, .int .i64 s] 25)) w') (first | exact keep4 HD.out (Below.refl _ _).drew | exact keep4 HD.out (below_next (Below.refl _ _).drew hb2) | go_keep)
    (first | (go_at_call 33; refine call_below (tension_c p l g s _ hi) ?_; intro w2 hb2))
  go_wp2
  go_ret
  exact ⟨rfl, below_from (below_next (Below.refl _ _).drew hb2)⟩

end Go.Proofs.YtpklckpnhjhnhaaDoor
