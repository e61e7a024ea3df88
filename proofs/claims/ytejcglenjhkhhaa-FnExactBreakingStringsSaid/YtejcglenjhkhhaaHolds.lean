/- Whether a string holds with a share: the program's method and the reference's function. -/
import Derived.Test.YtejcglenjhkhhaaCord2
namespace Go.Proofs.Ytejcglenjhkhhaa
open Go.RowKit

/-- Whether a string holds with a share of its strength. -/
def holdB (p l g s m : Int) : Bool := decide (1000 * tenF p l g ≤ m * s)
/-- A strength and a share within their bounds. -/
def ShareIn (s m : Int) : Prop := (1 ≤ s ∧ s ≤ 500000) ∧ (0 ≤ m ∧ m ≤ 1000)

theorem isShare_c (n : Int) (w : World) : Calls Try.prog 89 #[.int .i64 n] w fun e w' => e = .returned (.bool (inB n 0 1000)) ∧ w = w' := by
  go_enter Try.func89, Try.ntmps89
  go_wp2_with (go_at_call 66; refine call_same (within_c _ _ _ _) ?_)
  go_ret
  exact ⟨rfl, rfl⟩
theorem l09Share_c (n : Int) (w : World) : Calls Try.prog 85 #[.int .i64 n] w fun e w' => e = .returned (.bool (inB n 0 1000)) ∧ w = w' := by
  go_enter Try.func85, Try.ntmps85
  go_wp2_with (go_at_call 61; refine call_same (l00In_c _ _ _ _) ?_)
  go_ret
  exact ⟨rfl, rfl⟩

theorem holds_c (p l g s m : Int) (w : World) (hi : CordIn p l g) (hs : ShareIn s m) :
    Calls Try.prog 90 #[.agg #[.int .i64 p, .int .i64 l, .int .i64 g, .int .i64 s], .int .i64 m] w fun e w' => e = .returned (.bool (holdB p l g s m)) ∧ Below w.heap.size w w' := by
  obtain ⟨hs1, hs2⟩ := hs
  have hT := tenF_bd hi
  have hm := mul_bd (a := m) (b := s) hs2.1 hs2.2 (by omega) hs1.2
  have i1 := IntWalk.i64_in (1000 * tenF p l g) (by omega)
  have i2 := IntWalk.i64_in (m * s) (by omega)
  go_enter Try.func90, Try.ntmps90
  go_wp2_with fail
  have HD := Lib.hid (box_four (w := w) (t := 85) (v0 := .int .i64 p) (v1 := .int .i64 l) (v2 := .int .i64 g) (v3 := .int .i64 s) (Below.refl _ _))
  go_region_held3 (fun w' => w'.cell? ⟨w.heap.size, 0, none⟩ = some (.int .i64 p) ∧ w'.cell? ⟨w.heap.size, 1, none⟩ = some (.int .i64 l) ∧ w'.cell? ⟨w.heap.size, 2, none⟩ = some (.int .i64 g) ∧ w'.cell? ⟨w.heap.size, 3, none⟩ = some (.int .i64 s) ∧ Below (w.alloc (.cells #[.int .i64 p, .int .i64 l, .int .i64 g, .int .i64 s] 85)).heap.size (w.alloc (.cells #[.int .i64 p, .int .i64 l, .int .i64 g, .int .i64 s] 85)) w') (first | exact keep4 HD.out (Below.refl _ _).drew | exact keep4 HD.out (below_next (Below.refl _ _).drew hb2) | go_keep)
    (first | (go_at_call 122; refine call_below (tension_c p l g s _ hi) ?_; intro w2 hb2))
  go_wp2
  go_ret
  exact ⟨rfl, below_from (below_next (Below.refl _ _).drew hb2)⟩

theorem l09Holds_c (b : Nat) (p l g s m : Int) (w : World) (d : Four b (.int .i64 p) (.int .i64 l) (.int .i64 g) (.int .i64 s) w) (hi : CordIn p l g) (hs : ShareIn s m) :
    Calls Try.prog 119 #[.pointer (some ⟨b, 0, none⟩), .int .i64 m] w fun e w' => e = .returned (.bool (holdB p l g s m)) ∧ Below w.heap.size w w' := by
  obtain ⟨hs1, hs2⟩ := hs
  have hT := tenF_bd hi
  have hm := mul_bd (a := m) (b := s) hs2.1 hs2.2 (by omega) hs1.2
  have i1 := IntWalk.i64_in (1000 * tenF p l g) (by omega)
  have i2 := IntWalk.i64_in (m * s) (by omega)
  have HD := Lib.hid d
  obtain ⟨d0, d1, d2, d3⟩ := d
  go_enter Try.func119, Try.ntmps119
  go_wp2_with fail
  go_region_held3 (fun w' => w'.cell? ⟨b, 0, none⟩ = some (.int .i64 p) ∧ w'.cell? ⟨b, 1, none⟩ = some (.int .i64 l) ∧ w'.cell? ⟨b, 2, none⟩ = some (.int .i64 g) ∧ w'.cell? ⟨b, 3, none⟩ = some (.int .i64 s) ∧ Below w.heap.size w w') (first | exact keep4 HD.out (Below.refl _ _).drew | exact keep4 HD.out (below_next (Below.refl _ _).drew hb2) | go_keep)
    (first | (go_at_call 128; refine call_below (l09Tension_c b 0 p l g _ ?_ ?_ ?_ hi) ?_; (simp [*]); (simp [*]); (simp [*]); intro w2 hb2))
  go_wp2
  go_ret
  exact ⟨rfl, below_next (Below.refl _ _).drew hb2⟩
end Go.Proofs.Ytejcglenjhkhhaa
