/- The text of a string and of a neck: four numbers. -/
import Derived.Test.YtpklckpnhjhnhaaDoorLists
import Derived.Test.YtpklckpnhjhnhaaDoorCord
import Derived.Test.YtpklckpnhjhnhaaDoorNeck
namespace Go.Proofs.YtpklckpnhjhnhaaDoor
open Go.RowKit Go.ChangeShapes Go.WideShapes
set_option linter.unusedVariables false

/-- Four cells in a row. -/
def Cells4 (w : World) (b o : Nat) (p l g s : Int) : Prop := w.cell? ⟨b, o, none⟩ = some (.int .i64 p) ∧ w.cell? ⟨b, o + 1, none⟩ = some (.int .i64 l) ∧ w.cell? ⟨b, o + 2, none⟩ = some (.int .i64 g) ∧ w.cell? ⟨b, o + 3, none⟩ = some (.int .i64 s)
theorem Cells4.nums {w : World} {b o : Nat} {p l g s : Int} (h : Cells4 w b o p l g s) : Nums .i64 w (some ⟨b, o, none⟩) [p, l, g, s] := by
  obtain ⟨c0, c1, c2, c3⟩ := h
  refine .inr ⟨b, o, rfl, fun j hj => ?_⟩
  match j, hj with
  | 0, _ => exact c0
  | 1, _ => exact c1
  | 2, _ => exact c2
  | 3, _ => exact c3
/-- Four numbers that a text may hold. -/
def Ok4 (p l g s : Int) : Prop := (0 ≤ p ∧ p ≤ 1000000000000) ∧ (0 ≤ l ∧ l ≤ 1000000000000) ∧ (0 ≤ g ∧ g ≤ 1000000000000) ∧ (0 ≤ s ∧ s ≤ 1000000000000)
theorem Ok4.nums {p l g s : Int} (h : Ok4 p l g s) : NumOk [p, l, g, s] := by
  obtain ⟨h0, h1, h2, h3⟩ := h
  intro j hj
  match j, hj with
  | 0, _ => exact h0
  | 1, _ => exact h1
  | 2, _ => exact h2
  | 3, _ => exact h3
theorem cordB_ok {p l g s : Int} (h : cordB p l g s = true) : Ok4 p l g s := by
  simp only [cordB, Bool.and_eq_true] at h
  have h1 := inB_true h.1.1.1
  have h2 := inB_true h.1.1.2
  have h3 := inB_true h.1.2
  have h4 := inB_true h.2
  exact ⟨⟨by omega, by omega⟩, ⟨by omega, by omega⟩, ⟨by omega, by omega⟩, ⟨by omega, by omega⟩⟩
theorem listText4_c (b o : Nat) (p l g s : Int) (w : World) (h : Cells4 w b o p l g s) (ok : Ok4 p l g s) (htab : Lib.TabIs Tryd.prog w "internal/strconv.uint64pow10" .u64 Lib.pow10Tab) :
    Calls Tryd.prog 35 #[.slice (some ⟨b, o, none⟩) 4 4] w fun e w' => e = .returned (.string ⟨(listT [p, l, g, s]).toArray⟩) ∧ Below w.heap.size w w' :=
  listText_c _ 4 [p, l, g, s] w h.nums (by simp) ok.nums htab

theorem keepT4 {w w' : World} {b o : Nat} {p l g s : Int} (h : Cells4 w b o p l g s) (hb : b < w.heap.size) (hl : Below w.heap.size w w') :
    w'.cell? ⟨b, o, none⟩ = some (.int .i64 p) ∧ w'.cell? ⟨b, o + 1, none⟩ = some (.int .i64 l) ∧ w'.cell? ⟨b, o + 2, none⟩ = some (.int .i64 g) ∧ w'.cell? ⟨b, o + 3, none⟩ = some (.int .i64 s) ∧ Below w.heap.size w w' := by
  obtain ⟨c0, c1, c2, c3⟩ := h
  exact ⟨(hl.cell (p := ⟨b, o, none⟩) hb).trans c0, (hl.cell (p := ⟨b, o + 1, none⟩) hb).trans c1, (hl.cell (p := ⟨b, o + 2, none⟩) hb).trans c2, (hl.cell (p := ⟨b, o + 3, none⟩) hb).trans c3, hl⟩
/-- What is written: the four numbers, or nothing where they are not valid. -/
def quadT (v : Bool) (p l g s : Int) : List UInt8 := if v then listT [p, l, g, s] else []
theorem box4 (w : World) (p l g s : Int) (t : TypeId) : Cells4 (w.alloc (.cells #[.int .i64 p, .int .i64 l, .int .i64 g, .int .i64 s] t)) w.heap.size 0 p l g s := by
  refine ⟨?_, ?_, ?_, ?_⟩ <;> go_cell
theorem stringText_c (p l g s : Int) (w : World) (htab : Lib.TabIs Tryd.prog w "internal/strconv.uint64pow10" .u64 Lib.pow10Tab) :
    Calls Tryd.prog 11 #[.agg #[.int .i64 p, .int .i64 l, .int .i64 g, .int .i64 s]] w fun e w' => e = .returned (.string ⟨(quadT (cordB p l g s) p l g s).toArray⟩) ∧ Below w.heap.size w w' := by
  have HB := Lib.hid (box4 w p l g s 25)
  have HT := Lib.hid (Lib.tabBelow_of_tabIs htab)
  clear htab
  cases hv : cordB p l g s
  · have HF := Lib.hid (show quadT false p l g s = [] from rfl)
    go_enter Tryd.func11, Tryd.ntmps11
    go_wp2_with (go_at_call 13; refine call_below (validString_c p l g s _) ?_; intro w1 hb1; rw [hv])
    go_ret
    exact ⟨rfl, below_from hb1⟩
  · have HF := Lib.hid (show quadT true p l g s = listT [p, l, g, s] from rfl)
    have HOK := Lib.hid (cordB_ok hv)
    go_enter Tryd.func11, Tryd.ntmps11
    go_wp2_with fail
    refine call_below (validString_c p l g s _) ?_
    intro w1 hb1
    rw [hv]
    have HK := Lib.hid (keepT4 HB.out (by simp) hb1)
    have HW := Lib.hid (below_from hb1)
    obtain ⟨c0, c1, c2, c3, -⟩ := HK.out
    simp only [Nat.zero_add] at c1 c2 c3
    clear hb1 HK
    have hsz := HW.out.size
    have HA := Lib.hid (HW.out.alloc hsz (.cells #[.int .i64 p, .int .i64 l, .int .i64 g, .int .i64 s] 2))
    have HTA := Lib.hid (HT.out.on HA.out).here
    have HC := Lib.hid (box4 w1 p l g s 2)
    go_wp2_with (go_at_call 35; refine call_below (listText4_c _ _ p l g s _ HC.out HOK.out HTA.out) ?_; intro w2 hb2)
    go_ret
    exact ⟨by rw [HF.out]; rfl, HA.out.trans (hb2.mono (by simp; omega))⟩

theorem neckB_ok {p l g s : Int} (h : neckB p l g s = true) : Ok4 p l g s := by
  simp only [neckB, Bool.and_eq_true] at h
  have h1 := inB_true h.1.1.1
  have h2 := inB_true h.1.1.2
  have h3 := inB_true h.1.2
  have h4 := inB_true h.2
  exact ⟨⟨by omega, by omega⟩, ⟨by omega, by omega⟩, ⟨by omega, by omega⟩, ⟨by omega, by omega⟩⟩
end Go.Proofs.YtpklckpnhjhnhaaDoor
