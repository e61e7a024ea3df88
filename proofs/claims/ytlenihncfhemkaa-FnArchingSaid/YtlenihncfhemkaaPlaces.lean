/- All places of a grid: the program's list of them. -/
import Derived.Test.YtlenihncfhemkaaOwn
namespace Go.Proofs.Ytlenihncfhemkaa
open Go.RowKit Go.ChangeShapes Go.WideShapes

theorem infoP : (Try.prog.info? 43).map (fun i => (i.zero, i.size, i.bytes)) = some (some (.agg #[.int .i64 0, .int .i64 0]), 2, 16) := by kernel_rfl

/-- A slice of places that reads as the list, in blocks from B on. -/
def PlAt (w : World) (v : Value) (l : List (Nat × Nat)) : Prop := ∃ g cap, v = .slice (some ⟨g, 0, none⟩) l.length cap ∧ ∀ j, j < l.length → w.cell? ⟨g, j * 2, none⟩ = some (.int .i64 (l.getD j (0, 0)).1) ∧ w.cell? ⟨g, j * 2 + 1, none⟩ = some (.int .i64 (l.getD j (0, 0)).2)

theorem places_c (a : Option Addr) (cap : Nat) (g : List (List Int)) (w : World) (h : Grid w a g) (hs : Small g) :
    Calls Try.prog 21 #[.slice a g.length cap] w fun e w' => ∃ v, e = .returned v ∧ (w'.ownsRow w.heap.size 43 2 v (plTo g g.length).length (plCells (plTo g g.length)) ∧ v ≠ .slice none 0 0 ∧ Below w.heap.size w w') := by
  obtain ⟨i0, hi, hz0, hz1, hz2⟩ := info_parts infoP
  have hn := hs.len
  go_enter Try.func21, Try.ntmps21
  go_wp2
  go_loopw [3, 10] (fun v i wr => ∃ k : Nat, k ≤ g.length ∧ i = .int .i64 k ∧ wr.ownsRow w.heap.size 43 2 v (plTo g k).length (plCells (plTo g k)) ∧ v ≠ .slice none 0 0 ∧ Below w.heap.size w wr) (fun _ i _ => g.length - (intOf i).toNat)
  case atStart => exact ⟨0, Nat.zero_le _, rfl, World.ownsRow_made w #[] 0 (Nat.le_refl _) (Nat.zero_le _) rfl, by simp, (Below.refl _ _).alloc (Nat.le_refl _) _⟩
  case round =>
    obtain ⟨k, hk, rfl, hown, hnn, hbl⟩ := hrel
    by_cases hlt : k < g.length
    · obtain ⟨b, o, rfl, hb, ar, cr, hc, hnu⟩ := (h.below hbl).pos hlt
      have hrow := hs.row hlt
      have HO := Lib.hid hown
      have HL := Lib.hid hbl
      clear hown hbl h
      obtain ⟨wo, hwo⟩ : ∃ wo : World, wo = wr := ⟨_, rfl⟩
      rw [← hwo] at HO HL hc hnu hb ⊢
      clear hwo
      go_wp2_with fail
      go_loopw [3, 17] (fun v i wr => ∃ c : Nat, c ≤ (nthL g k).length ∧ i = .int .i64 c ∧ wr.ownsRow w.heap.size 43 2 v (plTo g k ++ rowPl k c).length (plCells (plTo g k ++ rowPl k c)) ∧ v ≠ .slice none 0 0 ∧ Below w.heap.size w wr) (fun _ i _ => (nthL g k).length - (intOf i).toNat)
      case atStart => exact ⟨0, Nat.zero_le _, rfl, by simpa [rowPl] using HO.out, hnn, HL.out⟩
      case round =>
        clear hnn hc hnu
        obtain ⟨c, hcl, rfl, hown, hnn, hbl⟩ := hrel
        have hlen : (plTo g k ++ rowPl k c).length = sumL g k + c := by rw [List.length_append, plTo_len, rowPl_len]
        have hsm := sumL_mono (g := g) (j := k + 1) (k := g.length) hlt
        have hsk : sumL g (k + 1) = sumL g k + (nthL g k).length := rfl
        have hS := hs
        unfold Small at hS
        have HB := Lib.hid (show (plTo g k ++ rowPl k c).length + 1 ≤ 1048577 by omega)
        have HE := Lib.hid (show plTo g k ++ rowPl k (c + 1) = (plTo g k ++ rowPl k c) ++ [(k, c)] by rw [rowPl_succ, List.append_assoc])
        have HE2 := Lib.hid (show c = (nthL g k).length → plTo g k ++ rowPl k c = plTo g (k + 1) by rintro rfl; rfl)
        have HP := Lib.hid (plCells_snoc (plTo g k ++ rowPl k c) (k, c))
        have HO2 := Lib.hid hown
        have HL2 := Lib.hid hbl
        have HN := Lib.hid hnn
        have HG := Lib.hid hbl.size
        clear hlen hsm hsk hS hown hbl hnn
        by_cases hct : c < (nthL g k).length
        · generalize plTo g k ++ rowPl k c = L at HB HE HE2 HP HO2
          go_wp2_with (at_builtin; refine wpList_append_own _ rfl _ _ 44 rfl w.heap.size 43 i0 (.agg #[.int .i64 0, .int .i64 0]) 2 16 Try.underlying44 hi hz0 hz1 hz2 rfl (by decide) _ _ _ rfl (HO2.out.alloc _) ⟨wr.heap.size, 0, none⟩ 1 1 [.int .i64 k, .int .i64 c] rfl rfl (own_new2 _ _ _ _) ?c2 ?c3 ?c4 ?c5 ?_)
          case c2 => exact ⟨rfl, rfl⟩
          case c3 => have := HB.out; unfold maxLen; omega
          case c4 => have := HB.out; omega
          case c5 => have := HG.out; simp; omega
          · intro v' w1 hown' hgrow hnil
            have hnn' : v' ≠ .slice none 0 0 := hnil
            have hb1 : Below w.heap.size w w1 := below_grown (HL2.out.alloc HG.out _) (by have := HG.out; simp; omega) hgrow fun q hq => (HO2.out.lt q hq).1
            have HX := Lib.hid (show w1.ownsRow w.heap.size 43 2 v' (plTo g k ++ rowPl k (c + 1)).length (plCells (plTo g k ++ rowPl k (c + 1))) by rw [HE.out, HP.out, List.length_append]; exact hown')
            have HY := Lib.hid (And.intro hnn' hb1)
            clear hown' hgrow hnil hnn' hb1
            go_wp2
            go_roundw
            case rel => exact ⟨c + 1, by omega, by go_num, HX.out, HY.out.1, HY.out.2⟩
            case measure => simp [intOf]; omega
        · obtain rfl : c = (nthL g k).length := by omega
          go_wp2
          go_roundw
          case rel => exact ⟨k + 1, by omega, by go_num, by have := HO2.out; rwa [HE2.out rfl] at this, HN.out, HL2.out⟩
          case measure => simp [intOf]; omega
    · obtain rfl : k = g.length := by omega
      go_wp2
      go_ret
      exact ⟨_, rfl, hown, hnn, hbl⟩

/-- What a list of places that is not nil looks like. -/
theorem own_form {w : World} {B : Nat} {e : TypeId} {v : Value} {l : List (Nat × Nat)} (h : w.ownsRow B e 2 v l.length (plCells l)) (hn : v ≠ .slice none 0 0) :
    ∃ b cap, v = .slice (some ⟨b, 0, none⟩) l.length cap ∧ B ≤ b ∧ b < w.heap.size ∧ ∀ j, j < l.length → w.cell? ⟨b, j * 2, none⟩ = some (.int .i64 (l.getD j (0, 0)).1) ∧ w.cell? ⟨b, j * 2 + 1, none⟩ = some (.int .i64 (l.getD j (0, 0)).2) := by
  rcases h.2 with ⟨rfl, _⟩ | ⟨b, cap, cur, rfl, hb, _⟩
  · exact absurd rfl hn
  · exact ⟨b, cap, rfl, hb, (h.lt b rfl).2, fun j hj => own_pl_cells h hj⟩
/-- The number at a place. -/
def atG (g : List (List Int)) (p : Nat × Nat) : Int := nth (nthL g p.1) p.2

theorem of_c (a : Option Addr) (cap : Nat) (g : List (List Int)) (p : Nat × Nat) (w : World) (h : Grid w a g) (hs : Small g) (h1 : p.1 < g.length) (h2 : p.2 < (nthL g p.1).length) :
    Calls Try.prog 22 #[.agg #[.int .i64 p.1, .int .i64 p.2], .slice a g.length cap] w fun e w' => e = .returned (.int .i64 (atG g p)) ∧ Below w.heap.size w w' := by
  have hA := Lib.hid (show Below w.heap.size w (w.alloc (.cells #[.int .i64 p.1, .int .i64 p.2] 43)) from (Below.refl _ _).alloc (Nat.le_refl _) _)
  obtain ⟨b, o, rfl, hb, ar, cr, hc, hnu⟩ := (h.below hA.out).pos h1
  obtain ⟨b', o', rfl, hb', hc'⟩ := hnu.pos h2
  have hl := hs.len
  have hr := hs.row h1
  have e0 : (w.alloc (.cells #[.int .i64 p.1, .int .i64 p.2] 43)).cell? ⟨w.heap.size, 0, none⟩ = some (.int .i64 p.1) := by go_cell
  have e1 : (w.alloc (.cells #[.int .i64 p.1, .int .i64 p.2] 43)).cell? ⟨w.heap.size, 1, none⟩ = some (.int .i64 p.2) := by go_cell
  have i0 : (0 : Int) ≤ (p.1 : Int) := by omega
  have i1 : (p.1 : Int) < g.length := by omega
  have i2 : (0 : Int) ≤ (p.2 : Int) := by omega
  have i3 : (p.2 : Int) < (nthL g p.1).length := by omega
  clear h hnu hs
  go_enter Try.func22, Try.ntmps22
  go_wp2_with fail
  generalize w.alloc (.cells #[.int .i64 p.1, .int .i64 p.2] 43) = wA at hA hc hc' hb hb' e0 e1 ⊢
  go_quiet (fail)
  go_wp2
  go_ret
  exact ⟨rfl, below_drewN hA.out _⟩
end Go.Proofs.Ytlenihncfhemkaa
