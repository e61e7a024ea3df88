/- The program's map of a plate's places: to thinner ones, in all rows or in one. -/
import Derived.Test.YthhgepiccjndpaaOwnG
import Derived.Test.YthhgepiccjndpaaPlaces
import Derived.Test.YthhgepiccjndpaaPlate
import Derived.Test.YthhgepiccjndpaaHeights
namespace Go.Proofs.Ythhgepiccjndpaa
open Go.RowKit Go.ChangeShapes Go.WideShapes
set_option linter.unusedVariables false

/-- A number that is made thinner. -/
def thinF (n b l : Int) : Int := min n (max (n - b) l)
theorem thinner_c (n b l : Int) (w : World) (hn : 1 ≤ n ∧ n ≤ 200) (hb : 0 ≤ b ∧ b ≤ 200) : Calls Try.prog 89 #[.int .i64 n, .int .i64 b, .int .i64 l] w fun e w' => e = .returned (.int .i64 (thinF n b l)) ∧ w = w' := by
  have HF := Lib.hid (show thinF n b l = min n (max (n - b) l) from rfl)
  go_enter Try.func89, Try.ntmps89
  go_wp2
  go_ret
  exact ⟨by rw [HF.out]; rfl, rfl⟩
theorem l08Thin_c (n b l : Int) (w : World) (hn : 1 ≤ n ∧ n ≤ 200) (hb : 0 ≤ b ∧ b ≤ 200) : Calls Try.prog 87 #[.int .i64 n, .int .i64 b, .int .i64 l] w fun e w' => e = .returned (.int .i64 (thinF n b l)) ∧ w = w' := by
  by_cases h : n ≤ l
  · have HF := Lib.hid (show thinF n b l = n by unfold thinF; omega)
    go_enter Try.func87, Try.ntmps87
    go_wp2
    go_ret
    exact ⟨by rw [HF.out]; rfl, rfl⟩
  · have HF := Lib.hid (show thinF n b l = max l (n - b) by unfold thinF; omega)
    go_enter Try.func87, Try.ntmps87
    go_wp2_with (go_at_call 95; refine call_same (l00Max_c _ _ _) ?_)
    go_ret
    exact ⟨by rw [HF.out]; rfl, rfl⟩
theorem thinF_bd {n b l : Int} (hn : 1 ≤ n ∧ n ≤ 200) (hb : 0 ≤ b ∧ b ≤ 200) (hl : 1 ≤ l ∧ l ≤ 200) : 1 ≤ thinF n b l ∧ thinF n b l ≤ 200 := by unfold thinF; omega
/-- The program's mapped, with this closure: what it hands back is the grid of the closure's answers. -/
theorem mapped_thin (a : Option Addr) (cap : Nat) (g : List (List Int)) (b0 b1 b2 : Nat) (E : Nat × Nat → Int) (w : World) (h : Grid w a g) (hs : Small g) (hne : ∀ j, j < g.length → 1 ≤ (nthL g j).length)
    (hF : ∀ (p : Nat × Nat) (W : World), p.1 < g.length → p.2 < (nthL g p.1).length → Below w.heap.size w W → Calls Try.prog 88 #[.agg #[.int .i64 p.1, .int .i64 p.2], .pointer (some ⟨b0, 0, none⟩), .pointer (some ⟨b1, 0, none⟩), .pointer (some ⟨b2, 0, none⟩)] W fun e W' => e = .returned (.int .i64 (E p)) ∧ Below W.heap.size W W') :
    Calls Try.prog 60 #[.slice a g.length cap, .func (.func 88) #[] #[.pointer (some ⟨b0, 0, none⟩), .pointer (some ⟨b1, 0, none⟩), .pointer (some ⟨b2, 0, none⟩)]] w fun e w' => ∃ v, e = .returned v ∧ (OwnG w.heap.size w'.heap.size w' v (gridG E (lenG g) g.length) ∧ Below w.heap.size w w') := by
  obtain ⟨i0, hi, hz0, hz1, hz2⟩ := info_parts infoI'
  obtain ⟨j0, hj, hy0, hy1, hy2⟩ := info_parts infoS
  have hn := hs.len
  have HF := Lib.hid hF
  have HNE := Lib.hid hne
  clear hF hne
  go_enter Try.func60, Try.ntmps60
  go_wp2
  go_loopw [5, 13] (fun v i wr => ∃ k : Nat, k ≤ g.length ∧ i = .int .i64 k ∧ OwnG w.heap.size wr.heap.size wr v (gridG E (lenG g) k) ∧ Below w.heap.size w wr) (fun _ i _ => g.length - (intOf i).toNat)
  case atStart => exact ⟨0, Nat.zero_le _, rfl, OwnG.start (World.ownsRow_made w #[] 0 (Nat.le_refl _) (Nat.zero_le _) rfl) (by simp) (Nat.le_refl _), (Below.refl _ _).alloc (Nat.le_refl _) _⟩
  case round =>
    obtain ⟨k, hk, rfl, hown, hbl⟩ := hrel
    have HO := Lib.hid hown
    have HL := Lib.hid hbl
    by_cases hlt : k < g.length
    · obtain ⟨b, o, rfl, hb, ar, cr, hc, hnu⟩ := (h.below hbl).pos hlt
      have hrow := hs.row hlt
      have hne := HNE.out k hlt
      have HE := Lib.hid (gridG_succ E (lenG g) k)
      have HLN := Lib.hid (gridG_len E (lenG g) k)
      clear hown hbl h hnu
      obtain ⟨wo, hwo⟩ : ∃ wo : World, wo = wr := ⟨_, rfl⟩
      rw [← hwo] at HO HL hc hb ⊢
      clear hwo
      go_wp2_with fail
      go_loopw [8, 21] (fun v i wi => ∃ c : Nat, c ≤ (nthL g k).length ∧ i = .int .i64 c ∧ OwnI wo.heap.size wi v (rowG E k c) ∧ Below wo.heap.size wo wi) (fun _ i _ => (nthL g k).length - (intOf i).toNat)
      case atStart => exact ⟨0, Nat.zero_le _, rfl, ⟨World.ownsRow_made wo #[] 0 (Nat.le_refl _) (Nat.zero_le _) rfl, by simp⟩, (Below.refl _ _).alloc (Nat.le_refl _) _⟩
      case round =>
        clear hc
        obtain ⟨c, hcl, rfl, hown, hbl⟩ := hrel
        have HO2 := Lib.hid hown
        have HL2 := Lib.hid hbl
        have HE2 := Lib.hid (rowG_succ E k c)
        have HN2 := Lib.hid (rowG_len E k c)
        clear hown hbl
        by_cases hct : c < (nthL g k).length
        · go_wp2_with fail
          refine call_below (HF.out (k, c) _ hlt hct (below_next HL.out HL2.out)) ?_
          intro w3 hb3
          have HO3 := Lib.hid (HO2.out.below hb3)
          have HL3 := Lib.hid (below_next HL2.out hb3)
          clear hb3
          go_wp2_with (at_builtin; refine wpList_append_own _ rfl _ _ 35 rfl wo.heap.size 2 i0 (.int .i64 0) 1 8 Try.underlying35 hi hz0 hz1 hz2 rfl (by decide) _ _ _ rfl (HO3.out.1.alloc _) ⟨w3.heap.size, 0, none⟩ 1 1 [.int .i64 (E (k, c))] rfl rfl (own_new1 _ _ _) ?c2 ?c3 ?c4 ?c5 ?_)
          case c2 => (first | rfl | (intro u hu; simp at hu; subst hu; rfl))
          case c3 => have := HN2.out; unfold maxLen; omega
          case c4 => have := HN2.out; omega
          case c5 => have := HL3.out.size; simp; omega
          · intro v' w4 hown' hgrow hnil
            have hb1 : Below wo.heap.size wo w4 := below_grown (HL3.out.alloc HL3.out.size _) (by have := HL3.out.size; simp; omega) hgrow fun q hq => HO3.out.lt q hq
            have HX := Lib.hid (show OwnI wo.heap.size w4 v' (rowG E k (c + 1)) by rw [HE2.out]; exact OwnI.snoc hown' hnil)
            have HY := Lib.hid hb1
            clear hown' hgrow hnil hb1
            go_wp2
            go_roundw
            case rel => exact ⟨c + 1, by omega, by go_num, HX.out, HY.out⟩
            case measure => simp [intOf]; omega
        · obtain rfl : c = (nthL g k).length := by omega
          obtain ⟨br, cr', rfl, hbr0, hbr1, hnu⟩ := HO2.out.form
          have hro := HO2.out.1
          have hrc : RowC wr br (rowG E k (nthL g k).length).length (nth (rowG E k (nthL g k).length)) := own_rowC HO2.out
          obtain ⟨r, cc, hown, hnn, hrows, hdist, hv⟩ := HO.out.below (Nat.le_refl _) HL2.out
          have HROW := Lib.hid (And.intro hrows (And.intro hdist (And.intro hv hrc)))
          have HOW := Lib.hid hown
          have HNU := Lib.hid hnu
          clear hro hrc hrows hdist hv hown hnu hnn
          go_wp2_with (at_builtin; refine wpList_append_own _ rfl _ _ 22 rfl w.heap.size 35 j0 (.slice none 0 0) 1 24 Try.underlying22 hj hy0 hy1 hy2 rfl (by decide) _ _ _ rfl (HOW.out.alloc _) ⟨wr.heap.size, 0, none⟩ 1 1 [.slice (some ⟨br, 0, none⟩) (rowG E k (nthL g k).length).length cr'] rfl rfl (own_new1 _ _ _) ?d2 ?d3 ?d4 ?d5 ?_)
          case d2 => (first | rfl | (intro u hu; simp at hu; subst hu; rfl))
          case d3 => have := HLN.out; unfold maxLen; omega
          case d4 => have := HLN.out; omega
          case d5 => have := HL.out.size; have := HL2.out.size; simp; omega
          · intro v' w4 hown' hgrow hnil
            have hsz1 := HL.out.size
            have hsz2 := HL2.out.size
            have hb1 : Below w.heap.size w w4 := below_grown ((below_next HL.out HL2.out).alloc (by omega) _) (by simp; omega) hgrow fun q hq => (HOW.out.lt q hq).1
            have HX := Lib.hid (show OwnG w.heap.size w4.heap.size w4 v' (gridG E (lenG g) (k + 1)) by
              rw [HE.out]
              exact own_push HOW.out HROW.out.1 HROW.out.2.1 HROW.out.2.2.1 hbr0 (by omega) hbr1 (by rw [rowG_len]; exact hne) HROW.out.2.2.2 hown' hgrow hnil)
            have HY := Lib.hid hb1
            clear hown' hgrow hnil hb1
            go_wp2
            go_roundw
            case rel => exact ⟨k + 1, by omega, by go_num, HX.out, HY.out⟩
            case measure => simp [intOf]; omega
    · obtain rfl : k = g.length := by omega
      clear hown
      go_wp2
      go_ret
      exact ⟨_, rfl, HO.out, HL.out⟩
end Go.Proofs.Ythhgepiccjndpaa
