/- The stiffness of a plate's rows. -/
import Derived.Test.YtejcglenjhkhhaaOwnInts
import Derived.Test.YtejcglenjhkhhaaPlate
namespace Go.Proofs.Ytejcglenjhkhhaa
open Go.RowKit Go.ChangeShapes Go.WideShapes

/-- The sum of the first k cubes. -/
def cubeTo (r : List Int) : Nat → Int
  | 0 => 0
  | k + 1 => cubeTo r k + nth r k * nth r k * nth r k
def stiffF (r : List Int) : Int := cubeTo r r.length
theorem cube_bd {n : Int} (h : 1 ≤ n ∧ n ≤ 200) : (0 ≤ n * n ∧ n * n ≤ 40000) ∧ (0 ≤ n * n * n ∧ n * n * n ≤ 8000000) := by
  have b1 := mul_bd (a := n) (b := n) (by omega : 0 ≤ n) h.2 (by omega : 0 ≤ n) h.2
  have b2 := mul_bd (a := n * n) (b := n) b1.1 b1.2 (by omega : 0 ≤ n) h.2
  exact ⟨⟨b1.1, by omega⟩, ⟨b2.1, by omega⟩⟩
theorem cubeTo_bd {r : List Int} (h : ∀ j, j < r.length → 1 ≤ nth r j ∧ nth r j ≤ 200) : ∀ k, k ≤ r.length → 0 ≤ cubeTo r k ∧ cubeTo r k ≤ 8000000 * k
  | 0, _ => by simp [cubeTo]
  | k + 1, hk => by
    have h1 := cubeTo_bd h k (by omega)
    have h2 := (cube_bd (h k (by omega))).2
    simp only [cubeTo]
    omega
/-- The stiffness of the first k rows. -/
def stiffs (g : List (List Int)) (k : Nat) : List Int := (List.range k).map fun i => stiffF (nthL g i)
theorem stiffs_len (g : List (List Int)) (k : Nat) : (stiffs g k).length = k := by simp [stiffs]
theorem stiffs_succ (g : List (List Int)) (k : Nat) : stiffs g (k + 1) = stiffs g k ++ [stiffF (nthL g k)] := by simp [stiffs, List.range_succ]
theorem stiffs_nth {g : List (List Int)} {n j : Nat} (h : j < n) : nth (stiffs g n) j = stiffF (nthL g j) := by simp [nth, stiffs, List.getD_eq_getElem?_getD, h]

theorem rowStiff_c (a : Option Addr) (cap : Nat) (g : List (List Int)) (w : World) (h : Grid w a g) (hs : Small g) (hg : gridB 1 200 g = true) :
    Calls Try.prog 25 #[.slice a g.length cap] w fun e w' => ∃ v, e = .returned (.tuple #[v, .int .i64 0]) ∧ (OwnI w.heap.size w' v (stiffs g g.length) ∧ Below w.heap.size w w') := by
  obtain ⟨i0, hi, hz0, hz1, hz2⟩ := info_parts infoI'
  have hn := hs.len
  have ok := gridB_true hg
  have hr10 := ok.rows
  have HR := Lib.hid ok.range
  have HL10 := Lib.hid (fun j (hj : j < g.length) => show (nthL g j).length ≤ 10 by have := ok.same j hj; have := ok.cols; omega)
  clear ok
  go_enter Try.func25, Try.ntmps25
  go_wp2_with fail
  refine call_same (validPlate_c _ _ g _ h hs) ?_
  rw [hg]
  go_wp2
  go_loopw [4, 16] (fun v i wr => ∃ k : Nat, k ≤ g.length ∧ i = .int .i64 k ∧ OwnI w.heap.size wr v (stiffs g k) ∧ Below w.heap.size w wr) (fun _ i _ => g.length - (intOf i).toNat)
  case atStart => exact ⟨0, Nat.zero_le _, rfl, ⟨World.ownsRow_made w #[] 0 (Nat.le_refl _) (Nat.zero_le _) rfl, by simp⟩, (Below.refl _ _).alloc (Nat.le_refl _) _⟩
  case round =>
    obtain ⟨k, hk, rfl, hown, hbl⟩ := hrel
    by_cases hlt : k < g.length
    · obtain ⟨b, o, rfl, hb, ar, cr, hc, hnu⟩ := (h.below hbl).pos hlt
      have hl10 := HL10.out k hlt
      have hrow := HR.out k hlt
      have HO := Lib.hid hown
      have HL := Lib.hid hbl
      have HS := Lib.hid (cubeTo_bd hrow)
      have HE := Lib.hid (stiffs_succ g k)
      have HN := Lib.hid (stiffs_len g k)
      have HF := Lib.hid (show stiffF (nthL g k) = cubeTo (nthL g k) (nthL g k).length from rfl)
      have HW := Lib.hid hrow
      clear hown hbl h hrow
      generalize nthL g k = r at hnu hl10 HS HE HF HW hc ⊢
      have HNU := Lib.hid hnu
      go_wp2_with fail
      go_loop [7, 22] (fun s i => ∃ c : Nat, c ≤ r.length ∧ i = .int .i64 c ∧ s = .int .i64 (cubeTo r c)) (fun _ i => r.length - (intOf i).toNat)
      case atStart => exact ⟨0, Nat.zero_le _, rfl, rfl⟩
      case round =>
        obtain ⟨c, hcl, rfl, rfl⟩ := hrel
        have hsb := HS.out c hcl
        by_cases hct : c < r.length
        · obtain ⟨b2, o2, rfl, hb2, hc2⟩ := HNU.out.pos hct
          have hv := HW.out c hct
          have hcb := cube_bd hv
          have HC := Lib.hid (show cubeTo r (c + 1) = cubeTo r c + nth r c * nth r c * nth r c from rfl)
          clear hnu
          go_wp2
          go_round
          case rel => exact ⟨c + 1, by omega, by go_num, by rw [HC.out]⟩
          case measure => simp [intOf]; omega
        · obtain rfl : c = r.length := by omega
          clear hnu hc
          rw [← HF.out]
          go_wp2_with (at_builtin; refine wpList_append_own _ rfl _ _ 32 rfl w.heap.size 2 i0 (.int .i64 0) 1 8 Try.underlying32 hi hz0 hz1 hz2 rfl (by decide) _ _ _ rfl (HO.out.1.alloc _) ⟨wr.heap.size, 0, none⟩ 1 1 [.int .i64 (stiffF r)] rfl rfl (own_new1 _ _ _) ?c2 ?c3 ?c4 ?c5 ?_)
          case c2 => rfl
          case c3 => have := HN.out; unfold maxLen; omega
          case c4 => have := HN.out; omega
          case c5 => have := HL.out.size; simp; omega
          · intro v' w1 hown' hgrow hnil
            have hb1 : Below w.heap.size w w1 := below_grown (HL.out.alloc HL.out.size _) (by have := HL.out.size; simp; omega) hgrow fun q hq => HO.out.lt q hq
            have HX := Lib.hid (show OwnI w.heap.size w1 v' (stiffs g (k + 1)) by rw [HE.out]; exact OwnI.snoc hown' hnil)
            have HY := Lib.hid hb1
            clear hown' hgrow hnil hb1
            go_wp2
            go_roundw
            case rel => exact ⟨k + 1, by omega, by go_num, HX.out, HY.out⟩
            case measure => simp [intOf]; omega
    · obtain rfl : k = g.length := by omega
      go_wp2
      go_ret2
      exact ⟨_, rfl, hown, hbl⟩
theorem rowStiff_bad (a : Option Addr) (cap : Nat) (g : List (List Int)) (w : World) (h : Grid w a g) (hs : Small g) (hg : gridB 1 200 g = false) :
    Calls Try.prog 25 #[.slice a g.length cap] w fun e w' => e = .returned (.tuple #[.slice none 0 0, .int .i64 1]) ∧ w = w' := by
  go_enter Try.func25, Try.ntmps25
  go_wp2_with fail
  refine call_same (validPlate_c _ _ g _ h hs) ?_
  rw [hg]
  go_wp2
  go_ret2
  exact ⟨rfl, rfl⟩
end Go.Proofs.Ytejcglenjhkhhaa
