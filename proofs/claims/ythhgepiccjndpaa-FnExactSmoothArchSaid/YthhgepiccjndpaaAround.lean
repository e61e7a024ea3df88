/- The heights around a place: the reference's list. -/
import Derived.Test.YthhgepiccjndpaaArch
import Derived.Test.YthhgepiccjndpaaNear
import Derived.Test.YthhgepiccjndpaaMass
namespace Go.Proofs.Ythhgepiccjndpaa
open Go.RowKit Go.ChangeShapes Go.WideShapes
set_option linter.unusedVariables false

def arA (g : List (List Int)) (p : Nat × Nat) : List Int := if 0 < p.1 then [atG g (p.1 - 1, p.2)] else []
def arB (g : List (List Int)) (p : Nat × Nat) : List Int := if p.1 + 1 < g.length then [atG g (p.1 + 1, p.2)] else []
def arC (g : List (List Int)) (p : Nat × Nat) : List Int := if 0 < p.2 then [atG g (p.1, p.2 - 1)] else []
def arD (g : List (List Int)) (p : Nat × Nat) : List Int := if p.2 + 1 < (nthL g p.1).length then [atG g (p.1, p.2 + 1)] else []
def arL (g : List (List Int)) (p : Nat × Nat) : List Int := arA g p ++ arB g p ++ arC g p ++ arD g p

theorem own_new1c (w : World) (e : TypeId) (u : Value) (n : Nat) (hn : n = w.heap.size) : ∀ j x, [u][j]? = some x → (w.alloc (.cells #[u] e)).cell? ((⟨n, 0, none⟩ : Addr).add j) = some x := by
  subst hn
  exact own_new1 w e u
theorem arL_len1 (g : List (List Int)) (p : Nat × Nat) : (arA g p).length ≤ 3 := by unfold arA; split <;> simp
theorem arL_len2 (g : List (List Int)) (p : Nat × Nat) : (arA g p ++ arB g p).length ≤ 3 := by unfold arA arB; split <;> split <;> simp
theorem arL_len3 (g : List (List Int)) (p : Nat × Nat) : (arA g p ++ arB g p ++ arC g p).length ≤ 3 := by unfold arA arB arC; split <;> split <;> split <;> simp

set_option maxRecDepth 100000 in
theorem l07Around_c (a : Option Addr) (cap : Nat) (g : List (List Int)) (lo hi' : Int) (p : Nat × Nat) (w : World) (h : Grid w a g) (hs : Small g) (ok : GridOk lo hi' g) (h1 : p.1 < g.length) (h2 : p.2 < (nthL g p.1).length) :
    Calls Try.prog 58 #[.slice a g.length cap, .int .i64 p.1, .int .i64 p.2] w fun e w' => ∃ b cap', e = .returned (.slice (some ⟨b, 0, none⟩) (arL g p).length cap') ∧ (Nums .i64 w' (some ⟨b, 0, none⟩) (arL g p) ∧ Below w.heap.size w w') := by
  obtain ⟨i0, hi, hz0, hz1, hz2⟩ := info_parts infoI'
  have hg10 := ok.rows
  have hn := hs.len
  have hrl := ok.len h1
  have HSM := Lib.hid ok.same
  have HGR := Lib.hid h
  have HL0 := Lib.hid ok.cols
  clear h ok
  go_enter Try.func58, Try.ntmps58
  go_upto_if 10 with fail
  go_cut [7] (fun v wx => OwnI w.heap.size wx v (arA g p) ∧ Below w.heap.size w wx)
  case first =>
    have HO := Lib.hid (show OwnI w.heap.size (w.alloc (.cells #[] 2)) (.slice (some ⟨w.heap.size, 0, none⟩) 0 0) [] from ⟨World.ownsRow_made w #[] 0 (Nat.le_refl _) (Nat.zero_le _) rfl, by simp⟩)
    have HB := Lib.hid (show Below w.heap.size w (w.alloc (.cells #[] 2)) from ((Below.refl w.heap.size w).alloc (Nat.le_refl _) _))
    by_cases t : 0 < p.1
    · have HE := Lib.hid (show arA g p = ([] : List Int) ++ [atG g ((p.1 - 1), p.2)] by simp [arA, t])
      have HLN := Lib.hid (show (([] : List Int)).length ≤ 3 from Nat.zero_le _)
      obtain ⟨b, o, rfl, hbk, ar, cr, hc, hnu⟩ := (HGR.out.below HB.out).pos (j := (p.1 - 1)) (by omega)
      have hsm1 := HSM.out (p.1 - 1) (by omega)
      have hsm2 := HSM.out p.1 h1
      obtain ⟨b2, o2, rfl, hb2, hc2⟩ := hnu.pos (j := p.2) (by omega)
      rw [show nth (nthL g (p.1 - 1)) p.2 = atG g ((p.1 - 1), p.2) from rfl] at hc2
      have hrs := hs.row (j := (p.1 - 1)) (by omega)
      have hj : p.2 < (nthL g (p.1 - 1)).length := by omega
      clear hnu hsm1 hsm2
      have L0 : (0 : Int) ≤ (p.1 : Int) - 1 := by omega
      have L1 : (p.1 : Int) - 1 < (g.length : Int) := by omega
      have L4 : ((p.1 : Int) - 1).toNat = p.1 - 1 := by omega
      have d : decide ((0 : Int) < (p.1 : Int)) = true := decide_eq_true (by omega)
      go_wp2_with (at_builtin; refine wpList_append_own _ rfl _ _ 35 rfl w.heap.size 2 i0 (.int .i64 0) 1 8 Try.underlying35 hi hz0 hz1 hz2 rfl (by decide) _ _ _ rfl (HO.out.1.alloc _) ⟨w.heap.size + 1, 0, none⟩ 1 1 [.int .i64 (atG g ((p.1 - 1), p.2))] rfl rfl (own_new1c _ _ _ _ (by simp)) ?c2A ?c3A ?c4A ?c5A ?_)
      case c2A => (first | rfl | (intro u hu; simp at hu; subst hu; rfl))
      case c3A => have := HLN.out; unfold maxLen; first | omega | (simp; omega)
      case c4A => have := HLN.out; first | omega | (simp; omega)
      case c5A => have := HB.out.size; first | omega | (simp at this ⊢; omega)
      · intro v' w5 hown' hgrow hnil
        have hsz := HB.out.size
        have HX := Lib.hid (show Below w.heap.size w w5 from below_grown (HB.out.alloc hsz _) (by simp at hsz ⊢; omega) hgrow fun q hq => HO.out.lt q hq)
        have HY := Lib.hid (show OwnI w.heap.size w5 v' (arA g p) by rw [HE.out]; exact OwnI.snoc hown' (fun e => by simp [e] at hnil))
        clear hown' hgrow hnil
        go_wp2_with fail
        go_meet
        exact ⟨HY.out, HX.out⟩
    · have HE := Lib.hid (show arA g p = ([] : List Int) by simp [arA, t])
      have d : decide ((0 : Int) < (p.1 : Int)) = false := decide_eq_false (by omega)
      go_wp2_with fail
      go_meet
      exact ⟨by rw [HE.out]; exact HO.out, HB.out⟩
  case rest =>
    have HO1 := Lib.hid hcut.1
    have HB1 := Lib.hid hcut.2
    clear hcut
    go_upto_if 26 with fail
    go_cut [7] (fun v wx => OwnI w.heap.size wx v (arA g p ++ arB g p) ∧ Below w.heap.size w wx)
    case first =>
      have HO := Lib.hid HO1.out
      have HB := Lib.hid (show Below w.heap.size w (wc) from HB1.out)
      by_cases t : p.1 + 1 < g.length
      · have HE := Lib.hid (show arA g p ++ arB g p = arA g p ++ [atG g ((p.1 + 1), p.2)] by simp [arB, t])
        have HLN := Lib.hid (show (arA g p).length ≤ 3 from arL_len1 g p)
        obtain ⟨P, hP⟩ : ∃ P, P = arA g p := ⟨_, rfl⟩
        rw [← hP] at HO HLN
        have HE := Lib.hid (HE.out.trans (by rw [hP] : _ = P ++ [_]))
        clear hP
        obtain ⟨b, o, rfl, hbk, ar, cr, hc, hnu⟩ := (HGR.out.below HB.out).pos (j := (p.1 + 1)) (by omega)
        have hsm1 := HSM.out (p.1 + 1) (by omega)
        have hsm2 := HSM.out p.1 h1
        obtain ⟨b2, o2, rfl, hb2, hc2⟩ := hnu.pos (j := p.2) (by omega)
        rw [show nth (nthL g (p.1 + 1)) p.2 = atG g ((p.1 + 1), p.2) from rfl] at hc2
        have hrs := hs.row (j := (p.1 + 1)) (by omega)
        have hj : p.2 < (nthL g (p.1 + 1)).length := by omega
        clear hnu hsm1 hsm2
        have L0 : (0 : Int) ≤ (p.1 : Int) + 1 := by omega
        have L1 : (p.1 : Int) + 1 < (g.length : Int) := by omega
        have L4 : ((p.1 : Int) + 1).toNat = p.1 + 1 := by omega
        have d : decide ((p.1 : Int) + 1 < (g.length : Int)) = true := decide_eq_true (by omega)
        go_wp2_with (at_builtin; refine wpList_append_own _ rfl _ _ 35 rfl w.heap.size 2 i0 (.int .i64 0) 1 8 Try.underlying35 hi hz0 hz1 hz2 rfl (by decide) _ _ _ rfl (HO.out.1.alloc _) ⟨(wc).heap.size, 0, none⟩ 1 1 [.int .i64 (atG g ((p.1 + 1), p.2))] rfl rfl (own_new1 _ _ _) ?c2B ?c3B ?c4B ?c5B ?_)
        case c2B => (first | rfl | (intro u hu; simp at hu; subst hu; rfl))
        case c3B => have := HLN.out; unfold maxLen; first | omega | (simp; omega)
        case c4B => have := HLN.out; first | omega | (simp; omega)
        case c5B => have := HB.out.size; first | omega | (simp at this ⊢; omega)
        · intro v' w5 hown' hgrow hnil
          have hsz := HB.out.size
          have HX := Lib.hid (show Below w.heap.size w w5 from below_grown (HB.out.alloc hsz _) (by simp at hsz ⊢; omega) hgrow fun q hq => HO.out.lt q hq)
          have HY := Lib.hid (show OwnI w.heap.size w5 v' (arA g p ++ arB g p) by rw [HE.out]; exact OwnI.snoc hown' (fun e => by simp [e] at hnil))
          clear hown' hgrow hnil
          go_wp2_with fail
          go_meet
          exact ⟨HY.out, HX.out⟩
      · have HE := Lib.hid (show arA g p ++ arB g p = arA g p by simp [arB, t])
        have d : decide ((p.1 : Int) + 1 < (g.length : Int)) = false := decide_eq_false (by omega)
        go_wp2_with fail
        go_meet
        exact ⟨by rw [HE.out]; exact HO.out, HB.out⟩
    case rest =>
      have HO2 := Lib.hid hcut.1
      have HB2 := Lib.hid hcut.2
      clear hcut
      go_upto_if 39 with fail
      go_cut [7] (fun v wx => OwnI w.heap.size wx v (arA g p ++ arB g p ++ arC g p) ∧ Below w.heap.size w wx)
      case first =>
        have HO := Lib.hid HO2.out
        have HB := Lib.hid (show Below w.heap.size w (wc) from HB2.out)
        by_cases t : 0 < p.2
        · have HE := Lib.hid (show arA g p ++ arB g p ++ arC g p = arA g p ++ arB g p ++ [atG g (p.1, (p.2 - 1))] by simp [arC, t])
          have HLN := Lib.hid (show (arA g p ++ arB g p).length ≤ 3 from arL_len2 g p)
          obtain ⟨P, hP⟩ : ∃ P, P = arA g p ++ arB g p := ⟨_, rfl⟩
          rw [← hP] at HO HLN
          have HE := Lib.hid (HE.out.trans (by rw [hP] : _ = P ++ [_]))
          clear hP
          obtain ⟨b, o, rfl, hbk, ar, cr, hc, hnu⟩ := (HGR.out.below HB.out).pos (j := p.1) (by omega)
          have hsm1 := HSM.out p.1 (by omega)
          have hsm2 := HSM.out p.1 h1
          obtain ⟨b2, o2, rfl, hb2, hc2⟩ := hnu.pos (j := (p.2 - 1)) (by omega)
          rw [show nth (nthL g p.1) (p.2 - 1) = atG g (p.1, (p.2 - 1)) from rfl] at hc2
          have hrs := hs.row (j := p.1) (by omega)
          have hj : (p.2 - 1) < (nthL g p.1).length := by omega
          clear hnu hsm1 hsm2
          have L0 : (0 : Int) ≤ (p.2 : Int) - 1 := by omega
          have L1 : (p.2 : Int) - 1 < ((nthL g p.1).length : Int) := by omega
          have L4 : ((p.2 : Int) - 1).toNat = p.2 - 1 := by omega
          have d : decide ((0 : Int) < (p.2 : Int)) = true := decide_eq_true (by omega)
          go_wp2_with (at_builtin; refine wpList_append_own _ rfl _ _ 35 rfl w.heap.size 2 i0 (.int .i64 0) 1 8 Try.underlying35 hi hz0 hz1 hz2 rfl (by decide) _ _ _ rfl (HO.out.1.alloc _) ⟨(wc).heap.size, 0, none⟩ 1 1 [.int .i64 (atG g (p.1, (p.2 - 1)))] rfl rfl (own_new1 _ _ _) ?c2C ?c3C ?c4C ?c5C ?_)
          case c2C => (first | rfl | (intro u hu; simp at hu; subst hu; rfl))
          case c3C => have := HLN.out; unfold maxLen; first | omega | (simp; omega)
          case c4C => have := HLN.out; first | omega | (simp; omega)
          case c5C => have := HB.out.size; first | omega | (simp at this ⊢; omega)
          · intro v' w5 hown' hgrow hnil
            have hsz := HB.out.size
            have HX := Lib.hid (show Below w.heap.size w w5 from below_grown (HB.out.alloc hsz _) (by simp at hsz ⊢; omega) hgrow fun q hq => HO.out.lt q hq)
            have HY := Lib.hid (show OwnI w.heap.size w5 v' (arA g p ++ arB g p ++ arC g p) by rw [HE.out]; exact OwnI.snoc hown' (fun e => by simp [e] at hnil))
            clear hown' hgrow hnil
            go_wp2_with fail
            go_meet
            exact ⟨HY.out, HX.out⟩
        · have HE := Lib.hid (show arA g p ++ arB g p ++ arC g p = arA g p ++ arB g p by simp [arC, t])
          have d : decide ((0 : Int) < (p.2 : Int)) = false := decide_eq_false (by omega)
          go_wp2_with fail
          go_meet
          exact ⟨by rw [HE.out]; exact HO.out, HB.out⟩
      case rest =>
        have HO3 := Lib.hid hcut.1
        have HB3 := Lib.hid hcut.2
        clear hcut
        obtain ⟨bD, oD, rfl, hbD, arD', crD, hcD, hnuD⟩ := (HGR.out.below HB3.out).pos h1
        have HNUD := Lib.hid hnuD
        clear hnuD
        go_upto_if 58 with fail
        go_cut [7] (fun v wx => OwnI w.heap.size wx v (arA g p ++ arB g p ++ arC g p ++ arD g p) ∧ Below w.heap.size w wx)
        case first =>
          have HO := Lib.hid HO3.out
          have HB := Lib.hid (show Below w.heap.size w (wc) from HB3.out)
          by_cases t : p.2 + 1 < (nthL g p.1).length
          · have HE := Lib.hid (show arA g p ++ arB g p ++ arC g p ++ arD g p = arA g p ++ arB g p ++ arC g p ++ [atG g (p.1, (p.2 + 1))] by simp [arD, t])
            have HLN := Lib.hid (show (arA g p ++ arB g p ++ arC g p).length ≤ 3 from arL_len3 g p)
            obtain ⟨P, hP⟩ : ∃ P, P = arA g p ++ arB g p ++ arC g p := ⟨_, rfl⟩
            rw [← hP] at HO HLN
            have HE := Lib.hid (HE.out.trans (by rw [hP] : _ = P ++ [_]))
            clear hP
            have hnu := HNUD.out
            have hsm1 := HSM.out p.1 (by omega)
            have hsm2 := HSM.out p.1 h1
            obtain ⟨b2, o2, rfl, hb2, hc2⟩ := hnu.pos (j := (p.2 + 1)) (by omega)
            rw [show nth (nthL g p.1) (p.2 + 1) = atG g (p.1, (p.2 + 1)) from rfl] at hc2
            have hrs := hs.row (j := p.1) (by omega)
            have hj : (p.2 + 1) < (nthL g p.1).length := by omega
            clear hnu hsm1 hsm2
            have L0 : (0 : Int) ≤ (p.2 : Int) + 1 := by omega
            have L1 : (p.2 : Int) + 1 < ((nthL g p.1).length : Int) := by omega
            have L4 : ((p.2 : Int) + 1).toNat = p.2 + 1 := by omega
            have d : decide ((p.2 : Int) + 1 < ((nthL g p.1).length : Int)) = true := decide_eq_true (by omega)
            go_wp2_with (at_builtin; refine wpList_append_own _ rfl _ _ 35 rfl w.heap.size 2 i0 (.int .i64 0) 1 8 Try.underlying35 hi hz0 hz1 hz2 rfl (by decide) _ _ _ rfl (HO.out.1.alloc _) ⟨(wc).heap.size, 0, none⟩ 1 1 [.int .i64 (atG g (p.1, (p.2 + 1)))] rfl rfl (own_new1 _ _ _) ?c2D ?c3D ?c4D ?c5D ?_)
            case c2D => (first | rfl | (intro u hu; simp at hu; subst hu; rfl))
            case c3D => have := HLN.out; unfold maxLen; first | omega | (simp; omega)
            case c4D => have := HLN.out; first | omega | (simp; omega)
            case c5D => have := HB.out.size; first | omega | (simp at this ⊢; omega)
            · intro v' w5 hown' hgrow hnil
              have hsz := HB.out.size
              have HX := Lib.hid (show Below w.heap.size w w5 from below_grown (HB.out.alloc hsz _) (by simp at hsz ⊢; omega) hgrow fun q hq => HO.out.lt q hq)
              have HY := Lib.hid (show OwnI w.heap.size w5 v' (arA g p ++ arB g p ++ arC g p ++ arD g p) by rw [HE.out]; exact OwnI.snoc hown' (fun e => by simp [e] at hnil))
              clear hown' hgrow hnil
              go_wp2_with fail
              go_meet
              exact ⟨HY.out, HX.out⟩
          · have HE := Lib.hid (show arA g p ++ arB g p ++ arC g p ++ arD g p = arA g p ++ arB g p ++ arC g p by simp [arD, t])
            have d : decide ((p.2 : Int) + 1 < ((nthL g p.1).length : Int)) = false := decide_eq_false (by omega)
            go_wp2_with fail
            go_meet
            exact ⟨by rw [HE.out]; exact HO.out, HB.out⟩
        case rest =>
          have HO4 := Lib.hid hcut.1
          have HB4 := Lib.hid hcut.2
          clear hcut
          go_wp2
          go_ret
          obtain ⟨b, cap', rfl, hb1, hb2, hnu⟩ := HO4.out.form
          exact ⟨b, cap', rfl, hnu, HB4.out⟩
theorem nearL_eq {n m : Nat} {p : Nat × Nat} (h1 : p.1 < n) (h2 : p.2 < m) :
    nearTo n m p 4 = (if 0 < p.1 then [(p.1 - 1, p.2)] else []) ++ (if 0 < p.2 then [(p.1, p.2 - 1)] else []) ++ (if p.2 + 1 < m then [(p.1, p.2 + 1)] else []) ++ (if p.1 + 1 < n then [(p.1 + 1, p.2)] else []) := by
  have e0 : inGB n m (cand p 0) = decide (0 < p.1) := decide_eq_decide.2 (by simp only [cand]; omega)
  have e1 : inGB n m (cand p 1) = decide (0 < p.2) := decide_eq_decide.2 (by simp only [cand]; omega)
  have e2 : inGB n m (cand p 2) = decide (p.2 + 1 < m) := decide_eq_decide.2 (by simp only [cand]; omega)
  have e3 : inGB n m (cand p 3) = decide (p.1 + 1 < n) := decide_eq_decide.2 (by simp only [cand]; omega)
  have n0 : natP (cand p 0) = (p.1 - 1, p.2) := by simp only [natP, cand, Prod.mk.injEq]; omega
  have n1 : natP (cand p 1) = (p.1, p.2 - 1) := by simp only [natP, cand, Prod.mk.injEq]; omega
  have n2 : natP (cand p 2) = (p.1, p.2 + 1) := by simp only [natP, cand, Prod.mk.injEq]; omega
  have n3 : natP (cand p 3) = (p.1 + 1, p.2) := by simp only [natP, cand, Prod.mk.injEq]; omega
  have e : List.range 4 = [0, 1, 2, 3] := rfl
  unfold nearTo
  rw [e]
  simp only [List.filter_cons, List.filter_nil, e0, e1, e2, e3, decide_eq_true_eq]
  by_cases t0 : 0 < p.1 <;> by_cases t1 : 0 < p.2 <;> by_cases t2 : p.2 + 1 < m <;> by_cases t3 : p.1 + 1 < n <;> simp only [t0, t1, t2, t3, if_true, if_false, List.map_cons, List.map_nil, n0, n1, n2, n3, List.nil_append, List.cons_append, List.append_nil]
end Go.Proofs.Ythhgepiccjndpaa
