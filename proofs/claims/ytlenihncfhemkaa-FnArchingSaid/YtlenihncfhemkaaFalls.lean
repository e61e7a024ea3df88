/- Whether water runs to the edge from all places: what the program's function answers where a bad place stands. -/
import Derived.Test.YtlenihncfhemkaaRuns
import Derived.Test.YtlenihncfhemkaaArch
import Derived.Test.YtlenihncfhemkaaSteep
import Derived.Deep.DeepCutAuto
import Derived.StillTailTactics
namespace Go.Proofs.Ytlenihncfhemkaa
open Go.RowKit Go.ChangeShapes Go.WideShapes
open Go.ChangeMaps (setBlock)
set_option linter.unusedVariables false

theorem keepS1 {w : World} {b bP : Nat} {o : Obj} {v0 v1 : Value} (h : w.cell? ⟨bP, 0, none⟩ = some v0 ∧ w.cell? ⟨bP, 1, none⟩ = some v1) (hne : bP ≠ b) : (setBlock w b o).cell? ⟨bP, 0, none⟩ = some v0 ∧ (setBlock w b o).cell? ⟨bP, 1, none⟩ = some v1 :=
  ⟨(setBlock_cell hne).trans h.1, (setBlock_cell hne).trans h.2⟩
theorem keepR2 {w1 w2 : World} {b c : Nat} {v0 v1 u0 u1 : Value} (h : (w1.cell? ⟨b, 0, none⟩ = some v0 ∧ w1.cell? ⟨b, 1, none⟩ = some v1) ∧ (w1.cell? ⟨c, 0, none⟩ = some u0 ∧ w1.cell? ⟨c, 1, none⟩ = some u1)) (hb : Below w1.heap.size w1 w2) :
    (w2.cell? ⟨b, 0, none⟩ = some v0 ∧ w2.cell? ⟨b, 1, none⟩ = some v1) ∧ (w2.cell? ⟨c, 0, none⟩ = some u0 ∧ w2.cell? ⟨c, 1, none⟩ = some u1) := ⟨keepP h.1 hb, keepP h.2 hb⟩
theorem keepS2 {w : World} {b bP bQ : Nat} {o : Obj} {v0 v1 u0 u1 : Value} (h : (w.cell? ⟨bP, 0, none⟩ = some v0 ∧ w.cell? ⟨bP, 1, none⟩ = some v1) ∧ (w.cell? ⟨bQ, 0, none⟩ = some u0 ∧ w.cell? ⟨bQ, 1, none⟩ = some u1)) (h1 : bP ≠ b) (h2 : bQ ≠ b) :
    ((setBlock w b o).cell? ⟨bP, 0, none⟩ = some v0 ∧ (setBlock w b o).cell? ⟨bP, 1, none⟩ = some v1) ∧ ((setBlock w b o).cell? ⟨bQ, 0, none⟩ = some u0 ∧ (setBlock w b o).cell? ⟨bQ, 1, none⟩ = some u1) := ⟨keepS1 h.1 h1, keepS1 h.2 h2⟩
/-- A region that draws its order, quiet up to its last few operations; what follows is kept shut. -/
theorem wp_still_shut {P : Program} {id : Nat} {Q : Exit → Act → World → Prop} {a : Act} {w : World} {l : List Oper} (n : Nat) (hm : P.follows .mixedOrders = true) (hB : Region.lexTailB .any l.toArray n = true)
    (h : ∀ Qt : Act → Prop, (∀ a', wpList P l.toArray Q (l.drop n) a' w.drew → Qt a') → wpStill P l.toArray w.drew Qt (l.take n) a) : (Code.region id l.toArray true).wp P Q a w :=
  wp_region_still_tail n hm hB (h _ fun _ h => h)
theorem wpStill_skip {P : Program} {ops : Array Oper} {w : World} {Q : Act → Prop} {a : Act} {o : Oper} {rest : List Oper} (hw : Region.wanted o (yielded ops a.tmps) = false)
    (h : ∀ K : Act → Prop, (∀ a, wpStill P ops w Q rest a → K a) → K (a.put o.dst undef)) : wpStill P ops w Q (o :: rest) a := by
  unfold wpStill
  rw [if_neg (by rw [hw]; simp)]
  exact h _ fun _ h => h
theorem mem_getD {l : List (Nat × Nat)} {p : Nat × Nat} (h : p ∈ l) : ∃ j, j < l.length ∧ l.getD j (0, 0) = p := by
  obtain ⟨j, hj, rfl⟩ := List.getElem_of_mem h
  exact ⟨j, hj, by simp [List.getD_eq_getElem?_getD, hj]⟩

/-- False where a bad place stands. -/
def FallsEnd (bad : Nat × Nat → Prop) (L : List (Nat × Nat)) (w : World) (e : Ending) (w' : World) : Prop := ∃ r : Bool, e = .returned (.bool r) ∧ ((∃ p ∈ L, bad p) → r = false) ∧ Below w.heap.size w w'
set_option maxRecDepth 100000 in
set_option maxHeartbeats 1000000 in
theorem fallsToEdge_c (bad : Nat × Nat → Prop) (a : Option Addr) (cap : Nat) (g : List (List Int)) (w : World) (h : Grid w a g) (hs : Small g) (hv : gridB 0 1000 g = true)
    (hbe : ∀ p, bad p → edgeB g p = false) (hbn : ∀ p q, bad p → q ∈ nearL g p → ¬ atG g q < atG g p) :
    Calls Try.prog 15 #[.slice a g.length cap] w fun e w' => FallsEnd bad (plTo g g.length) w e w' := by
  have ok := gridB_true hv
  have hll := ok.places
  have hmm := @run_makeMap Try.prog
  have HBE := Lib.hid hbe
  have HBN := Lib.hid hbn
  have HP := Lib.hid (fun j (hj : j < (plTo g g.length).length) => place_ok hj)
  have HV := Lib.hid (fun (p : Nat × Nat) (hp : p.1 < g.length ∧ p.2 < (nthL g p.1).length) => ok.at_ hp)
  have HLE := Lib.hid (fun j (hj : j < g.length) => ok.len hj)
  have HNI := Lib.hid (fun (p q : Nat × Nat) (hq : q ∈ nearL g p) => ok.near hq)
  have hgl := hs.len
  have HVA := Lib.hid (validArch_c a cap g w h hs)
  rw [hv] at HVA
  clear ok hv hbe hbn
  have HA0 := Lib.hid (show Below w.heap.size w (w.alloc (.map #[] 0)) from (Below.refl _ _).alloc (Nat.le_refl _) _)
  go_enter Try.func15, Try.ntmps15
  go_wp2_with fail
  refine call_same HVA.out ?_
  go_wp2_with fail
  refine (places_c _ _ g _ (h.below HA0.out) hs).mono ?_
  rintro e w2 ⟨v, rfl, hown, hnn, hb2⟩
  obtain ⟨bp, cp, rfl, hbp0, hbp, hcell⟩ := own_form hown hnn
  have HC := Lib.hid hcell
  have HB2 := Lib.hid (below_from hb2)
  have HR2 := Lib.hid ((Runs.made w bad).same (hb2.block w.heap.size (by simp)))
  have hpz : bp ≠ w.heap.size := by simp at hbp0; omega
  have hz2 : w.heap.size < w2.heap.size := HR2.out.lt
  have HW := Lib.hid h
  have HMEM := Lib.hid (fun p (hp : p ∈ plTo g g.length) => mem_getD hp)
  clear hown hnn hcell hb2 hbp0 h HVA HA0 hmm
  generalize hL : plTo g g.length = L at HP HC hll HMEM ⊢
  have HLQ := Lib.hid hL
  clear hL
  go_wp2
  go_loopw [19] (fun i wr => ∃ j n : Nat, j ≤ L.length ∧ i = .int .i64 j ∧ n ≤ j * 1000 ∧ Runs wr w.heap.size n bad ∧ (∀ o, wr.cell? ⟨bp, o, none⟩ = w2.cell? ⟨bp, o, none⟩) ∧ w2.heap.size ≤ wr.heap.size ∧ Below w.heap.size w wr) (fun i _ => L.length - (intOf i).toNat)
  case atStart => exact ⟨0, 0, Nat.zero_le _, rfl, Nat.le_refl _, HR2.out, fun _ => rfl, Nat.le_refl _, HB2.out⟩
  case round =>
    clear HR2 HB2
    obtain ⟨j, n, hj, rfl, hn, hR, hkeep, hszw, hbl⟩ := hrel
    have HR := Lib.hid hR
    have HK := Lib.hid hkeep
    have HL := Lib.hid hbl
    clear hR hkeep hbl
    by_cases hlt : j < L.length
    · go_wp2
      go_loopw [23] (fun i wi => ∃ k m : Nat, k ≤ L.length ∧ i = .int .i64 k ∧ m ≤ j * 1000 + k * 10 ∧ Runs wi w.heap.size m bad ∧ (∀ o, wi.cell? ⟨bp, o, none⟩ = w2.cell? ⟨bp, o, none⟩) ∧ w2.heap.size ≤ wi.heap.size ∧ Below w.heap.size w wi) (fun i _ => L.length - (intOf i).toNat)
      case atStart => exact ⟨0, n, Nat.zero_le _, rfl, by omega, HR.out, HK.out, hszw, HL.out⟩
      case round =>
        clear HR HK HL hszw hn
        obtain ⟨k, m, hk, rfl, hm, hR, hkeep, hszw, hbl⟩ := hrel
        have HK := Lib.hid hkeep
        have HL := Lib.hid hbl
        by_cases hlt2 : k < L.length
        · have hP := HP.out k hlt2
          have hC := HC.out k hlt2
          generalize L.getD k (0, 0) = p at hP hC
          have c0 := (hkeep (k * 2)).trans hC.1
          have c1 := (hkeep (k * 2 + 1)).trans hC.2
          have HPP := Lib.hid hP
          have hp2 : p.2 < 1048576 := by have := (HLE.out p.1 hP.1).2; omega
          have HSP := Lib.hid (show SmallP p from ⟨by omega, hp2⟩)
          clear hP hC hkeep hbl
          go_upto_region 10 with fail
          have hbw : w.heap.size < wr.heap.size := hR.lt
          have HA := Lib.hid (show Below wr.heap.size wr (wr.alloc (.cells #[.int .i64 p.1, .int .i64 p.2] 43)) from (Below.refl _ _).alloc (Nat.le_refl _) _)
          have e0 : (wr.alloc (.cells #[.int .i64 p.1, .int .i64 p.2] 43)).cell? ⟨wr.heap.size, 0, none⟩ = some (.int .i64 p.1) := by go_cell
          have e1 : (wr.alloc (.cells #[.int .i64 p.1, .int .i64 p.2] 43)).cell? ⟨wr.heap.size, 1, none⟩ = some (.int .i64 p.2) := by go_cell
          have HRA := Lib.hid (hR.same (HA.out.block _ hbw))
          have hzA : w.heap.size < (wr.alloc (.cells #[.int .i64 p.1, .int .i64 p.2] 43)).heap.size := HRA.out.lt
          have HQ := Lib.hid (And.intro e0 e1)
          have HLA := Lib.hid (below_next HL.out HA.out)
          have HKA := Lib.hid (fun o => (HA.out.cell (p := ⟨bp, o, none⟩) (by simp; omega)).trans (HK.out o))
          have hszA : w2.heap.size ≤ (wr.alloc (.cells #[.int .i64 p.1, .int .i64 p.2] 43)).heap.size := by simp; omega
          have hne : wr.heap.size ≠ w.heap.size := by omega
          generalize wr.alloc (.cells #[.int .i64 p.1, .int .i64 p.2] 43) = wA at HRA HQ HLA HKA hszA hzA ⊢
          clear HA HL HK hR c0 c1 e0 e1 hszw
          generalize wr.heap.size = bP at HQ hne ⊢
          go_cut [36] from 27 to 36 (fun _ wx => Runs wx w.heap.size (m + 1) bad ∧ (wx.cell? ⟨bP, 0, none⟩ = some (.int .i64 p.1) ∧ wx.cell? ⟨bP, 1, none⟩ = some (.int .i64 p.2)) ∧ (∀ o, wx.cell? ⟨bp, o, none⟩ = w2.cell? ⟨bp, o, none⟩) ∧ w2.heap.size ≤ wx.heap.size ∧ Below w.heap.size w wx)
          case first =>
            obtain ⟨x, hlook, hxb⟩ := (HRA.out.same (w' := wA.drew) rfl).look HSP.out
            have hmB : m < 1000000000 := by omega
            cases x
            · have HPUT := Lib.hid (fun w3 (hb3 : Below wA.heap.size wA w3) => (HRA.out.same (hb3.block _ hzA)).put hmB HSP.out (edgeB g p) (HBE.out p))
              clear HBE HBN HP HV HLE HNI hxb HMEM HC HRA
              go_region_held3 (fun w' => w'.cell? ⟨bP, 0, none⟩ = some (.int .i64 p.1) ∧ w'.cell? ⟨bP, 1, none⟩ = some (.int .i64 p.2))
                (first | exact HQ.out | exact keepP HQ.out (below_next (Below.refl _ _).drew hb3) | exact keepS1 (keepP HQ.out (below_next (Below.refl _ _).drew hb3)) hne)
                (first | (go_at_call 24; refine call_below (edge_c _ _ g p _ ((HW.out.below HLA.out).below (Below.refl _ _).drew) hs HPP.out.1 hp2) ?_; intro w3 hb3; obtain ⟨o3, hput, hR3⟩ := HPUT.out w3 (below_next (Below.refl _ _).drew hb3)))
              have HB3 := Lib.hid (below_next (Below.refl wA.heap.size wA).drew hb3)
              go_wp2_with fail
              go_meet
              case rel => exact ⟨hR3, keepS1 (keepP HQ.out HB3.out) hne, fun o => (setBlock_cell hpz).trans ((HB3.out.cell (p := ⟨bp, o, none⟩) (by simp; omega)).trans (HKA.out o)), by rw [setBlock_size]; exact Nat.le_trans hszA HB3.out.size, below_setBlock (below_next HLA.out HB3.out) (Nat.le_refl _)⟩
            · obtain ⟨o3, hput, hR3⟩ := (HRA.out.same (w' := wA.drew) rfl).put hmB HSP.out true (fun hb => by have := hxb hb; cases this)
              clear HBE HBN HP HV HLE HNI hxb HMEM HC HRA
              obtain ⟨d0, d1⟩ := HQ.out
              go_still_tail 10, (by kernel_rfl)
              change wpList _ _ _ _ _ wA.drew
              go_wp2_with fail
              go_wp2_with fail
              go_meet
              case rel => exact ⟨hR3, keepS1 HQ.out hne, fun o => (setBlock_cell hpz).trans (HKA.out o), by rw [setBlock_size]; exact hszA, below_setBlock (below_next HLA.out (Below.refl _ _).drew) (Nat.le_refl _)⟩
          case rest =>
            clear HQ HKA HLA HRA hszA hzA
            obtain ⟨hR, hQ, hkeep, hszw, hbl⟩ := hcut
            have HQ := Lib.hid hQ
            have HR := Lib.hid hR
            have HK := Lib.hid hkeep
            have HL := Lib.hid hbl
            have hbC : w.heap.size < wc.heap.size := hR.lt
            obtain ⟨d0, d1⟩ := hQ
            clear hR hkeep hbl
            go_wp2_with fail
            refine (near_c _ _ g p _ (HW.out.below HL.out) hs HPP.out.1 hp2).mono ?_
            rintro e w3 ⟨v3, rfl, hown3, hnn3, hb3⟩
            obtain ⟨bq, cq, rfl, hbq0, hbq, hcell3⟩ := own_form hown3 hnn3
            have HC3 := Lib.hid hcell3
            have HQ3 := Lib.hid (keepP HQ.out hb3)
            have HR3 := Lib.hid (HR.out.same (hb3.block _ hbC))
            have HL3 := Lib.hid (below_next HL.out hb3)
            have HK3 := Lib.hid (fun o => (hb3.cell (p := ⟨bp, o, none⟩) (by simp; omega)).trans (HK.out o))
            have hz3 : w2.heap.size ≤ w3.heap.size := Nat.le_trans hszw hb3.size
            have HQI := Lib.hid (fun i (hi : i < (nearL g p).length) => HNI.out p _ (place_mem hi))
            have HQN := Lib.hid (fun i (hi : i < (nearL g p).length) (hb : bad p) => HBN.out p _ hb (place_mem hi))
            have hlq : (nearL g p).length ≤ 4 := nearTo_len _ _ _ _
            have hqz : bq ≠ w.heap.size := by omega
            clear hown3 hnn3 hcell3 hb3 HL HR HQ HK d0 d1 hszw hbC hbq0
            generalize nearL g p = LQ at HC3 HQI HQN hlq ⊢
            go_wp2
            go_loopw [41] (fun i wi => ∃ q r : Nat, q ≤ LQ.length ∧ i = .int .i64 q ∧ r ≤ j * 1000 + k * 10 + 1 + q ∧ Runs wi w.heap.size r bad ∧ (wi.cell? ⟨bP, 0, none⟩ = some (.int .i64 p.1) ∧ wi.cell? ⟨bP, 1, none⟩ = some (.int .i64 p.2)) ∧ (∀ o, wi.cell? ⟨bp, o, none⟩ = w2.cell? ⟨bp, o, none⟩) ∧ (∀ o, wi.cell? ⟨bq, o, none⟩ = w3.cell? ⟨bq, o, none⟩) ∧ w3.heap.size ≤ wi.heap.size ∧ Below w.heap.size w wi) (fun i _ => LQ.length - (intOf i).toNat)
            case atStart => exact ⟨0, m + 1, Nat.zero_le _, rfl, by omega, HR3.out, HQ3.out, HK3.out, fun _ => rfl, Nat.le_refl _, HL3.out⟩
            case round =>
              clear HR3 HQ3 HK3 HL3
              obtain ⟨q, r, hq, rfl, hr, hR, hQ, hkeep, hkeepq, hszq, hbl⟩ := hrel
              have HR := Lib.hid hR
              have HQ := Lib.hid hQ
              have HK := Lib.hid hkeep
              have HKQ := Lib.hid hkeepq
              have HL := Lib.hid hbl
              have hbW : w.heap.size < wr.heap.size := hR.lt
              have hpW : bp < wr.heap.size := by omega
              have hqW : bq < wr.heap.size := by omega
              by_cases hlt3 : q < LQ.length
              · have hP := HQI.out q hlt3
                have hC := HC3.out q hlt3
                have HN := Lib.hid (HQN.out q hlt3)
                generalize LQ.getD q (0, 0) = u at hP hC HN
                have c0 := (hkeepq (q * 2)).trans hC.1
                have c1 := (hkeepq (q * 2 + 1)).trans hC.2
                have HUU := Lib.hid hP
                have hu2 : u.2 < 1048576 := by have := (HLE.out u.1 hP.1).2; omega
                have HSU := Lib.hid (show SmallP u from ⟨by omega, hu2⟩)
                clear hP hC hkeep hkeepq hbl hQ hR
                go_upto_region 14 with fail
                have HA := Lib.hid (show Below wr.heap.size wr (wr.alloc (.cells #[.int .i64 u.1, .int .i64 u.2] 43)) from (Below.refl _ _).alloc (Nat.le_refl _) _)
                have e0 : (wr.alloc (.cells #[.int .i64 u.1, .int .i64 u.2] 43)).cell? ⟨wr.heap.size, 0, none⟩ = some (.int .i64 u.1) := by go_cell
                have e1 : (wr.alloc (.cells #[.int .i64 u.1, .int .i64 u.2] 43)).cell? ⟨wr.heap.size, 1, none⟩ = some (.int .i64 u.2) := by go_cell
                have HRA := Lib.hid (HR.out.same (HA.out.block _ hbW))
                have hzA : w.heap.size < (wr.alloc (.cells #[.int .i64 u.1, .int .i64 u.2] 43)).heap.size := HRA.out.lt
                have HQ2 := Lib.hid (And.intro (keepP HQ.out HA.out) (And.intro e0 e1))
                have HLA := Lib.hid (below_next HL.out HA.out)
                have HKA := Lib.hid (fun o => (HA.out.cell (p := ⟨bp, o, none⟩) hpW).trans (HK.out o))
                have HKQA := Lib.hid (fun o => (HA.out.cell (p := ⟨bq, o, none⟩) hqW).trans (HKQ.out o))
                have hszA : w3.heap.size ≤ (wr.alloc (.cells #[.int .i64 u.1, .int .i64 u.2] 43)).heap.size := Nat.le_trans hszq HA.out.size
                have hneu : wr.heap.size ≠ w.heap.size := by omega
                have hpA : bp < (wr.alloc (.cells #[.int .i64 u.1, .int .i64 u.2] 43)).heap.size := by omega
                have hqA : bq < (wr.alloc (.cells #[.int .i64 u.1, .int .i64 u.2] 43)).heap.size := by omega
                generalize wr.alloc (.cells #[.int .i64 u.1, .int .i64 u.2] 43) = wA at HRA HQ2 HLA HKA HKQA hszA hzA hpA hqA ⊢
                clear HA HL HK HKQ HR HQ c0 c1 e0 e1 hszq hbW hpW hqW
                generalize wr.heap.size = bU at HQ2 hneu ⊢
                have hrB : r < 1000000000 := by omega
                obtain ⟨x, hlook, hxb⟩ := (HRA.out.same (w' := wA.drew) rfl).look HSP.out
                clear HBE HBN HP HV HNI HMEM HC HC3 HQI HQN
                cases x
                rotate_left
                · obtain ⟨o3, hput, hR3⟩ := (HRA.out.same (w' := wA.drew) rfl).put hrB HSP.out true (fun hb => by have := hxb hb; cases this)
                  have HD := Lib.hid hR3
                  clear hR3
                  obtain ⟨⟨d0, d1⟩, d2, d3⟩ := HQ2.out
                  refine wp_still_shut 19 (by kernel_rfl) (by kernel_rfl) (fun Qt hQt => ?_)
                  simp only [List.take_succ_cons, List.take_zero]
                  repeat (first
                    | ((with_reducible refine wpStill_step (fun K hK => ?_)); go_simp; (with_reducible refine hK _ ?_); clear hK K)
                    | ((with_reducible refine wpStill_skip ?_ (fun K hK => ?_)); rfl; simp only [Act.put, List.setIfInBounds_toArray, List.set_cons_zero, List.set_cons_succ]; (with_reducible refine hK _ ?_); clear hK K))
                  with_reducible refine wpStill_nil (hQt _ ?_)
                  clear hQt Qt
                  simp only [List.drop_succ_cons, List.drop_zero]
                  go_wp2
                  go_roundw
                  case rel => exact ⟨q + 1, r + 1, hlt3, by go_num, by omega, HD.out, (keepS2 HQ2.out hne hneu).1, fun o => (setBlock_cell hpz).trans (HKA.out o), fun o => (setBlock_cell hqz).trans (HKQA.out o), by rw [setBlock_size]; exact hszA, below_setBlock (below_next HLA.out (Below.refl _ _).drew) (Nat.le_refl _)⟩
                  case measure => simp [intOf]; omega
                obtain ⟨y, hlook2, hyb⟩ := (HRA.out.same (w' := wA.drew) rfl).look HSU.out
                cases y
                · obtain ⟨o3, hput, hR3⟩ := (HRA.out.same (w' := wA.drew) rfl).put hrB HSP.out false (fun _ => rfl)
                  have HD := Lib.hid hR3
                  clear hR3
                  obtain ⟨⟨d0, d1⟩, d2, d3⟩ := HQ2.out
                  refine wp_still_shut 19 (by kernel_rfl) (by kernel_rfl) (fun Qt hQt => ?_)
                  simp only [List.take_succ_cons, List.take_zero]
                  repeat (first
                    | ((with_reducible refine wpStill_step (fun K hK => ?_)); go_simp; (with_reducible refine hK _ ?_); clear hK K)
                    | ((with_reducible refine wpStill_skip ?_ (fun K hK => ?_)); rfl; simp only [Act.put, List.setIfInBounds_toArray, List.set_cons_zero, List.set_cons_succ]; (with_reducible refine hK _ ?_); clear hK K))
                  with_reducible refine wpStill_nil (hQt _ ?_)
                  clear hQt Qt
                  simp only [List.drop_succ_cons, List.drop_zero]
                  go_wp2
                  go_roundw
                  case rel => exact ⟨q + 1, r + 1, hlt3, by go_num, by omega, HD.out, (keepS2 HQ2.out hne hneu).1, fun o => (setBlock_cell hpz).trans (HKA.out o), fun o => (setBlock_cell hqz).trans (HKQA.out o), by rw [setBlock_size]; exact hszA, below_setBlock (below_next HLA.out (Below.refl _ _).drew) (Nat.le_refl _)⟩
                  case measure => simp [intOf]; omega
                have HPUT := Lib.hid (fun w4 (hb4 : Below wA.heap.size wA w4) => (HRA.out.same (hb4.block _ hzA)).put hrB HSP.out (decide (atG g u < atG g p)) (fun hb => decide_eq_false (by have := HN.out hb; omega)))
                clear hxb hyb HN HRA
                go_region_held3 (fun w' => (w'.cell? ⟨bP, 0, none⟩ = some (.int .i64 p.1) ∧ w'.cell? ⟨bP, 1, none⟩ = some (.int .i64 p.2)) ∧ (w'.cell? ⟨bU, 0, none⟩ = some (.int .i64 u.1) ∧ w'.cell? ⟨bU, 1, none⟩ = some (.int .i64 u.2)))
                  (first | exact HQ2.out | exact keepR2 HQ2.out (below_next (Below.refl _ _).drew hb4) | exact keepR2 HQ2.out (below_next (below_next (Below.refl _ _).drew hb4) hb5) | exact keepS2 (keepR2 HQ2.out (below_next (below_next (Below.refl _ _).drew hb4) hb5)) hne hneu)
                  (first | (go_at_call 22; (first | (have hx := hb4; clear hx; refine call_below (of_c _ _ g p _ ((HW.out.below HLA.out).below (below_next (Below.refl _ _).drew hb4)) hs HPP.out.1 HPP.out.2) ?_; intro w5 hb5; obtain ⟨o3, hput, hR3⟩ := HPUT.out w5 (below_next (below_next (Below.refl _ _).drew hb4) hb5)) | (refine call_below (of_c _ _ g u _ ((HW.out.below HLA.out).below (Below.refl _ _).drew) hs HUU.out.1 HUU.out.2) ?_; intro w4 hb4))))
                have HB5 := Lib.hid (below_next (below_next (Below.refl wA.heap.size wA).drew hb4) hb5)
                have HD := Lib.hid hR3
                clear hR3
                go_wp2
                go_roundw
                case rel => exact ⟨q + 1, r + 1, hlt3, by go_num, by omega, HD.out, (keepS2 (keepR2 HQ2.out HB5.out) hne hneu).1, fun o => (setBlock_cell hpz).trans ((HB5.out.cell (p := ⟨bp, o, none⟩) hpA).trans (HKA.out o)), fun o => (setBlock_cell hqz).trans ((HB5.out.cell (p := ⟨bq, o, none⟩) hqA).trans (HKQA.out o)), by rw [setBlock_size]; exact Nat.le_trans hszA HB5.out.size, below_setBlock (below_next HLA.out HB5.out) (Nat.le_refl _)⟩
                case measure => simp [intOf]; omega
              · obtain rfl : q = LQ.length := by omega
                clear hQ hR hkeep hkeepq hbl HBE HBN HP HV HNI HMEM HC HC3 HQI HQN
                have hszN : w2.heap.size ≤ wr.heap.size := by omega
                go_wp2
                go_roundw
                case rel => exact ⟨k + 1, r, hlt2, by go_num, by omega, HR.out, HK.out, hszN, HL.out⟩
                case measure => simp [intOf]; omega
        · obtain rfl : k = L.length := by omega
          have HR := Lib.hid hR
          clear hR hkeep hbl HBE HBN HP HV HNI HMEM HC
          go_wp2
          go_roundw
          case rel => exact ⟨j + 1, m, hlt, by go_num, by omega, HR.out, HK.out, hszw, HL.out⟩
          case measure => simp [intOf]; omega
    · obtain rfl : j = L.length := by omega
      go_wp2
      go_loopw [69] (fun i wi => ∃ k : Nat, k ≤ L.length ∧ i = .int .i64 k ∧ (∀ l, l < k → ¬ bad (L.getD l (0, 0))) ∧ Runs wi w.heap.size n bad ∧ (∀ o, wi.cell? ⟨bp, o, none⟩ = w2.cell? ⟨bp, o, none⟩) ∧ Below w.heap.size w wi) (fun i _ => L.length - (intOf i).toNat)
      case atStart => exact ⟨0, Nat.zero_le _, rfl, fun _ h => absurd h (Nat.not_lt_zero _), HR.out, HK.out, HL.out⟩
      case round =>
        clear HR HK HL
        obtain ⟨k, hk, rfl, hno, hR, hkeep, hbl⟩ := hrel
        have HR := Lib.hid hR
        have HK := Lib.hid hkeep
        have HL := Lib.hid hbl
        have HNO := Lib.hid hno
        have hbW : w.heap.size < wr.heap.size := hR.lt
        by_cases hlt2 : k < L.length
        · have hP := HP.out k hlt2
          have hC := HC.out k hlt2
          have c0 := (hkeep (k * 2)).trans hC.1
          have c1 := (hkeep (k * 2 + 1)).trans hC.2
          have HST := Lib.hid (fun (hb : ¬ bad (L.getD k (0, 0))) l (hl : l < k + 1) => (show ¬ bad (L.getD l (0, 0)) by
            rcases Nat.lt_or_eq_of_le (Nat.le_of_lt_succ hl) with h1 | rfl
            · exact HNO.out l h1
            · exact hb))
          generalize L.getD k (0, 0) = p at hP hC c0 c1 HST
          have hp2 : p.2 < 1048576 := by have := (HLE.out p.1 hP.1).2; omega
          have HA := Lib.hid (show Below wr.heap.size wr (wr.alloc (.cells #[.int .i64 p.1, .int .i64 p.2] 43)) from (Below.refl _ _).alloc (Nat.le_refl _) _)
          have HRA := Lib.hid (HR.out.same (HA.out.block _ hbW))
          obtain ⟨x, hlook, hxb⟩ := HRA.out.look (p := p) ⟨by omega, hp2⟩
          have HX := Lib.hid hxb
          have e0 : (wr.alloc (.cells #[.int .i64 p.1, .int .i64 p.2] 43)).cell? ⟨wr.heap.size, 0, none⟩ = some (.int .i64 p.1) := by go_cell
          have e1 : (wr.alloc (.cells #[.int .i64 p.1, .int .i64 p.2] 43)).cell? ⟨wr.heap.size, 1, none⟩ = some (.int .i64 p.2) := by go_cell
          have HLA := Lib.hid (below_next HL.out HA.out)
          have hcl := World.block_lt_of_cell? _ _ c0
          have HKA := Lib.hid (fun o => (HA.out.cell (p := ⟨bp, o, none⟩) hcl).trans (HK.out o))
          clear hxb hP hC hno hR hkeep hbl hcl HBE HBN HP HV HNI HC HLE
          cases x
          · go_wp2
            go_returns
            exact ⟨false, rfl, fun _ => rfl, HLA.out⟩
          · have HNB := Lib.hid (HST.out (fun hb => by have := HX.out hb; cases this))
            go_wp2
            go_roundw
            case rel => exact ⟨k + 1, hlt2, by go_num, HNB.out, HRA.out, HKA.out, HLA.out⟩
            case measure => simp [intOf]; omega
        · obtain rfl : k = L.length := by omega
          clear hno hR hkeep hbl HBE HBN HP HV HNI HC HLE
          go_wp2
          go_returns
          exact ⟨true, rfl, fun ⟨p, hp, hb⟩ => by
            rw [HLQ.out] at hp
            obtain ⟨l, hl, rfl⟩ := HMEM.out p hp
            exact absurd hb (HNO.out l hl), HL.out⟩
end Go.Proofs.Ytlenihncfhemkaa
