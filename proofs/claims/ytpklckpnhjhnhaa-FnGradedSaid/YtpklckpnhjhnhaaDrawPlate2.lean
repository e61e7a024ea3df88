/- The plates that the reference draws, valid mostly. -/
import Derived.Test.YtpklckpnhjhnhaaDrawPlate
namespace Go.Proofs.Ytpklckpnhjhnhaa
open Go.RowKit Go.ChangeShapes Go.WideShapes
set_option linter.unusedVariables false

theorem Only.drew {b : Nat} {a w : World} (h : Only b a w) : Only b a w.drew := ⟨h.os, h.tape, h.output, h.size, h.block⟩
theorem Src.drew {b : Nat} {w : World} {a : Option Addr} {cap : Nat} {z : List Int} {n : Int} (h : Src b w a cap z n) : Src b w.drew a cap z n := h
theorem Only.setNew {b : Nat} {w w' : World} (h : Only b w w') {p : Addr} (hp : w.heap.size ≤ p.block) (u : Value) : Only b w (w'.setCell p u) :=
  ⟨h.os, h.tape, h.output, by simpa using h.size, fun k hk hne => (Below.heap_setCell w' p u k (by omega)).trans (h.block k hk hne)⟩
theorem Src.over {b : Nat} {w0 w : World} {a : Option Addr} {cap : Nat} {z : List Int} {n0 n : Int} (h0 : Src b w0 a cap z n0) (h : Src b w a cap z n) {p : Addr} {u : Value} (hp : p.block ≠ b) (ho : Only b w0 (w.setCell p u)) : Src b (w.setCell p u) a cap z n := by
  obtain ⟨⟨c0, c1, s, c2⟩, ⟨f1, f2⟩, _, hB, ha⟩ := h
  have n0' : ∀ o, p ≠ (⟨b, o, none⟩ : Addr) := fun o e => hp (by rw [e])
  refine ⟨⟨(World.cell?_setCell_other _ _ _ _ (n0' 0)).trans c0, (World.cell?_setCell_other _ _ _ _ (n0' 1)).trans c1, s, (World.cell?_setCell_other _ _ _ _ (n0' 2)).trans c2⟩, ⟨by simpa using f1, by simpa using f2⟩, ?_, hB, ha⟩
  obtain ⟨-, -, hz, -, ha0⟩ := h0
  rcases hz with rfl | ⟨b2, o2, rfl, hc⟩
  · exact .inl rfl
  · refine .inr ⟨b2, o2, rfl, fun j hj => ?_⟩
    have h1 := hc j hj
    exact (ho.cell (p := ⟨b2, o2 + j, none⟩) (World.block_lt_of_cell? _ _ h1) (show b2 ≠ b from ha0 (by omega) ⟨b2, o2, none⟩ rfl)).trans h1
/-- The first number of the first row, written anew. -/
def poked (g : List (List Int)) (u : Int) : List (List Int) := g.set 0 ((nthL g 0).set 0 u)
theorem poked_len (g : List (List Int)) (u : Int) : (poked g u).length = g.length := by simp [poked]
theorem poked_nth {g : List (List Int)} {u : Int} {j : Nat} (hj : j < g.length) : nthL (poked g u) j = if j = 0 then (nthL g 0).set 0 u else nthL g j := by
  unfold poked nthL
  by_cases h : j = 0
  · subst h; simp [List.getD_eq_getElem?_getD, hj]
  · simp [List.getD_eq_getElem?_getD, h, Ne.symm h]
theorem poked_rlen {g : List (List Int)} {u : Int} {j : Nat} (hj : j < g.length) : (nthL (poked g u) j).length = (nthL g j).length := by
  rw [poked_nth hj]
  split
  · rename_i h; subst h; simp
  · rfl
theorem grid_poke {B C b : Nat} {r c : Nat → Nat} {w : World} {g : List (List Int)} (hB : B ≤ b) (hC : b < C)
    (h : ∀ j, j < g.length → w.cell? ⟨b, j, none⟩ = some (.slice (some ⟨r j, 0, none⟩) (nthL g j).length (c j)) ∧ (B ≤ r j ∧ r j < C ∧ r j ≠ b) ∧ RowC w (r j) (nthL g j).length (nth (nthL g j)))
    (hd : ∀ i j, i < j → j < g.length → r i ≠ r j) (h0 : 0 < g.length) (h1 : 0 < (nthL g 0).length) (u : Int) : GridA B C (w.setCell ⟨r 0, 0, none⟩ (.int .i64 u)) (some ⟨b, 0, none⟩) (poked g u) := by
  have hb0 := (h 0 h0).2.1
  refine .inr ⟨b, r, c, rfl, hB, hC, fun j hj => ?_, fun i j hi hj => hd i j hi (by rw [poked_len] at hj; exact hj)⟩
  rw [poked_len] at hj
  obtain ⟨e1, e2, e3⟩ := h j hj
  have hblk : (w.setCell ⟨r 0, 0, none⟩ (.int .i64 u)).heap[b]? = w.heap[b]? := Below.heap_setCell _ _ _ _ (Ne.symm hb0.2.2)
  refine ⟨by rw [poked_rlen hj]; exact (World.cell?_of_block (w := w) hblk).trans e1, e2, ?_⟩
  rw [poked_rlen hj, poked_nth hj]
  by_cases hj0 : j = 0
  · subst hj0
    rw [if_pos rfl]
    refine (e3.set h1 u).congr fun i hi => ?_
    by_cases hi0 : i = 0
    · subst hi0; simp [nth, h1]
    · simp [nth, List.getD_eq_getElem?_getD, hi0, Ne.symm hi0]
  · rw [if_neg hj0]
    exact e3.of_block (Below.heap_setCell _ _ _ _ (fun e => hd 0 j (by omega) hj e.symm))
theorem keepD {b ob r0 n0 c0 : Nat} {x0 : Int} {w w' : World} (h : (w.cell? ⟨ob, 0, none⟩ = some (.slice (some ⟨r0, 0, none⟩) n0 c0) ∧ w.cell? ⟨r0, 0, none⟩ = some (.int .i64 x0) ∧ w.frozen? ⟨r0, 0, none⟩ = false) ∧ ob ≠ b ∧ r0 ≠ b) (ho : Only b w w') :
    w'.cell? ⟨ob, 0, none⟩ = some (.slice (some ⟨r0, 0, none⟩) n0 c0) ∧ w'.cell? ⟨r0, 0, none⟩ = some (.int .i64 x0) ∧ w'.frozen? ⟨r0, 0, none⟩ = false ∧ Only b w w' := by
  obtain ⟨⟨h1, h2, h3⟩, h4, h5⟩ := h
  exact ⟨(ho.cell (World.block_lt_of_cell? _ _ h1) h4).trans h1, (ho.cell (World.block_lt_of_cell? _ _ h2) h5).trans h2, (ho.frozen (p := ⟨r0, 0, none⟩) (World.block_lt_of_cell? _ _ h2) h5).trans h3, ho⟩

theorem many_bd : ∀ j, j < 3 → ∃ M : Nat, nth [0, 10, 11] j = (M : Int) ∧ M ≤ 11 := fun j hj => by
  match j, hj with
  | 0, _ => exact ⟨0, rfl, by omega⟩
  | 1, _ => exact ⟨10, rfl, by omega⟩
  | 2, _ => exact ⟨11, rfl, by omega⟩
set_option maxRecDepth 100000 in
set_option maxHeartbeats 1000000 in
theorem draw_c (b : Nat) (a : Option Addr) (cap : Nat) (z : List Int) (n : Int) (w : World) (h : Src b w a cap z n) (h0 : 0 ≤ n) (h1 : n ≤ 10000000000) :
    Calls Try.prog 53 #[.pointer (some ⟨b, 0, none⟩)] w fun e w' => ∃ (v : Option Addr) (cp : Nat) (g : List (List Int)) (k : Int), e = .returned (.slice v g.length cp) ∧ GridA w.heap.size w'.heap.size w' v g ∧ Small g ∧ (n ≤ k ∧ k ≤ n + 200) ∧ Src b w' a cap z k ∧ Only b w w' := by
  have HS := Lib.hid h
  have hbl := h.lt
  clear h
  obtain ⟨j0, hj, hy0, hy1, hy2⟩ := info_parts infoS
  go_enter Try.func53, Try.ntmps53
  go_wp2_with fail
  refine (drawOk_c b a cap z n _ HS.out h0 (by omega)).mono ?_
  rintro e w1 ⟨v, g, k1, rfl, hown, hgl, ⟨cc, hcc, hev⟩, hk1, hs1, ho1⟩
  have HG1 := Lib.hid hown
  have HE := Lib.hid hev
  have HS1 := Lib.hid hs1
  have HO1 := Lib.hid ho1
  clear hown hev hs1 ho1
  go_wp2_with fail
  refine (pick_c b a cap z 20 k1 _ HS1.out (by omega) (by omega) (by omega) (by omega)).mono ?_
  rintro e w2 ⟨x, k2, rfl, hx, hk2, hs2, ho2⟩
  have HS2 := Lib.hid hs2
  have HO2 := Lib.hid (HO1.out.trans ho2)
  have HG2 := Lib.hid ((HG1.out.only (Nat.le_refl _) ho2 (by omega)).wide ho2.size)
  have hz2 := HO2.out.size
  have HSM := Lib.hid (show Small g from small_of (by omega) fun j hj => by have := HE.out j hj; omega)
  clear hs2 ho2 HG1 HS1 HO1
  by_cases hx0 : x = 0
  · subst hx0
    have hl0 : 1 ≤ (nthL g 0).length := by
      obtain ⟨r, c, _, _, hr, _⟩ := HG2.out
      exact (hr 0 (by omega)).2.1
    obtain ⟨va, cp, hve, hga⟩ := HG2.out.gridA
    subst hve
    rcases hga with rfl | ⟨ob, r, c, rfl, hB, hC, hc, hd⟩
    · simp at hgl
    obtain ⟨e1, e2, e3⟩ := hc 0 (by omega)
    have HQ := Lib.hid (show (w2.cell? ⟨ob, 0, none⟩ = some (.slice (some ⟨r 0, 0, none⟩) (nthL g 0).length (c 0)) ∧ w2.cell? ⟨r 0, 0, none⟩ = some (.int .i64 (nth (nthL g 0) 0)) ∧ w2.frozen? ⟨r 0, 0, none⟩ = false) ∧ ob ≠ b ∧ r 0 ≠ b from ⟨⟨e1, (e3 0 (by omega)).1, (e3 0 (by omega)).2⟩, by omega, by omega⟩)
    have HC := Lib.hid (And.intro hB (And.intro hC (And.intro hc hd)))
    obtain ⟨gl, hgl2⟩ : ∃ gl, g.length = gl := ⟨_, rfl⟩
    obtain ⟨rl, hrl2⟩ : ∃ rl, (nthL g 0).length = rl := ⟨_, rfl⟩
    rw [hrl2] at HQ
    obtain ⟨q1, q2, q3⟩ := HQ.out.1
    clear e1 e2 e3 hc hd hB hC
    have hg0 : (0 : Int) < (gl : Int) := by omega
    have hr0 : (0 : Int) < (rl : Int) := by omega
    have hgn : 0 < gl := by omega
    have hrn : 0 < rl := by omega
    have hgz : ¬ gl = 0 := by omega
    have hrz : ¬ rl = 0 := by omega
    have HSA := Lib.hid (show Src b ((w2.alloc (.cells #[.int .i64 0, .int .i64 1, .int .i64 200, .int .i64 201] 2)).drew) a cap z k2 from (HS2.out.alloc _).drew)
    have HXA := Lib.hid (show ∀ j, j < [0, 1, 200, 201].length → ((w2.alloc (.cells #[.int .i64 0, .int .i64 1, .int .i64 200, .int .i64 201] 2)).drew).cell? ⟨w2.heap.size, j, none⟩ = some (.int .i64 (nth [0, 1, 200, 201] j)) from new_nums w2 [0, 1, 200, 201] 2)
    have HOA := Lib.hid (show Only b w2 ((w2.alloc (.cells #[.int .i64 0, .int .i64 1, .int .i64 200, .int .i64 201] 2)).drew) from ((Only.refl b w2).alloc _).drew)
    have hbz : w2.heap.size ≠ b := by omega
    have hor : (⟨r 0, 0, none⟩ : Addr) ≠ ⟨ob, 0, none⟩ := fun e => (HC.out.2.2.1 0 (by omega)).2.1.2.2 (congrArg Addr.block e)
    have HGL := Lib.hid hgl2
    have HRL := Lib.hid hrl2
    have HG5 := Lib.hid (show 1 ≤ g.length ∧ g.length ≤ 5 from hgl)
    have HL0 := Lib.hid hl0
    rw [hgl2]
    clear hgl2 hrl2 hgl hl0
    go_wp2_with fail
    go_region_held3 (fun w' => w'.cell? ⟨ob, 0, none⟩ = some (.slice (some ⟨r 0, 0, none⟩) rl (c 0)) ∧ w'.frozen? ⟨r 0, 0, none⟩ = false)
      (first | exact ⟨(keepD HQ.out (Only.refl b w2).drew).1, (keepD HQ.out (Only.refl b w2).drew).2.2.1⟩ | exact ⟨(keepD HQ.out HOA.out).1, (keepD HQ.out HOA.out).2.2.1⟩ | exact ⟨(keepD HQ.out ((Only.refl b w2).drew.alloc _)).1, (keepD HQ.out ((Only.refl b w2).drew.alloc _)).2.2.1⟩ | exact ⟨(keepD HQ.out (HOA.out.trans ho5)).1, (keepD HQ.out (HOA.out.trans ho5)).2.2.1⟩ | exact ⟨(World.cell?_setCell_other _ _ _ _ hor).trans p1, by simpa using p3⟩ | go_keep)
      (first | (go_at_call 48; refine (among_c b w2.heap.size 4 a cap z [0, 1, 200, 201] k2 _ HSA.out HXA.out hbz (by decide) (by decide) (by omega) (by omega)).mono ?_; rintro e w5 ⟨j, k5, rfl, hj5, hk5, hs5, ho5⟩; obtain ⟨p1, p2, p3, -⟩ := keepD HQ.out (HOA.out.trans ho5)))
    all_goals
      have HGA := Lib.hid (show GridA w.heap.size (w5.setCell ⟨r 0, 0, none⟩ (.int .i64 (nth [0, 1, 200, 201] j))).heap.size (w5.setCell ⟨r 0, 0, none⟩ (.int .i64 (nth [0, 1, 200, 201] j))) (some ⟨ob, 0, none⟩) (poked g (nth [0, 1, 200, 201] j)) from
        (grid_poke (w := w5) HC.out.1 HC.out.2.1 (fun i hi => by
          obtain ⟨e1, e2, e3⟩ := HC.out.2.2.1 i hi
          have ho := HOA.out.trans ho5
          exact ⟨(ho.cell (World.block_lt_of_cell? _ _ e1) (show ob ≠ b by have := HC.out.1; omega)).trans e1, e2, e3.of_block (ho.block _ (by omega) (by omega))⟩) HC.out.2.2.2 (by have := HG5.out; omega) (by have := HL0.out; omega) _).wide (Nat.le_refl _) (by have := (HOA.out.trans ho5).size; simpa using this))
      have HOW := Lib.hid ((HO2.out.trans (HOA.out.trans ho5)).setNew (p := ⟨r 0, 0, none⟩) (show w.heap.size ≤ r 0 by have := (HC.out.2.2.1 0 (by have := HG5.out; omega)).2.1.1; omega) (.int .i64 (nth [0, 1, 200, 201] j)))
      have HSW := Lib.hid (HS.out.over hs5 (p := ⟨r 0, 0, none⟩) (u := .int .i64 (nth [0, 1, 200, 201] j)) (show r 0 ≠ b by have := (HC.out.2.2.1 0 (by have := HG5.out; omega)).2.1.1; omega) HOW.out)
      have HPL := Lib.hid (show (poked g (nth [0, 1, 200, 201] j)).length = gl by rw [poked_len]; exact HGL.out)
      have HPS := Lib.hid (show Small (poked g (nth [0, 1, 200, 201] j)) from small_of (by rw [poked_len]; have := HG5.out; omega) fun i hi => by
        rw [poked_len] at hi
        rw [poked_rlen hi]
        have := HE.out i hi
        omega)
      clear p1 p2 p3 hs5 ho5
      generalize (w5.setCell ⟨r 0, 0, none⟩ (.int .i64 (nth [0, 1, 200, 201] j))) = w6 at HGA HOW HSW ⊢
      go_wp2
      go_ret
      exact ⟨_, cp, _, k5, by rw [HPL.out]; rfl, HGA.out, HPS.out, by omega, HSW.out, HOW.out⟩
  · by_cases hx1 : x = 1
    · subst hx1
      have HR := Lib.hid (show RowC (w2.alloc (.cells #[.int .i64 5] 2)) w2.heap.size 1 (nth [5]) from fun j hj => by
        obtain rfl : j = 0 := by omega
        exact ⟨show _ = some (Value.int .i64 5) by go_cell, by go_cell⟩)
      have HA := Lib.hid ((Below.refl w2.heap.size w2).alloc (Nat.le_refl _) (.cells #[.int .i64 5] 2))
      have HG3 := Lib.hid (HG2.out.below (Nat.le_refl _) HA.out)
      have HS3 := Lib.hid (HS2.out.alloc (.cells #[.int .i64 5] 2))
      have HO3 := Lib.hid (HO2.out.alloc (.cells #[.int .i64 5] 2))
      obtain ⟨r, c, hown, hnn, hrows, hdist, hv⟩ := HG3.out
      have HOW := Lib.hid hown
      have HV := Lib.hid (And.intro hrows (And.intro hdist hv))
      clear hown hnn hrows hdist hv
      go_wp2_with (at_builtin; refine wpList_append_own _ rfl _ _ 24 rfl w.heap.size 26 j0 (.slice none 0 0) 1 24 Try.underlying24 hj hy0 hy1 hy2 rfl (by decide) _ _ _ rfl (HOW.out.alloc _) ⟨w2.heap.size + 1, 0, none⟩ 1 1 [.slice (some ⟨w2.heap.size, 0, none⟩) 1 1] rfl rfl ?d1 ?d2 ?d3 ?d4 ?d5 ?_)
      case d1 =>
        have e : (w2.alloc (.cells #[.int .i64 5] 2)).heap.size = w2.heap.size + 1 := by simp
        rw [← e]
        exact own_new1 _ _ _
      case d2 => (first | rfl | (intro u hu; simp at hu; subst hu; rfl))
      case d3 => unfold maxLen; omega
      case d4 => omega
      case d5 => simp; omega
      · intro v' w5 hown' hgrow hnil
        have HO5 := Lib.hid (only_grown (HO3.out.alloc (.cells #[.slice (some ⟨w2.heap.size, 0, none⟩) 1 1] 26)) hgrow fun q hq => HG3.out.lt q hq)
        have HS5 := Lib.hid (HS.out.grown (HS3.out.alloc (.cells #[.slice (some ⟨w2.heap.size, 0, none⟩) 1 1] 26)) hgrow (fun e => by have := HG3.out.lt b e; omega) HO5.out)
        have HY := Lib.hid (show OwnG w.heap.size w5.heap.size w5 v' (g ++ [[5]]) from
          own_push HOW.out HV.out.1 HV.out.2.1 HV.out.2.2 (Nat.le_refl _) hz2 (by simp) (by simp) HR.out hown' hgrow hnil)
        have HSN := Lib.hid (show Small (g ++ [[5]]) from small_of (by simp; omega) fun j hj => by
          simp only [List.length_append, List.length_singleton] at hj
          by_cases h1 : j < g.length
          · rw [nthL_left h1]; have := HE.out j h1; omega
          · obtain rfl : j = g.length := by omega
            rw [nthL_last]; simp)
        clear hown' hgrow hnil
        obtain ⟨va, cp, hve, hga⟩ := HY.out.gridA
        subst hve
        go_wp2
        go_ret
        exact ⟨va, cp, g ++ [[5]], k2, rfl, hga, HSN.out, by omega, HS5.out, HO5.out⟩
    · by_cases hx2 : x = 2
      · subst hx2
        have HX3 := Lib.hid (new_nums w2 [0, 10, 11] 2)
        have HSA3 := Lib.hid (HS2.out.alloc (.cells #[.int .i64 0, .int .i64 10, .int .i64 11] 2))
        have HOA3 := Lib.hid (HO2.out.alloc (.cells #[.int .i64 0, .int .i64 10, .int .i64 11] 2))
        go_wp2_with fail
        refine (among_c b w2.heap.size 3 a cap z [0, 10, 11] k2 _ HSA3.out HX3.out (by omega) (by decide) (by decide) (by omega) (by omega)).mono ?_
        rintro e w5 ⟨j, k5, rfl, hj5, hk5, hs5, ho5⟩
        obtain ⟨M, hM, hMb⟩ := many_bd j hj5
        rw [hM]
        have HS5 := Lib.hid (hs5.alloc (.cells #[] 26))
        have HO5 := Lib.hid ((HOA3.out.trans ho5).alloc (.cells #[] 26))
        have hz5 := (HOA3.out.trans ho5).size
        have HG5 := Lib.hid (show OwnG w.heap.size (w5.alloc (.cells #[] 26)).heap.size (w5.alloc (.cells #[] 26)) (.slice (some ⟨w5.heap.size, 0, none⟩) 0 0) [] from OwnG.start (World.ownsRow_made w5 #[] 0 hz5 (Nat.zero_le _) rfl) (by simp) (Nat.le_refl _))
        clear hs5 ho5 hM hj5 HX3 HSA3 HOA3 HG2 HS2 HO2
        go_wp2
        go_loopw [3, 5] (fun v i wr => ∃ g : List (List Int), g.length ≤ M ∧ i = .int .i64 g.length ∧ Even g 2 ∧ OwnG w.heap.size wr.heap.size wr v g ∧ Src b wr a cap z k5 ∧ Only b w wr) (fun _ i _ => M - (intOf i).toNat)
        case atStart => exact ⟨[], by simp, rfl, Even.nil 2, HG5.out, HS5.out, HO5.out⟩
        case round =>
          clear HG5 HS5 HO5
          obtain ⟨q, hql, rfl, hev, hown, hsrc, honly⟩ := hrel
          have HE2 := Lib.hid hev
          have HG2 := Lib.hid hown
          have HS2 := Lib.hid hsrc
          have HO2 := Lib.hid honly
          have hz2' := HO2.out.size
          clear hev hown hsrc honly
          by_cases hlt : q.length < M
          · have HR := Lib.hid (show RowC (wr.alloc (.cells #[.int .i64 3, .int .i64 4] 2)) wr.heap.size 2 (nth [3, 4]) from fun j hj => by
              match j, hj with
              | 0, _ => exact ⟨show _ = some (Value.int .i64 3) by go_cell, by go_cell⟩
              | 1, _ => exact ⟨show _ = some (Value.int .i64 4) by go_cell, by go_cell⟩)
            have HA := Lib.hid ((Below.refl wr.heap.size wr).alloc (Nat.le_refl _) (.cells #[.int .i64 3, .int .i64 4] 2))
            have HG3 := Lib.hid (HG2.out.below (Nat.le_refl _) HA.out)
            have HS3 := Lib.hid (HS2.out.alloc (.cells #[.int .i64 3, .int .i64 4] 2))
            have HO3 := Lib.hid (HO2.out.alloc (.cells #[.int .i64 3, .int .i64 4] 2))
            obtain ⟨r, c, hown, hnn, hrows, hdist, hv⟩ := HG3.out
            have HOW := Lib.hid hown
            have HV := Lib.hid (And.intro hrows (And.intro hdist hv))
            have HLG := Lib.hid (show (q ++ [[3, 4]]).length = q.length + 1 by simp)
            clear hown hnn hrows hdist hv
            go_wp2_with (at_builtin; refine wpList_append_own _ rfl _ _ 24 rfl w.heap.size 26 j0 (.slice none 0 0) 1 24 Try.underlying24 hj hy0 hy1 hy2 rfl (by decide) _ _ _ rfl (HOW.out.alloc _) ⟨wr.heap.size + 1, 0, none⟩ 1 1 [.slice (some ⟨wr.heap.size, 0, none⟩) 2 2] rfl rfl ?d1 ?d2 ?d3 ?d4 ?d5 ?_)
            case d1 =>
              have e : (wr.alloc (.cells #[.int .i64 3, .int .i64 4] 2)).heap.size = wr.heap.size + 1 := by simp
              rw [← e]
              exact own_new1 _ _ _
            case d2 => (first | rfl | (intro u hu; simp at hu; subst hu; rfl))
            case d3 => unfold maxLen; omega
            case d4 => omega
            case d5 => simp; omega
            · intro v' w5 hown' hgrow hnil
              have HO5 := Lib.hid (only_grown (HO3.out.alloc (.cells #[.slice (some ⟨wr.heap.size, 0, none⟩) 2 2] 26)) hgrow fun q hq => HG3.out.lt q hq)
              have HS5 := Lib.hid (HS.out.grown (HS3.out.alloc (.cells #[.slice (some ⟨wr.heap.size, 0, none⟩) 2 2] 26)) hgrow (fun e => by have := HG3.out.lt b e; omega) HO5.out)
              have HY := Lib.hid (show OwnG w.heap.size w5.heap.size w5 v' (q ++ [[3, 4]]) from
                own_push HOW.out HV.out.1 HV.out.2.1 HV.out.2.2 (Nat.le_refl _) hz2' (by simp) (by simp) HR.out hown' hgrow hnil)
              have HEV := Lib.hid (HE2.out.snoc (row := [3, 4]) rfl)
              clear hown' hgrow hnil
              go_wp2_with fail
              exact ⟨⟨q ++ [[3, 4]], by rw [HLG.out]; omega, by rw [HLG.out]; go_num, HEV.out, HY.out, HS5.out, HO5.out⟩, by simp only [intOf]; omega⟩
          · have HSQ := Lib.hid (show Small q from small_of (by omega) fun i hi => by have := HE2.out i hi; omega)
            obtain ⟨va, cp, hve, hga⟩ := HG2.out.gridA
            subst hve
            have HGA := Lib.hid hga
            clear hga
            go_wp2
            go_ret
            exact ⟨va, cp, q, k5, rfl, HGA.out, HSQ.out, by omega, HS2.out, HO2.out⟩
      · have q0 : (x == 0) = false := beq_eq_false_iff_ne.2 hx0
        have q1 : (x == 1) = false := beq_eq_false_iff_ne.2 hx1
        have q2 : (x == 2) = false := beq_eq_false_iff_ne.2 hx2
        clear hx0 hx1 hx2
        obtain ⟨va, cp, hve, hga⟩ := HG2.out.gridA
        subst hve
        have HGA := Lib.hid hga
        clear hga
        go_wp2
        go_ret
        exact ⟨va, cp, g, k2, rfl, HGA.out, HSM.out, by omega, HS2.out, HO2.out⟩
end Go.Proofs.Ytpklckpnhjhnhaa
