/- Reading a string and a neck: both sides. -/
import Derived.Test.YtpklckpnhjhnhaaDoorReadList
import Derived.Test.YtpklckpnhjhnhaaDoorQuadText
import Derived.Test.YtpklckpnhjhnhaaDoorBox
namespace Go.Proofs.YtpklckpnhjhnhaaDoor
open Go.RowKit Go.ChangeShapes Go.WideShapes
set_option linter.unusedVariables false

/-- Four numbers in a row. -/
def fourOf : Option (List Int) → Option (Int × Int × Int × Int)
  | some [p, l, g, s] => some (p, l, g, s)
  | _ => none
/-- The four numbers of a text, where they are valid. -/
def readQ (ok : Int → Int → Int → Int → Bool) (l : List UInt8) : Option (Int × Int × Int × Int) :=
  match fourOf (readF l) with
  | some (p, q, r, s) => if ok p q r s then some (p, q, r, s) else none
  | none => none
def quadV (o : Option (Int × Int × Int × Int)) : Value := .agg #[.int .i64 (o.getD (0, 0, 0, 0)).1, .int .i64 (o.getD (0, 0, 0, 0)).2.1, .int .i64 (o.getD (0, 0, 0, 0)).2.2.1, .int .i64 (o.getD (0, 0, 0, 0)).2.2.2]
theorem readQ_no {ok : Int → Int → Int → Int → Bool} {l : List UInt8} (h : readF l = none) : readQ ok l = none := by unfold readQ; rw [h]; rfl
theorem readQ_len {ok : Int → Int → Int → Int → Bool} {l : List UInt8} {xs : List Int} (h : readF l = some xs) (hn : xs.length ≠ 4) : readQ ok l = none := by
  unfold readQ
  rw [h]
  have : fourOf (some xs) = none := by
    match xs, hn with
    | [], _ => rfl
    | [_], _ => rfl
    | [_, _], _ => rfl
    | [_, _, _], _ => rfl
    | [_, _, _, _], h => simp at h
    | _ :: _ :: _ :: _ :: _ :: _, _ => rfl
  rw [this]
theorem readQ_bad {ok : Int → Int → Int → Int → Bool} {l : List UInt8} {p q r s : Int} (h : readF l = some [p, q, r, s]) (hv : ok p q r s = false) : readQ ok l = none := by
  unfold readQ
  rw [h]
  show (if ok p q r s then some (p, q, r, s) else none) = none
  rw [if_neg (by rw [hv]; decide)]
theorem readQ_good {ok : Int → Int → Int → Int → Bool} {l : List UInt8} {p q r s : Int} (h : readF l = some [p, q, r, s]) (hv : ok p q r s = true) : readQ ok l = some (p, q, r, s) := by
  unfold readQ
  rw [h]
  show (if ok p q r s then some (p, q, r, s) else none) = _
  rw [if_pos hv]
theorem four_form {xs : List Int} (h : xs.length = 4) : ∃ p q r s, xs = [p, q, r, s] := by
  match xs, h with
  | [p, q, r, s], _ => exact ⟨p, q, r, s, rfl⟩

set_option maxRecDepth 100000 in
theorem readString_c (l : List UInt8) (hl : l.length ≤ 1048576) (w : World) (D : Door w) :
    Calls Tryd.prog 10 #[.string ⟨l.toArray⟩] w fun e w' => e = .returned (.tuple #[quadV (readQ cordB l), .bool (readQ cordB l).isSome]) ∧ Below w.heap.size w w' := by
  have HD := Lib.hid (D.below (show Below w.heap.size w (w.alloc (.cells #[.int .i64 0, .int .i64 0, .int .i64 0, .int .i64 0] 25)) from (Below.refl _ _).alloc (Nat.le_refl _) _))
  clear D
  cases hr : readF l with
  | none =>
    have HQ := Lib.hid (readQ_no (ok := cordB) hr)
    go_enter Tryd.func10, Tryd.ntmps10
    go_wp2_with (go_at_call 34; refine (readList_c l hl _ HD.out).mono ?_; rintro e w1 ⟨v, rfl, hg, hb1⟩; rw [hr] at hg; rw [hr]; refine Hid.out ?_)
    refine Lib.hid ?_
    obtain ⟨a, cap, rfl, hn⟩ := hg.form
    have HBX := Lib.hid ((Box4.new w (.int .i64 0) (.int .i64 0) (.int .i64 0) (.int .i64 0) 25).below hb1)
    obtain ⟨⟨b0, b1, b2, b3⟩, g0, g1, g2, g3⟩ := HBX.out
    have E := Lib.hid (box_done HBX.out (below_from hb1) (Nat.le_refl _) (.int .i64 0) (.int .i64 0) (.int .i64 0) (.int .i64 0))
    clear hb1 hg hn HD
    go_wp2
    generalize ((((w1.setCell ⟨w.heap.size, 0, none⟩ (.int .i64 0)).setCell ⟨w.heap.size, 1, none⟩ (.int .i64 0)).setCell ⟨w.heap.size, 2, none⟩ (.int .i64 0)).setCell ⟨w.heap.size, 3, none⟩ (.int .i64 0)) = w4 at E ⊢
    obtain ⟨⟨e0, e1, e2, e3⟩, hb⟩ := E.out
    refine bodyPost_ret (by simp [results, Tryd.results10, go_sem, e0, e1, e2, e3]; try rfl) rfl ?_
    exact ⟨by rw [HQ.out]; rfl, hb⟩
  | some xs =>
    by_cases h4 : xs.length = 4
    · obtain ⟨p, q, r, s, rfl⟩ := four_form h4
      go_enter Tryd.func10, Tryd.ntmps10
      go_wp2_with (go_at_call 34; refine (readList_c l hl _ HD.out).mono ?_; rintro e w1 ⟨v, rfl, hg, hb1⟩; rw [hr] at hg; rw [hr]; refine Hid.out ?_)
      refine Lib.hid ?_
      obtain ⟨a, cap, rfl, hn⟩ := hg.form
      obtain ⟨b, o, rfl, hbl, -⟩ := hn.pos (j := 0) (by simp)
      have hn4 : ∀ j, j < 4 → w1.cell? ⟨b, o + j, none⟩ = some (.int .i64 (nth [p, q, r, s] j)) := fun j hj => by
        obtain ⟨b', o', e, _, c⟩ := hn.pos (j := j) hj
        cases e
        exact c
      have c0 : w1.cell? ⟨b, o, none⟩ = some (.int .i64 p) := hn4 0 (by omega)
      have c1 : w1.cell? ⟨b, o + 1, none⟩ = some (.int .i64 q) := hn4 1 (by omega)
      have c2 : w1.cell? ⟨b, o + 2, none⟩ = some (.int .i64 r) := hn4 2 (by omega)
      have c3 : w1.cell? ⟨b, o + 3, none⟩ = some (.int .i64 s) := hn4 3 (by omega)
      have HBX := Lib.hid ((Box4.new w (.int .i64 0) (.int .i64 0) (.int .i64 0) (.int .i64 0) 25).below hb1)
      have HW := Lib.hid (below_from hb1)
      have HF := Lib.hid (show Cells4 w1 b o p q r s from ⟨c0, c1, c2, c3⟩)
      clear hb1 hg hn HD hn4 h4
      go_wp2_with fail
      go_region_held3 (fun w' => w'.cell? ⟨b, o, none⟩ = some (.int .i64 p) ∧ w'.cell? ⟨b, o + 1, none⟩ = some (.int .i64 q) ∧ w'.cell? ⟨b, o + 2, none⟩ = some (.int .i64 r) ∧ w'.cell? ⟨b, o + 3, none⟩ = some (.int .i64 s) ∧ Below w1.heap.size w1 w')
        (first | exact keepT4 HF.out hbl (Below.refl _ _).drew | exact keepT4 HF.out hbl ((Below.refl _ _).drew.alloc (Nat.le_refl _) _) | go_keep)
        (fail)
      clear c0 c1 c2 c3 HF
      have hsz := HW.out.size
      obtain ⟨w2, hw2⟩ : ∃ w2 : World, w2 = (w1.alloc (.cells #[.int .i64 p, .int .i64 q, .int .i64 r, .int .i64 s] 25)).drew := ⟨_, rfl⟩
      have HB2 := Lib.hid (show Box4 w2 w.heap.size (.int .i64 0) (.int .i64 0) (.int .i64 0) (.int .i64 0) by rw [hw2]; exact (HBX.out.alloc _).keep rfl)
      have HC2 := Lib.hid (show Box4 w2 w1.heap.size (.int .i64 p) (.int .i64 q) (.int .i64 r) (.int .i64 s) by rw [hw2]; exact (Box4.new w1 _ _ _ _ _).keep rfl)
      have HW2 := Lib.hid (show Below w.heap.size w w2 by rw [hw2]; exact (HW.out.alloc hsz _).drew)
      rw [← hw2]
      clear hw2 HBX HW
      obtain ⟨⟨c0, c1, c2, c3⟩, -⟩ := HC2.out
      go_wp2_with fail
      refine call_below (validString_c p q r s _) ?_
      intro w3 hb3
      have HB3 := Lib.hid (HB2.out.below hb3)
      have HC3 := Lib.hid (HC2.out.below hb3)
      have HW3 := Lib.hid (below_next HW2.out hb3)
      clear hb3 HB2 HC2 HW2 c0 c1 c2 c3
      obtain ⟨⟨c0, c1, c2, c3⟩, -⟩ := HC3.out
      obtain ⟨⟨b0, b1, b2, b3⟩, g0, g1, g2, g3⟩ := HB3.out
      cases hv : cordB p q r s
      · have HQ := Lib.hid (readQ_bad (ok := cordB) hr hv)
        have E := Lib.hid (box_done HB3.out HW3.out (Nat.le_refl _) (.int .i64 0) (.int .i64 0) (.int .i64 0) (.int .i64 0))
        clear hv
        go_wp2
        generalize ((((w3.setCell ⟨w.heap.size, 0, none⟩ (.int .i64 0)).setCell ⟨w.heap.size, 1, none⟩ (.int .i64 0)).setCell ⟨w.heap.size, 2, none⟩ (.int .i64 0)).setCell ⟨w.heap.size, 3, none⟩ (.int .i64 0)) = w4 at E ⊢
        obtain ⟨⟨e0, e1, e2, e3⟩, hb⟩ := E.out
        refine bodyPost_ret (by simp [results, Tryd.results10, go_sem, e0, e1, e2, e3]; try rfl) rfl ?_
        exact ⟨by rw [HQ.out]; rfl, hb⟩
      · have HQ := Lib.hid (readQ_good (ok := cordB) hr hv)
        have E := Lib.hid (box_done HB3.out HW3.out (Nat.le_refl _) (.int .i64 p) (.int .i64 q) (.int .i64 r) (.int .i64 s))
        clear hv
        go_wp2
        generalize ((((w3.setCell ⟨w.heap.size, 0, none⟩ (.int .i64 p)).setCell ⟨w.heap.size, 1, none⟩ (.int .i64 q)).setCell ⟨w.heap.size, 2, none⟩ (.int .i64 r)).setCell ⟨w.heap.size, 3, none⟩ (.int .i64 s)) = w4 at E ⊢
        obtain ⟨⟨e0, e1, e2, e3⟩, hb⟩ := E.out
        refine bodyPost_ret (by simp [results, Tryd.results10, go_sem, e0, e1, e2, e3]; try rfl) rfl ?_
        exact ⟨by rw [HQ.out]; rfl, hb⟩
    · have HQ := Lib.hid (readQ_len (ok := cordB) hr h4)
      have d : ((xs.length : Int) != 4) = true := by simp; omega
      have d2 : ((xs.length : Int) == 4) = false := by simp; omega
      clear h4
      go_enter Tryd.func10, Tryd.ntmps10
      go_wp2_with (go_at_call 34; refine (readList_c l hl _ HD.out).mono ?_; rintro e w1 ⟨v, rfl, hg, hb1⟩; rw [hr] at hg; rw [hr]; refine Hid.out ?_)
      refine Lib.hid ?_
      obtain ⟨a, cap, rfl, hn⟩ := hg.form
      have HBX := Lib.hid ((Box4.new w (.int .i64 0) (.int .i64 0) (.int .i64 0) (.int .i64 0) 25).below hb1)
      obtain ⟨⟨b0, b1, b2, b3⟩, g0, g1, g2, g3⟩ := HBX.out
      have E := Lib.hid (box_done HBX.out (below_from hb1) (Nat.le_refl _) (.int .i64 0) (.int .i64 0) (.int .i64 0) (.int .i64 0))
      clear hb1 hg hn HD
      go_wp2
      generalize ((((w1.setCell ⟨w.heap.size, 0, none⟩ (.int .i64 0)).setCell ⟨w.heap.size, 1, none⟩ (.int .i64 0)).setCell ⟨w.heap.size, 2, none⟩ (.int .i64 0)).setCell ⟨w.heap.size, 3, none⟩ (.int .i64 0)) = w4 at E ⊢
      obtain ⟨⟨e0, e1, e2, e3⟩, hb⟩ := E.out
      refine bodyPost_ret (by simp [results, Tryd.results10, go_sem, e0, e1, e2, e3]; try rfl) rfl ?_
      exact ⟨by rw [HQ.out]; rfl, hb⟩
set_option maxRecDepth 100000 in
theorem sReadString_c (l : List UInt8) (hl : l.length ≤ 1048576) (w : World) :
    Calls Tryd.prog 21 #[.string ⟨l.toArray⟩] w fun e w' => e = .returned (.tuple #[quadV (readQ cordB l), .bool (readQ cordB l).isSome]) ∧ Below w.heap.size w w' := by
  cases hr : readF l with
  | none =>
    have HQ := Lib.hid (readQ_no (ok := cordB) hr)
    go_enter Tryd.func21, Tryd.ntmps21
    go_wp2_with (go_at_call 42; refine (sReadList_c l hl _).mono ?_; rintro e w1 ⟨v, rfl, hg, hb1⟩; rw [hr] at hg; rw [hr]; refine Hid.out ?_)
    refine Lib.hid ?_
    obtain ⟨a, cap, rfl, hn⟩ := hg.form
    have HBX := Lib.hid ((Box4.new w (.int .i64 0) (.int .i64 0) (.int .i64 0) (.int .i64 0) 25).below hb1)
    obtain ⟨⟨b0, b1, b2, b3⟩, g0, g1, g2, g3⟩ := HBX.out
    have E := Lib.hid (box_done HBX.out (below_from hb1) (Nat.le_refl _) (.int .i64 0) (.int .i64 0) (.int .i64 0) (.int .i64 0))
    clear hb1 hg hn
    go_wp2
    generalize ((((w1.setCell ⟨w.heap.size, 0, none⟩ (.int .i64 0)).setCell ⟨w.heap.size, 1, none⟩ (.int .i64 0)).setCell ⟨w.heap.size, 2, none⟩ (.int .i64 0)).setCell ⟨w.heap.size, 3, none⟩ (.int .i64 0)) = w4 at E ⊢
    obtain ⟨⟨e0, e1, e2, e3⟩, hb⟩ := E.out
    refine bodyPost_ret (by simp [results, Tryd.results21, go_sem, e0, e1, e2, e3]; try rfl) rfl ?_
    exact ⟨by rw [HQ.out]; rfl, hb⟩
  | some xs =>
    by_cases h4 : xs.length = 4
    · obtain ⟨p, q, r, s, rfl⟩ := four_form h4
      go_enter Tryd.func21, Tryd.ntmps21
      go_wp2_with (go_at_call 42; refine (sReadList_c l hl _).mono ?_; rintro e w1 ⟨v, rfl, hg, hb1⟩; rw [hr] at hg; rw [hr]; refine Hid.out ?_)
      refine Lib.hid ?_
      obtain ⟨a, cap, rfl, hn⟩ := hg.form
      obtain ⟨b, o, rfl, hbl, -⟩ := hn.pos (j := 0) (by simp)
      have hn4 : ∀ j, j < 4 → w1.cell? ⟨b, o + j, none⟩ = some (.int .i64 (nth [p, q, r, s] j)) := fun j hj => by
        obtain ⟨b', o', e, _, c⟩ := hn.pos (j := j) hj
        cases e
        exact c
      have c0 : w1.cell? ⟨b, o, none⟩ = some (.int .i64 p) := hn4 0 (by omega)
      have c1 : w1.cell? ⟨b, o + 1, none⟩ = some (.int .i64 q) := hn4 1 (by omega)
      have c2 : w1.cell? ⟨b, o + 2, none⟩ = some (.int .i64 r) := hn4 2 (by omega)
      have c3 : w1.cell? ⟨b, o + 3, none⟩ = some (.int .i64 s) := hn4 3 (by omega)
      have HBX := Lib.hid ((Box4.new w (.int .i64 0) (.int .i64 0) (.int .i64 0) (.int .i64 0) 25).below hb1)
      have HW := Lib.hid (below_from hb1)
      have HF := Lib.hid (show Cells4 w1 b o p q r s from ⟨c0, c1, c2, c3⟩)
      clear hb1 hg hn hn4 h4
      go_wp2_with fail
      go_region_held3 (fun w' => w'.cell? ⟨b, o, none⟩ = some (.int .i64 p) ∧ w'.cell? ⟨b, o + 1, none⟩ = some (.int .i64 q) ∧ w'.cell? ⟨b, o + 2, none⟩ = some (.int .i64 r) ∧ w'.cell? ⟨b, o + 3, none⟩ = some (.int .i64 s) ∧ Below w1.heap.size w1 w')
        (first | exact keepT4 HF.out hbl (Below.refl _ _).drew | exact keepT4 HF.out hbl ((Below.refl _ _).drew.alloc (Nat.le_refl _) _) | go_keep)
        (fail)
      clear c0 c1 c2 c3 HF
      have hsz := HW.out.size
      obtain ⟨w2, hw2⟩ : ∃ w2 : World, w2 = (w1.alloc (.cells #[.int .i64 p, .int .i64 q, .int .i64 r, .int .i64 s] 25)).drew := ⟨_, rfl⟩
      have HB2 := Lib.hid (show Box4 w2 w.heap.size (.int .i64 0) (.int .i64 0) (.int .i64 0) (.int .i64 0) by rw [hw2]; exact (HBX.out.alloc _).keep rfl)
      have HC2 := Lib.hid (show Box4 w2 w1.heap.size (.int .i64 p) (.int .i64 q) (.int .i64 r) (.int .i64 s) by rw [hw2]; exact (Box4.new w1 _ _ _ _ _).keep rfl)
      have HW2 := Lib.hid (show Below w.heap.size w w2 by rw [hw2]; exact (HW.out.alloc hsz _).drew)
      rw [← hw2]
      clear hw2 HBX HW
      obtain ⟨⟨c0, c1, c2, c3⟩, -⟩ := HC2.out
      go_wp2_with fail
      refine call_same (l09One_c _ _ p q r s _ c0 c1 c2 c3) ?_
      clear c0 c1 c2 c3
      obtain ⟨⟨c0, c1, c2, c3⟩, -⟩ := HC2.out
      obtain ⟨⟨b0, b1, b2, b3⟩, g0, g1, g2, g3⟩ := HB2.out
      cases hv : cordB p q r s
      · have HQ := Lib.hid (readQ_bad (ok := cordB) hr hv)
        have E := Lib.hid (box_done HB2.out HW2.out (Nat.le_refl _) (.int .i64 0) (.int .i64 0) (.int .i64 0) (.int .i64 0))
        clear hv
        go_wp2
        generalize ((((w2.setCell ⟨w.heap.size, 0, none⟩ (.int .i64 0)).setCell ⟨w.heap.size, 1, none⟩ (.int .i64 0)).setCell ⟨w.heap.size, 2, none⟩ (.int .i64 0)).setCell ⟨w.heap.size, 3, none⟩ (.int .i64 0)) = w4 at E ⊢
        obtain ⟨⟨e0, e1, e2, e3⟩, hb⟩ := E.out
        refine bodyPost_ret (by simp [results, Tryd.results21, go_sem, e0, e1, e2, e3]; try rfl) rfl ?_
        exact ⟨by rw [HQ.out]; rfl, hb⟩
      · have HQ := Lib.hid (readQ_good (ok := cordB) hr hv)
        have E := Lib.hid (box_done HB2.out HW2.out (Nat.le_refl _) (.int .i64 p) (.int .i64 q) (.int .i64 r) (.int .i64 s))
        clear hv
        go_wp2
        generalize ((((w2.setCell ⟨w.heap.size, 0, none⟩ (.int .i64 p)).setCell ⟨w.heap.size, 1, none⟩ (.int .i64 q)).setCell ⟨w.heap.size, 2, none⟩ (.int .i64 r)).setCell ⟨w.heap.size, 3, none⟩ (.int .i64 s)) = w4 at E ⊢
        obtain ⟨⟨e0, e1, e2, e3⟩, hb⟩ := E.out
        refine bodyPost_ret (by simp [results, Tryd.results21, go_sem, e0, e1, e2, e3]; try rfl) rfl ?_
        exact ⟨by rw [HQ.out]; rfl, hb⟩
    · have HQ := Lib.hid (readQ_len (ok := cordB) hr h4)
      have d : ((xs.length : Int) != 4) = true := by simp; omega
      have d2 : ((xs.length : Int) == 4) = false := by simp; omega
      clear h4
      go_enter Tryd.func21, Tryd.ntmps21
      go_wp2_with (go_at_call 42; refine (sReadList_c l hl _).mono ?_; rintro e w1 ⟨v, rfl, hg, hb1⟩; rw [hr] at hg; rw [hr]; refine Hid.out ?_)
      refine Lib.hid ?_
      obtain ⟨a, cap, rfl, hn⟩ := hg.form
      have HBX := Lib.hid ((Box4.new w (.int .i64 0) (.int .i64 0) (.int .i64 0) (.int .i64 0) 25).below hb1)
      obtain ⟨⟨b0, b1, b2, b3⟩, g0, g1, g2, g3⟩ := HBX.out
      have E := Lib.hid (box_done HBX.out (below_from hb1) (Nat.le_refl _) (.int .i64 0) (.int .i64 0) (.int .i64 0) (.int .i64 0))
      clear hb1 hg hn
      go_wp2
      generalize ((((w1.setCell ⟨w.heap.size, 0, none⟩ (.int .i64 0)).setCell ⟨w.heap.size, 1, none⟩ (.int .i64 0)).setCell ⟨w.heap.size, 2, none⟩ (.int .i64 0)).setCell ⟨w.heap.size, 3, none⟩ (.int .i64 0)) = w4 at E ⊢
      obtain ⟨⟨e0, e1, e2, e3⟩, hb⟩ := E.out
      refine bodyPost_ret (by simp [results, Tryd.results21, go_sem, e0, e1, e2, e3]; try rfl) rfl ?_
      exact ⟨by rw [HQ.out]; rfl, hb⟩
set_option maxRecDepth 100000 in
theorem readNeck_c (l : List UInt8) (hl : l.length ≤ 1048576) (w : World) (D : Door w) :
    Calls Tryd.prog 24 #[.string ⟨l.toArray⟩] w fun e w' => e = .returned (.tuple #[quadV (readQ neckB l), .bool (readQ neckB l).isSome]) ∧ Below w.heap.size w w' := by
  have HD := Lib.hid (D.below (show Below w.heap.size w (w.alloc (.cells #[.int .i64 0, .int .i64 0, .int .i64 0, .int .i64 0] 39)) from (Below.refl _ _).alloc (Nat.le_refl _) _))
  clear D
  cases hr : readF l with
  | none =>
    have HQ := Lib.hid (readQ_no (ok := neckB) hr)
    go_enter Tryd.func24, Tryd.ntmps24
    go_wp2_with (go_at_call 34; refine (readList_c l hl _ HD.out).mono ?_; rintro e w1 ⟨v, rfl, hg, hb1⟩; rw [hr] at hg; rw [hr]; refine Hid.out ?_)
    refine Lib.hid ?_
    obtain ⟨a, cap, rfl, hn⟩ := hg.form
    have HBX := Lib.hid ((Box4.new w (.int .i64 0) (.int .i64 0) (.int .i64 0) (.int .i64 0) 39).below hb1)
    obtain ⟨⟨b0, b1, b2, b3⟩, g0, g1, g2, g3⟩ := HBX.out
    have E := Lib.hid (box_done HBX.out (below_from hb1) (Nat.le_refl _) (.int .i64 0) (.int .i64 0) (.int .i64 0) (.int .i64 0))
    clear hb1 hg hn HD
    go_wp2
    generalize ((((w1.setCell ⟨w.heap.size, 0, none⟩ (.int .i64 0)).setCell ⟨w.heap.size, 1, none⟩ (.int .i64 0)).setCell ⟨w.heap.size, 2, none⟩ (.int .i64 0)).setCell ⟨w.heap.size, 3, none⟩ (.int .i64 0)) = w4 at E ⊢
    obtain ⟨⟨e0, e1, e2, e3⟩, hb⟩ := E.out
    refine bodyPost_ret (by simp [results, Tryd.results24, go_sem, e0, e1, e2, e3]; try rfl) rfl ?_
    exact ⟨by rw [HQ.out]; rfl, hb⟩
  | some xs =>
    by_cases h4 : xs.length = 4
    · obtain ⟨p, q, r, s, rfl⟩ := four_form h4
      go_enter Tryd.func24, Tryd.ntmps24
      go_wp2_with (go_at_call 34; refine (readList_c l hl _ HD.out).mono ?_; rintro e w1 ⟨v, rfl, hg, hb1⟩; rw [hr] at hg; rw [hr]; refine Hid.out ?_)
      refine Lib.hid ?_
      obtain ⟨a, cap, rfl, hn⟩ := hg.form
      obtain ⟨b, o, rfl, hbl, -⟩ := hn.pos (j := 0) (by simp)
      have hn4 : ∀ j, j < 4 → w1.cell? ⟨b, o + j, none⟩ = some (.int .i64 (nth [p, q, r, s] j)) := fun j hj => by
        obtain ⟨b', o', e, _, c⟩ := hn.pos (j := j) hj
        cases e
        exact c
      have c0 : w1.cell? ⟨b, o, none⟩ = some (.int .i64 p) := hn4 0 (by omega)
      have c1 : w1.cell? ⟨b, o + 1, none⟩ = some (.int .i64 q) := hn4 1 (by omega)
      have c2 : w1.cell? ⟨b, o + 2, none⟩ = some (.int .i64 r) := hn4 2 (by omega)
      have c3 : w1.cell? ⟨b, o + 3, none⟩ = some (.int .i64 s) := hn4 3 (by omega)
      have HBX := Lib.hid ((Box4.new w (.int .i64 0) (.int .i64 0) (.int .i64 0) (.int .i64 0) 39).below hb1)
      have HW := Lib.hid (below_from hb1)
      have HF := Lib.hid (show Cells4 w1 b o p q r s from ⟨c0, c1, c2, c3⟩)
      clear hb1 hg hn HD hn4 h4
      go_wp2_with fail
      go_region_held3 (fun w' => w'.cell? ⟨b, o, none⟩ = some (.int .i64 p) ∧ w'.cell? ⟨b, o + 1, none⟩ = some (.int .i64 q) ∧ w'.cell? ⟨b, o + 2, none⟩ = some (.int .i64 r) ∧ w'.cell? ⟨b, o + 3, none⟩ = some (.int .i64 s) ∧ Below w1.heap.size w1 w')
        (first | exact keepT4 HF.out hbl (Below.refl _ _).drew | exact keepT4 HF.out hbl ((Below.refl _ _).drew.alloc (Nat.le_refl _) _) | go_keep)
        (fail)
      clear c0 c1 c2 c3 HF
      have hsz := HW.out.size
      obtain ⟨w2, hw2⟩ : ∃ w2 : World, w2 = (w1.alloc (.cells #[.int .i64 p, .int .i64 q, .int .i64 r, .int .i64 s] 39)).drew := ⟨_, rfl⟩
      have HB2 := Lib.hid (show Box4 w2 w.heap.size (.int .i64 0) (.int .i64 0) (.int .i64 0) (.int .i64 0) by rw [hw2]; exact (HBX.out.alloc _).keep rfl)
      have HC2 := Lib.hid (show Box4 w2 w1.heap.size (.int .i64 p) (.int .i64 q) (.int .i64 r) (.int .i64 s) by rw [hw2]; exact (Box4.new w1 _ _ _ _ _).keep rfl)
      have HW2 := Lib.hid (show Below w.heap.size w w2 by rw [hw2]; exact (HW.out.alloc hsz _).drew)
      rw [← hw2]
      clear hw2 HBX HW
      obtain ⟨⟨c0, c1, c2, c3⟩, -⟩ := HC2.out
      go_wp2_with fail
      refine call_below (validNeck_c p q r s _) ?_
      intro w3 hb3
      have HB3 := Lib.hid (HB2.out.below hb3)
      have HC3 := Lib.hid (HC2.out.below hb3)
      have HW3 := Lib.hid (below_next HW2.out hb3)
      clear hb3 HB2 HC2 HW2 c0 c1 c2 c3
      obtain ⟨⟨c0, c1, c2, c3⟩, -⟩ := HC3.out
      obtain ⟨⟨b0, b1, b2, b3⟩, g0, g1, g2, g3⟩ := HB3.out
      cases hv : neckB p q r s
      · have HQ := Lib.hid (readQ_bad (ok := neckB) hr hv)
        have E := Lib.hid (box_done HB3.out HW3.out (Nat.le_refl _) (.int .i64 0) (.int .i64 0) (.int .i64 0) (.int .i64 0))
        clear hv
        go_wp2
        generalize ((((w3.setCell ⟨w.heap.size, 0, none⟩ (.int .i64 0)).setCell ⟨w.heap.size, 1, none⟩ (.int .i64 0)).setCell ⟨w.heap.size, 2, none⟩ (.int .i64 0)).setCell ⟨w.heap.size, 3, none⟩ (.int .i64 0)) = w4 at E ⊢
        obtain ⟨⟨e0, e1, e2, e3⟩, hb⟩ := E.out
        refine bodyPost_ret (by simp [results, Tryd.results24, go_sem, e0, e1, e2, e3]; try rfl) rfl ?_
        exact ⟨by rw [HQ.out]; rfl, hb⟩
      · have HQ := Lib.hid (readQ_good (ok := neckB) hr hv)
        have E := Lib.hid (box_done HB3.out HW3.out (Nat.le_refl _) (.int .i64 p) (.int .i64 q) (.int .i64 r) (.int .i64 s))
        clear hv
        go_wp2
        generalize ((((w3.setCell ⟨w.heap.size, 0, none⟩ (.int .i64 p)).setCell ⟨w.heap.size, 1, none⟩ (.int .i64 q)).setCell ⟨w.heap.size, 2, none⟩ (.int .i64 r)).setCell ⟨w.heap.size, 3, none⟩ (.int .i64 s)) = w4 at E ⊢
        obtain ⟨⟨e0, e1, e2, e3⟩, hb⟩ := E.out
        refine bodyPost_ret (by simp [results, Tryd.results24, go_sem, e0, e1, e2, e3]; try rfl) rfl ?_
        exact ⟨by rw [HQ.out]; rfl, hb⟩
    · have HQ := Lib.hid (readQ_len (ok := neckB) hr h4)
      have d : ((xs.length : Int) != 4) = true := by simp; omega
      have d2 : ((xs.length : Int) == 4) = false := by simp; omega
      clear h4
      go_enter Tryd.func24, Tryd.ntmps24
      go_wp2_with (go_at_call 34; refine (readList_c l hl _ HD.out).mono ?_; rintro e w1 ⟨v, rfl, hg, hb1⟩; rw [hr] at hg; rw [hr]; refine Hid.out ?_)
      refine Lib.hid ?_
      obtain ⟨a, cap, rfl, hn⟩ := hg.form
      have HBX := Lib.hid ((Box4.new w (.int .i64 0) (.int .i64 0) (.int .i64 0) (.int .i64 0) 39).below hb1)
      obtain ⟨⟨b0, b1, b2, b3⟩, g0, g1, g2, g3⟩ := HBX.out
      have E := Lib.hid (box_done HBX.out (below_from hb1) (Nat.le_refl _) (.int .i64 0) (.int .i64 0) (.int .i64 0) (.int .i64 0))
      clear hb1 hg hn HD
      go_wp2
      generalize ((((w1.setCell ⟨w.heap.size, 0, none⟩ (.int .i64 0)).setCell ⟨w.heap.size, 1, none⟩ (.int .i64 0)).setCell ⟨w.heap.size, 2, none⟩ (.int .i64 0)).setCell ⟨w.heap.size, 3, none⟩ (.int .i64 0)) = w4 at E ⊢
      obtain ⟨⟨e0, e1, e2, e3⟩, hb⟩ := E.out
      refine bodyPost_ret (by simp [results, Tryd.results24, go_sem, e0, e1, e2, e3]; try rfl) rfl ?_
      exact ⟨by rw [HQ.out]; rfl, hb⟩
set_option maxRecDepth 100000 in
theorem l10Read_c (l : List UInt8) (hl : l.length ≤ 1048576) (w : World) :
    Calls Tryd.prog 43 #[.string ⟨l.toArray⟩] w fun e w' => e = .returned (.tuple #[quadV (readQ neckB l), .bool (readQ neckB l).isSome]) ∧ Below w.heap.size w w' := by
  cases hr : readF l with
  | none =>
    have HQ := Lib.hid (readQ_no (ok := neckB) hr)
    go_enter Tryd.func43, Tryd.ntmps43
    go_wp2_with (go_at_call 42; refine (sReadList_c l hl _).mono ?_; rintro e w1 ⟨v, rfl, hg, hb1⟩; rw [hr] at hg; rw [hr]; refine Hid.out ?_)
    refine Lib.hid ?_
    obtain ⟨a, cap, rfl, hn⟩ := hg.form
    have HBX := Lib.hid ((Box4.new w (.int .i64 0) (.int .i64 0) (.int .i64 0) (.int .i64 0) 39).below hb1)
    obtain ⟨⟨b0, b1, b2, b3⟩, g0, g1, g2, g3⟩ := HBX.out
    have E := Lib.hid (box_done HBX.out (below_from hb1) (Nat.le_refl _) (.int .i64 0) (.int .i64 0) (.int .i64 0) (.int .i64 0))
    clear hb1 hg hn
    go_wp2
    generalize ((((w1.setCell ⟨w.heap.size, 0, none⟩ (.int .i64 0)).setCell ⟨w.heap.size, 1, none⟩ (.int .i64 0)).setCell ⟨w.heap.size, 2, none⟩ (.int .i64 0)).setCell ⟨w.heap.size, 3, none⟩ (.int .i64 0)) = w4 at E ⊢
    obtain ⟨⟨e0, e1, e2, e3⟩, hb⟩ := E.out
    refine bodyPost_ret (by simp [results, Tryd.results43, go_sem, e0, e1, e2, e3]; try rfl) rfl ?_
    exact ⟨by rw [HQ.out]; rfl, hb⟩
  | some xs =>
    by_cases h4 : xs.length = 4
    · obtain ⟨p, q, r, s, rfl⟩ := four_form h4
      go_enter Tryd.func43, Tryd.ntmps43
      go_wp2_with (go_at_call 42; refine (sReadList_c l hl _).mono ?_; rintro e w1 ⟨v, rfl, hg, hb1⟩; rw [hr] at hg; rw [hr]; refine Hid.out ?_)
      refine Lib.hid ?_
      obtain ⟨a, cap, rfl, hn⟩ := hg.form
      obtain ⟨b, o, rfl, hbl, -⟩ := hn.pos (j := 0) (by simp)
      have hn4 : ∀ j, j < 4 → w1.cell? ⟨b, o + j, none⟩ = some (.int .i64 (nth [p, q, r, s] j)) := fun j hj => by
        obtain ⟨b', o', e, _, c⟩ := hn.pos (j := j) hj
        cases e
        exact c
      have c0 : w1.cell? ⟨b, o, none⟩ = some (.int .i64 p) := hn4 0 (by omega)
      have c1 : w1.cell? ⟨b, o + 1, none⟩ = some (.int .i64 q) := hn4 1 (by omega)
      have c2 : w1.cell? ⟨b, o + 2, none⟩ = some (.int .i64 r) := hn4 2 (by omega)
      have c3 : w1.cell? ⟨b, o + 3, none⟩ = some (.int .i64 s) := hn4 3 (by omega)
      have HBX := Lib.hid ((Box4.new w (.int .i64 0) (.int .i64 0) (.int .i64 0) (.int .i64 0) 39).below hb1)
      have HW := Lib.hid (below_from hb1)
      have HF := Lib.hid (show Cells4 w1 b o p q r s from ⟨c0, c1, c2, c3⟩)
      clear hb1 hg hn hn4 h4
      go_wp2_with fail
      go_region_held3 (fun w' => w'.cell? ⟨b, o, none⟩ = some (.int .i64 p) ∧ w'.cell? ⟨b, o + 1, none⟩ = some (.int .i64 q) ∧ w'.cell? ⟨b, o + 2, none⟩ = some (.int .i64 r) ∧ w'.cell? ⟨b, o + 3, none⟩ = some (.int .i64 s) ∧ Below w1.heap.size w1 w')
        (first | exact keepT4 HF.out hbl (Below.refl _ _).drew | exact keepT4 HF.out hbl ((Below.refl _ _).drew.alloc (Nat.le_refl _) _) | go_keep)
        (fail)
      clear c0 c1 c2 c3 HF
      have hsz := HW.out.size
      obtain ⟨w2, hw2⟩ : ∃ w2 : World, w2 = (w1.alloc (.cells #[.int .i64 p, .int .i64 q, .int .i64 r, .int .i64 s] 39)).drew := ⟨_, rfl⟩
      have HB2 := Lib.hid (show Box4 w2 w.heap.size (.int .i64 0) (.int .i64 0) (.int .i64 0) (.int .i64 0) by rw [hw2]; exact (HBX.out.alloc _).keep rfl)
      have HC2 := Lib.hid (show Box4 w2 w1.heap.size (.int .i64 p) (.int .i64 q) (.int .i64 r) (.int .i64 s) by rw [hw2]; exact (Box4.new w1 _ _ _ _ _).keep rfl)
      have HW2 := Lib.hid (show Below w.heap.size w w2 by rw [hw2]; exact (HW.out.alloc hsz _).drew)
      rw [← hw2]
      clear hw2 HBX HW
      obtain ⟨⟨c0, c1, c2, c3⟩, -⟩ := HC2.out
      go_wp2_with fail
      refine call_same (l10Ok_c _ _ p q r s _ c0 c1 c2 c3) ?_
      clear c0 c1 c2 c3
      obtain ⟨⟨c0, c1, c2, c3⟩, -⟩ := HC2.out
      obtain ⟨⟨b0, b1, b2, b3⟩, g0, g1, g2, g3⟩ := HB2.out
      cases hv : neckB p q r s
      · have HQ := Lib.hid (readQ_bad (ok := neckB) hr hv)
        have E := Lib.hid (box_done HB2.out HW2.out (Nat.le_refl _) (.int .i64 0) (.int .i64 0) (.int .i64 0) (.int .i64 0))
        clear hv
        go_wp2
        generalize ((((w2.setCell ⟨w.heap.size, 0, none⟩ (.int .i64 0)).setCell ⟨w.heap.size, 1, none⟩ (.int .i64 0)).setCell ⟨w.heap.size, 2, none⟩ (.int .i64 0)).setCell ⟨w.heap.size, 3, none⟩ (.int .i64 0)) = w4 at E ⊢
        obtain ⟨⟨e0, e1, e2, e3⟩, hb⟩ := E.out
        refine bodyPost_ret (by simp [results, Tryd.results43, go_sem, e0, e1, e2, e3]; try rfl) rfl ?_
        exact ⟨by rw [HQ.out]; rfl, hb⟩
      · have HQ := Lib.hid (readQ_good (ok := neckB) hr hv)
        have E := Lib.hid (box_done HB2.out HW2.out (Nat.le_refl _) (.int .i64 p) (.int .i64 q) (.int .i64 r) (.int .i64 s))
        clear hv
        go_wp2
        generalize ((((w2.setCell ⟨w.heap.size, 0, none⟩ (.int .i64 p)).setCell ⟨w.heap.size, 1, none⟩ (.int .i64 q)).setCell ⟨w.heap.size, 2, none⟩ (.int .i64 r)).setCell ⟨w.heap.size, 3, none⟩ (.int .i64 s)) = w4 at E ⊢
        obtain ⟨⟨e0, e1, e2, e3⟩, hb⟩ := E.out
        refine bodyPost_ret (by simp [results, Tryd.results43, go_sem, e0, e1, e2, e3]; try rfl) rfl ?_
        exact ⟨by rw [HQ.out]; rfl, hb⟩
    · have HQ := Lib.hid (readQ_len (ok := neckB) hr h4)
      have d : ((xs.length : Int) != 4) = true := by simp; omega
      have d2 : ((xs.length : Int) == 4) = false := by simp; omega
      clear h4
      go_enter Tryd.func43, Tryd.ntmps43
      go_wp2_with (go_at_call 42; refine (sReadList_c l hl _).mono ?_; rintro e w1 ⟨v, rfl, hg, hb1⟩; rw [hr] at hg; rw [hr]; refine Hid.out ?_)
      refine Lib.hid ?_
      obtain ⟨a, cap, rfl, hn⟩ := hg.form
      have HBX := Lib.hid ((Box4.new w (.int .i64 0) (.int .i64 0) (.int .i64 0) (.int .i64 0) 39).below hb1)
      obtain ⟨⟨b0, b1, b2, b3⟩, g0, g1, g2, g3⟩ := HBX.out
      have E := Lib.hid (box_done HBX.out (below_from hb1) (Nat.le_refl _) (.int .i64 0) (.int .i64 0) (.int .i64 0) (.int .i64 0))
      clear hb1 hg hn
      go_wp2
      generalize ((((w1.setCell ⟨w.heap.size, 0, none⟩ (.int .i64 0)).setCell ⟨w.heap.size, 1, none⟩ (.int .i64 0)).setCell ⟨w.heap.size, 2, none⟩ (.int .i64 0)).setCell ⟨w.heap.size, 3, none⟩ (.int .i64 0)) = w4 at E ⊢
      obtain ⟨⟨e0, e1, e2, e3⟩, hb⟩ := E.out
      refine bodyPost_ret (by simp [results, Tryd.results43, go_sem, e0, e1, e2, e3]; try rfl) rfl ?_
      exact ⟨by rw [HQ.out]; rfl, hb⟩
theorem sReadNeck_c (l : List UInt8) (hl : l.length ≤ 1048576) (w : World) :
    Calls Tryd.prog 23 #[.string ⟨l.toArray⟩] w fun e w' => e = .returned (.tuple #[quadV (readQ neckB l), .bool (readQ neckB l).isSome]) ∧ Below w.heap.size w w' := by
  have HZ := Lib.hid (Box4.new w (.int .i64 0) (.int .i64 0) (.int .i64 0) (.int .i64 0) 39)
  go_enter Tryd.func23, Tryd.ntmps23
  go_wp2_with fail
  refine call_below (l10Read_c l hl _) ?_
  intro w1 hb1
  have HB := Lib.hid (HZ.out.below hb1)
  obtain ⟨⟨b0, b1, b2, b3⟩, g0, g1, g2, g3⟩ := HB.out
  obtain ⟨p, q, r, s, hv⟩ : ∃ p q r s, quadV (readQ neckB l) = .agg #[.int .i64 p, .int .i64 q, .int .i64 r, .int .i64 s] := ⟨_, _, _, _, rfl⟩
  have HV := Lib.hid hv
  rw [hv]
  clear hv
  have E := Lib.hid (box_done HB.out (below_from hb1) (Nat.le_refl _) (.int .i64 p) (.int .i64 q) (.int .i64 r) (.int .i64 s))
  clear hb1
  go_wp2
  generalize ((((w1.setCell ⟨w.heap.size, 0, none⟩ (.int .i64 p)).setCell ⟨w.heap.size, 1, none⟩ (.int .i64 q)).setCell ⟨w.heap.size, 2, none⟩ (.int .i64 r)).setCell ⟨w.heap.size, 3, none⟩ (.int .i64 s)) = w4 at E ⊢
  obtain ⟨⟨e0, e1, e2, e3⟩, hb⟩ := E.out
  refine bodyPost_ret (by simp [results, Tryd.results23, go_sem, e0, e1, e2, e3]; try rfl) rfl ?_
  exact ⟨by rw [HV.out], hb⟩
end Go.Proofs.YtpklckpnhjhnhaaDoor
