/- Lists of numbers that are not negative, written out: the program's own way. -/
import Derived.Test.YtpklckpnhjhnhaaDoorText
import Derived.Test.YtpklckpnhjhnhaaDoorShelf
import Derived.Lib.AppendIntMem
namespace Go.Proofs.YtpklckpnhjhnhaaDoor
open Go.RowKit Go.ChangeShapes Go.WideShapes
set_option linter.unusedVariables false

/-- The texts of a row of strings. -/
def strCells (ts : List (List UInt8)) : List Value := ts.map fun t => .string ⟨t.toArray⟩
theorem infoStr : (Tryd.prog.info? 9).map (fun i => (i.zero, i.size, i.bytes)) = some (some (.string ⟨#[]⟩), 1, 16) := by kernel_rfl
/-- The slice v owns the texts ts, in blocks from B on. -/
def OwnS (B : Nat) (w : World) (v : Value) (ts : List (List UInt8)) : Prop := w.ownsRow B 9 1 v ts.length (strCells ts) ∧ v ≠ .slice none 0 0
theorem OwnS.lt {B : Nat} {w : World} {v : Value} {ts : List (List UInt8)} (h : OwnS B w v ts) : ∀ k, v.ownBlock = some k → B ≤ k := fun k hk => (h.1.lt k hk).1
theorem OwnS.snoc {B : Nat} {w : World} {v : Value} {ts : List (List UInt8)} {t : List UInt8} (h : w.ownsRow B 9 1 v (ts.length + 1) (strCells ts ++ [.string ⟨t.toArray⟩])) (hn : v ≠ .slice none 0 0) : OwnS B w v (ts ++ [t]) :=
  ⟨by simpa [strCells] using h, hn⟩
theorem OwnS.below {B : Nat} {w w' : World} {v : Value} {ts : List (List UInt8)} (h : OwnS B w v ts) (hb : Below w.heap.size w w') : OwnS B w' v ts :=
  ⟨h.1.kept (row := none) ⟨hb.os, hb.tape, hb.output, hb.size, fun k hk _ => hb.block k hk⟩ (by cases v.ownBlock <;> simp), h.2⟩
theorem OwnS.form {B : Nat} {w : World} {v : Value} {ts : List (List UInt8)} (h : OwnS B w v ts) :
    ∃ b cap, v = .slice (some ⟨b, 0, none⟩) ts.length cap ∧ (B ≤ b ∧ b < w.heap.size ∧ ts.length ≤ cap) ∧ ∀ j (hj : j < ts.length), w.cell? ⟨b, j, none⟩ = some (.string ⟨(nthT ts j).toArray⟩) := by
  obtain ⟨h, hn⟩ := h
  rcases h.2 with ⟨rfl, _⟩ | ⟨b, cap, cur, rfl, hb, _, hcap, _⟩
  · exact absurd rfl hn
  · refine ⟨b, cap, rfl, ⟨hb, (h.lt b rfl).2, hcap⟩, fun j hj => ?_⟩
    have := h.cells (g := b) rfl j (.string ⟨(nthT ts j).toArray⟩) (by simp [strCells, nthT, hj])
    rwa [add_at, Nat.zero_add] at this

theorem decimal_c (n : Int) (h0 : -9223372036854775808 ≤ n) (h1 : n ≤ 9223372036854775807) (w : World) (htab : Lib.TabIs Tryd.prog w "internal/strconv.uint64pow10" .u64 Lib.pow10Tab) :
    Calls Tryd.prog 55 #[.int .i64 n] w fun e w' => e = .returned (.string ⟨(Lib.itoa n).toArray⟩) ∧ Below w.heap.size w w' := by
  go_enter Tryd.func55, Tryd.ntmps55
  go_wp2_with (go_at_call 68; refine (Tryd.strconv_FormatInt_10 n h0 h1 w htab).mono ?_; rintro e w1 ⟨rfl, k, os, rfl⟩)
  go_ret
  exact ⟨rfl, Lib.below_grow _ _ (Nat.le_refl _) _ _⟩

set_option maxRecDepth 100000 in
/-- strings.Join over a row of texts that the call owns. -/
theorem join_c {B : Nat} {w : World} {v : Value} {ts : List (List UInt8)} (sep : UInt8) (h : OwnS B w v ts) (hn : ts.length ≤ 100000) (hl : ∀ j, j < ts.length → (nthT ts j).length ≤ 100000) :
    Calls Tryd.prog 56 #[v, .string ⟨#[sep]⟩] w fun e w' => e = .returned (.string ⟨(jt sep ts ts.length).toArray⟩) ∧ Below w.heap.size w w' := by
  obtain ⟨b, cap, rfl, ⟨hb1, hb2, hcap⟩, hc⟩ := h.form
  have hL := jt_len (sep := sep) hl ts.length (Nat.le_refl _)
  have hm : ts.length * (100000 + 1) ≤ 100000 * 100001 := Nat.mul_le_mul hn (by omega)
  have e1 : ((ts.map fun t => ByteArray.mk t.toArray).map (·.data.toList)) = ts := by simp [Function.comp_def]
  have e2 : (ByteArray.mk #[sep]).data.toList = [sep] := rfl
  have := Tryd.strings_Join b 0 cap (ts.map fun t => ByteArray.mk t.toArray) ⟨#[sep]⟩ w (fun j x hj => by
      rw [List.getElem?_map] at hj
      cases ht : ts[j]? with
      | none => rw [ht] at hj; cases hj
      | some t =>
        have hjl := (List.getElem?_eq_some_iff.1 ht).1
        rw [ht] at hj
        simp only [Option.map_some, Option.some.injEq] at hj
        rw [Nat.zero_add, hc j hjl, ← hj]
        simp [nthT, ht]) hb2 (by simp; omega) (by simpa using hcap) (by rw [e1, e2, ← jt_all]; omega)
  rw [e1, e2, ← jt_all, List.length_map] at this
  exact this

theorem fewT_c (n m : Int) (w : World) : Calls Tryd.prog 54 #[.int .i64 n, .int .i64 m] w fun e w' => e = .returned (.bool (decide (n ≤ m))) ∧ w = w' := by
  go_enter Tryd.func54, Tryd.ntmps54
  go_wp2
  go_ret
  exact ⟨rfl, rfl⟩
theorem infoStr' : (Tryd.prog.info? 9).map (fun i => (i.zero, i.size, i.bytes)) = some (some (.string ⟨#[]⟩), 1, 16) := infoStr
/-- The first k texts of a row. -/
theorem numTs_take {xs : List Int} {k : Nat} (h : k < xs.length) : (numTs xs).take k ++ [Lib.itoa (nth xs k)] = (numTs xs).take (k + 1) := by
  rw [List.take_add_one, List.getElem?_eq_getElem (by rw [numTs_len]; exact h)]
  simp [numTs, nth, h]

set_option maxRecDepth 100000 in
theorem listText_c (a : Option Addr) (cap : Nat) (xs : List Int) (w : World) (h : Nums .i64 w a xs) (hn : xs.length ≤ 64) (hx : NumOk xs) (htab : Lib.TabIs Tryd.prog w "internal/strconv.uint64pow10" .u64 Lib.pow10Tab) :
    Calls Tryd.prog 35 #[.slice a xs.length cap] w fun e w' => e = .returned (.string ⟨(listT xs).toArray⟩) ∧ Below w.heap.size w w' := by
  obtain ⟨i0, hi, hz0, hz1, hz2⟩ := info_parts infoStr
  have HX := Lib.hid hx
  have HTB := Lib.hid (Lib.tabBelow_of_tabIs htab)
  have HJL := Lib.hid hx.len
  clear hx htab
  have hfew : decide ((xs.length : Int) ≤ 64) = true := decide_eq_true (by omega)
  by_cases h0 : xs.length = 0
  · have HF := Lib.hid (show listT xs = [45] by unfold listT; rw [if_pos h0])
    go_enter Tryd.func35, Tryd.ntmps35
    go_wp2_with (go_at_call 54; refine call_same (fewT_c _ _ _) ?_)
    go_ret
    exact ⟨by rw [HF.out]; rfl, Below.refl _ _⟩
  · have HF := Lib.hid (show listT xs = jt 44 (numTs xs) xs.length by unfold listT; rw [if_neg h0])
    have hne : ((xs.length : Int) == 0) = false := by rw [beq_eq_false_iff_ne]; omega
    go_enter Tryd.func35, Tryd.ntmps35
    go_wp2_with (go_at_call 54; refine call_same (fewT_c _ _ _) ?_)
    clear hne hfew
    go_loopw [3, 16] (fun v i wr => ∃ k : Nat, k ≤ xs.length ∧ i = .int .i64 k ∧ OwnS w.heap.size wr v ((numTs xs).take k) ∧ Below w.heap.size w wr) (fun _ i _ => xs.length - (intOf i).toNat)
    case atStart => exact ⟨0, Nat.zero_le _, rfl, ⟨World.ownsRow_made w #[] 0 (Nat.le_refl _) (Nat.zero_le _) rfl, by simp⟩, (Below.refl _ _).alloc (Nat.le_refl _) _⟩
    case round =>
      obtain ⟨k, hk, rfl, hown, hbl⟩ := hrel
      have HL := Lib.hid hbl
      have HO := Lib.hid hown
      by_cases hlt : k < xs.length
      · obtain ⟨b, o, rfl, hb, hc⟩ := (h.below hbl).pos hlt
        have hv := HX.out k hlt
        have HE := Lib.hid (numTs_take hlt)
        have HTL := Lib.hid (show ((numTs xs).take k).length = k by rw [List.length_take, numTs_len]; omega)
        have hin : inB (nth xs k) (-1000000000000) 1000000000000 = true := by simp [inB]; omega
        generalize nth xs k = n at hc hv HE hin
        have HV := Lib.hid hv
        have HTW := Lib.hid (HTB.out.on HL.out).here
        clear hbl hown hv
        go_wp2_with (first | (go_at_call 36; refine call_same (within_c _ _ _ _) ?_; rw [hin]) | (go_at_call 55; refine call_below (decimal_c n (by have := HV.out; omega) (by have := HV.out; omega) _ HTW.out) fun w1 hb1 => ?_; refine Hid.out ?_))
        refine Lib.hid ?_
        have HB1 := Lib.hid (below_next HL.out hb1)
        have HO1 := Lib.hid (HO.out.below hb1)
        have hsz1 := HB1.out.size
        clear hb1
        generalize Lib.itoa n = z at HE ⊢
        go_wp2_with (at_builtin; refine wpList_append_own _ rfl _ _ 63 rfl w.heap.size 9 i0 (.string ⟨#[]⟩) 1 16 Tryd.underlying63 hi hz0 hz1 hz2 rfl (by decide) _ _ _ rfl (HO1.out.1.alloc _) ⟨w1.heap.size, 0, none⟩ 1 1 [.string ⟨z.toArray⟩] rfl rfl (own_new1 _ _ _) ?c2 ?c3 ?c4 ?c5 ?_)
        case c2 => (first | rfl | (intro u hu; simp at hu; subst hu; rfl))
        case c3 => have := HTL.out; unfold maxLen; first | omega | (simp; omega)
        case c4 => have := HTL.out; first | omega | (simp; omega)
        case c5 => first | omega | (simp; omega)
        · intro v' w5 hown' hgrow hnil
          have hne' : v' ≠ .slice none 0 0 := fun e => by simp [e] at hnil
          have HX5 := Lib.hid (below_grown (HB1.out.alloc hsz1 _) (by simp; omega) hgrow fun q hq => HO1.out.lt q hq)
          have HY := Lib.hid (OwnS.snoc (ts := (numTs xs).take k) (v := v') (t := z) (by rw [List.length_take]; exact hown') hne')
          clear hown' hgrow hnil hne'
          go_wp2_with fail
          rw [HE.out] at HY
          exact ⟨⟨k + 1, hlt, by simp, HY.out, HX5.out⟩, by simp only [intOf]; omega⟩
      · have hkl : k = xs.length := by omega
        subst hkl
        have HTK := Lib.hid (show (numTs xs).take xs.length = numTs xs by rw [List.take_of_length_le (by rw [numTs_len]; omega)])
        rw [HTK.out] at HO
        go_wp2_with (go_at_call 56; refine call_below (join_c 44 HO.out (by rw [numTs_len]; omega) (fun j hj => by have := HJL.out j hj; omega)) fun w1 hb1 => ?_; refine Hid.out ?_)
        refine Lib.hid ?_
        go_wp2
        go_ret
        exact ⟨by rw [HF.out, numTs_len]; rfl, below_next HL.out hb1⟩
end Go.Proofs.YtpklckpnhjhnhaaDoor
