/- The decimal form of a number that is not negative: the reference's own. -/
import Derived.Test.YthhgepiccjndpaaDoorOwn
import Derived.Lib.ItoaNum
import Derived.Lib.UnsafeStr
import Derived.Lib.VarintMem
import Derived.Laws.IdiomStrings
namespace Go.Proofs.YthhgepiccjndpaaDoor
open Go.RowKit Go.ChangeShapes Go.WideShapes
set_option linter.unusedVariables false

/-- The digits of a number, the last first; none of 0. -/
def digs (u : Nat) : List UInt8 :=
  if h : u = 0 then [] else UInt8.ofNat (48 + u % 10) :: digs (u / 10)
termination_by u
decreasing_by omega
theorem digs_zero : digs 0 = [] := by rw [digs]; rfl
theorem digs_step {u : Nat} (h : u ≠ 0) : digs u = UInt8.ofNat (48 + u % 10) :: digs (u / 10) := by rw [digs, dif_neg h]
theorem digs_dec : ∀ (u : Nat), u ≠ 0 → (digs u).reverse = Lib.decDigits u := by
  intro u
  induction u using Nat.strongRecOn with
  | _ u ih =>
    intro h
    rw [digs_step h, List.reverse_cons]
    by_cases h10 : u < 10
    · rw [Lib.decDigits, dif_pos h10, show u / 10 = 0 by omega, digs_zero, show u % 10 = u by omega]; rfl
    · rw [Lib.decDigits, dif_neg h10, ih (u / 10) (by omega) (by omega)]
theorem digs_len : ∀ (k u : Nat), u < 10 ^ k → (digs u).length ≤ k
  | 0, u, h => by
    have : u = 0 := by simpa using h
    rw [this, digs_zero]; simp
  | k + 1, u, h => by
    by_cases h0 : u = 0
    · rw [h0, digs_zero]; simp
    · rw [digs_step h0, List.length_cons]
      have := digs_len k (u / 10) (by rw [Nat.pow_succ] at h; omega)
      omega
theorem wrap8 {a : Int} (h0 : 0 ≤ a) (h1 : a < 256) : IntKind.u8.wrap a = a := by
  unfold IntKind.wrap
  simp [IntKind.bits, IntKind.signed]
  omega
theorem infoU : (Tryd.prog.info? 5).map (fun i => (i.zero, i.size, i.bytes)) = some (some (.int .u8 0), 1, 1) := by kernel_rfl
/-- The slice v owns the bytes l, in blocks from B on. -/
def OwnB (B : Nat) (w : World) (v : Value) (l : List UInt8) : Prop := w.ownsRow B 5 1 v l.length (Lib.byteCells l) ∧ v ≠ .slice none 0 0
theorem OwnB.lt {B : Nat} {w : World} {v : Value} {l : List UInt8} (h : OwnB B w v l) : ∀ k, v.ownBlock = some k → B ≤ k := fun k hk => (h.1.lt k hk).1
theorem OwnB.snoc {B : Nat} {w : World} {v : Value} {l : List UInt8} {a : Nat} (ha : a < 256) (h : w.ownsRow B 5 1 v (l.length + 1) (Lib.byteCells l ++ [.int .u8 (a : Int)])) (hn : v ≠ .slice none 0 0) : OwnB B w v (l ++ [UInt8.ofNat a]) :=
  ⟨by rw [show Lib.byteCells (l ++ [UInt8.ofNat a]) = Lib.byteCells l ++ [Value.int .u8 (a : Int)] from Lib.byteCells_snoc l ha]; simpa using h, hn⟩
theorem ownb_below {B : Nat} {w w' : World} {v : Value} {l : List UInt8} (h : OwnB B w v l) (hb : Below w.heap.size w w') : OwnB B w' v l :=
  ⟨h.1.kept (row := none) ⟨hb.os, hb.tape, hb.output, hb.size, fun k hk _ => hb.block k hk⟩ (by cases v.ownBlock <;> simp), h.2⟩
theorem OwnB.form {B : Nat} {w : World} {v : Value} {l : List UInt8} (h : OwnB B w v l) : ∃ b cap, v = .slice (some ⟨b, 0, none⟩) l.length cap ∧ (B ≤ b ∧ b < w.heap.size) ∧ ∀ j (hj : j < l.length), w.cell? ⟨b, j, none⟩ = some (.int .u8 (l[j].toNat : Int)) := by
  obtain ⟨h, hn⟩ := h
  rcases h.2 with ⟨rfl, _⟩ | ⟨b, cap, cur, rfl, hb, _⟩
  · exact absurd rfl hn
  · refine ⟨b, cap, rfl, ⟨hb, (h.lt b rfl).2⟩, fun j hj => ?_⟩
    have := h.cells (g := b) rfl j (.int .u8 (l[j].toNat : Int)) (by simp [Lib.byteCells, hj])
    rwa [add_at, Nat.zero_add] at this

set_option maxRecDepth 100000 in
theorem l01Dec_c (n : Nat) (w : World) (hn : n < 10 ^ 15) :
    Calls Tryd.prog 92 #[.int .i64 n] w fun e w' => e = .returned (.string ⟨(Lib.itoa n).toArray⟩) ∧ Below w.heap.size w w' := by
  by_cases h0 : n = 0
  · subst h0
    have HF := Lib.hid (show (Lib.itoa ((0 : Nat) : Int)) = [48] by rw [Lib.itoa, if_neg (by omega)]; rw [show ((0 : Nat) : Int).toNat = 0 from rfl, Lib.decDigits, dif_pos (by omega)]; rfl)
    go_enter Tryd.func92, Tryd.ntmps92
    go_wp2
    go_ret
    exact ⟨by rw [HF.out]; rfl, Below.refl _ _⟩
  · obtain ⟨i0, hi, hz0, hz1, hz2⟩ := info_parts infoU
    have HF := Lib.hid (show (Lib.itoa (n : Int)) = (digs n).reverse by rw [Lib.itoa, if_neg (by omega), digs_dec n h0]; simp)
    have HLEN := Lib.hid (digs_len 15 n hn)
    have hb : (n : Int) ≤ 1000000000000000 := by omega
    have hne : ((n : Int) == 0) = false := by rw [beq_eq_false_iff_ne]; omega
    have H0 := Lib.hid h0
    clear h0 hn
    go_enter Tryd.func92, Tryd.ntmps92
    go_wp2
    clear hne
    go_loopw [3, 4] (fun v i wr => ∃ u : Nat, ∃ ds : List UInt8, u ≤ n ∧ i = .int .i64 u ∧ ds ++ digs u = digs n ∧ OwnB w.heap.size wr v ds ∧ Below w.heap.size w wr) (fun _ i _ => (intOf i).toNat)
    case atStart => exact ⟨n, [], Nat.le_refl _, rfl, rfl, ⟨World.ownsRow_made w #[] 0 (Nat.le_refl _) (Nat.zero_le _) rfl, by simp⟩, (Below.refl _ _).alloc (Nat.le_refl _) _⟩
    case round =>
      obtain ⟨u, ds, hu, rfl, hds, hown, hbl⟩ := hrel
      have HO := Lib.hid hown
      have HL := Lib.hid hbl
      have HD := Lib.hid hds
      have hdl : ds.length ≤ 15 := by have := HLEN.out; rw [← hds, List.length_append] at this; omega
      clear hown hbl hds
      by_cases hu0 : u = 0
      · subst hu0
        have hne : ((0 : Int) != 0) = false := rfl
        rw [show (((0 : Nat) : Int)) = 0 from rfl]
        have hneg : decide ((n : Int) < 0) = false := decide_eq_false (by omega)
        have HR := Lib.hid (show ds = digs n by rw [← HD.out, digs_zero, List.append_nil])
        obtain ⟨b, cap, rfl, ⟨hb1, hb2⟩, hcell⟩ := HO.out.form
        have HK := Lib.hid hcell
        clear hcell
        have hsz := HL.out.size
        go_wp2
        clear hne hneg
        go_loopw [6, 7] (fun v i w2 => ∃ k : Nat, k ≤ ds.length ∧ i = .int .i64 ((ds.length : Int) - 1 - (k : Int)) ∧ OwnB wr.heap.size w2 v (ds.reverse.take k) ∧ Below wr.heap.size wr w2) (fun _ i _ => (intOf i + 1).toNat)
        case atStart => exact ⟨0, Nat.zero_le _, by simp, ⟨World.ownsRow_made wr #[] 0 (Nat.le_refl _) (Nat.zero_le _) rfl, by simp⟩, (Below.refl _ _).alloc (Nat.le_refl _) _⟩
        case round =>
          obtain ⟨k, hk, rfl, hown2, hbl2⟩ := hrel
          have HO2 := Lib.hid hown2
          have HL2 := Lib.hid hbl2
          clear hown2 hbl2
          by_cases hkl : k < ds.length
          · have L0 : (0 : Int) ≤ (ds.length : Int) - 1 - (k : Int) := by omega
            have L1 : (ds.length : Int) - 1 - (k : Int) < (ds.length : Int) := by omega
            have L4 : ((ds.length : Int) - 1 - (k : Int)).toNat = ds.length - 1 - k := by omega
            have d : decide ((ds.length : Int) - 1 - (k : Int) ≥ 0) = true := decide_eq_true (by omega)
            have hj : ds.length - 1 - k < ds.length := by omega
            have HE := Lib.hid (show ds.reverse.take k ++ [ds[ds.length - 1 - k]] = ds.reverse.take (k + 1) by
              rw [List.take_add_one, List.getElem?_eq_getElem (by simp; omega), List.getElem_reverse]; rfl)
            have HTL := Lib.hid (show (ds.reverse.take k).length = k by simp; omega)
            have hc := (HL2.out.cell (p := ⟨b, ds.length - 1 - k, none⟩) hb2).trans (HK.out _ hj)
            generalize ds[ds.length - 1 - k] = x at hc HE
            have hx := x.toNat_lt
            have hsz2 := HL2.out.size
            go_wp2_with (at_builtin; refine wpList_append_own _ rfl _ _ 22 rfl _ 5 i0 (.int .u8 0) 1 1 Tryd.underlying22 hi hz0 hz1 hz2 rfl (by decide) _ _ _ rfl (HO2.out.1.alloc _) ⟨wr.heap.size, 0, none⟩ 1 1 [.int .u8 (x.toNat : Int)] rfl rfl (own_new1 _ _ _) ?c2 ?c3 ?c4 ?c5 ?_)
            case c2 => (first | rfl | (intro u hu; simp at hu; subst hu; rfl))
            case c3 => have := HTL.out; unfold maxLen; first | omega | (simp; omega)
            case c4 => have := HTL.out; first | omega | (simp; omega)
            case c5 => first | omega | (simp; omega)
            · intro v' w5 hown' hgrow hnil
              have HX := Lib.hid (below_grown (HL2.out.alloc hsz2 _) (by simp; omega) hgrow fun q hq => HO2.out.lt q hq)
              have hne' : v' ≠ .slice none 0 0 := fun e => by simp [e] at hnil
              have HY := Lib.hid (OwnB.snoc (l := ds.reverse.take k) (v := v') hx (by rw [HTL.out]; exact hown') hne')
              clear hown' hgrow hnil hne'
              go_wp2_with fail
              rw [UInt8.ofNat_toNat, HE.out] at HY
              refine ⟨⟨k + 1, by omega, by simp; omega, HY.out, HX.out⟩, ?_⟩
              simp only [intOf]
              omega
          · have hkl' : k = ds.length := by omega
            subst hkl'
            have d : decide ((ds.length : Int) - 1 - (ds.length : Int) ≥ 0) = false := decide_eq_false (by omega)
            have HEQ := Lib.hid (show ds.reverse.take ds.length = (digs n).reverse by rw [← HR.out, List.take_of_length_le (by simp)])
            generalize ds.reverse.take ds.length = l at HO2 HEQ
            obtain ⟨b2, cap2, rfl, -, hcell2⟩ := HO2.out.form
            have hcv := run_convert_bytes_back (P := Tryd.prog) wr 22 9 5 ⟨b2, 0, none⟩ cap2 l Tryd.underlying22 Tryd.underlying5 Tryd.underlying9 (fun j hj => by rw [add_at, Nat.zero_add]; exact hcell2 j hj)
            clear hcell2
            go_wp2
            go_ret
            exact ⟨by rw [HF.out, HEQ.out]; rfl, HL.out.trans (HL2.out.mono hsz)⟩
      · have hne : ((u : Int) != 0) = true := by rw [bne_iff_ne]; omega
        have q1 : IntKind.u8.wrap (48 + (u : Int) % 10) = 48 + (u : Int) % 10 := wrap8 (by omega) (by omega)
        have HE := Lib.hid (show (ds ++ [UInt8.ofNat (48 + u % 10)]) ++ digs (u / 10) = digs n by rw [← HD.out, digs_step hu0]; simp)
        have HC := Lib.hid (show ((48 + u % 10 : Nat) : Int) = 48 + (u : Int) % 10 by omega)
        go_wp2_with (at_builtin; refine wpList_append_own _ rfl _ _ 22 rfl w.heap.size 5 i0 (.int .u8 0) 1 1 Tryd.underlying22 hi hz0 hz1 hz2 rfl (by decide) _ _ _ rfl (HO.out.1.alloc _) ⟨wr.heap.size, 0, none⟩ 1 1 [.int .u8 (48 + (u : Int) % 10)] rfl rfl (own_new1 _ _ _) ?c2 ?c3 ?c4 ?c5 ?_)
        case c2 => (first | rfl | (intro u hu; simp at hu; subst hu; rfl))
        case c3 => unfold maxLen; first | omega | (simp; omega)
        case c4 => first | omega | (simp; omega)
        case c5 => have := HL.out.size; first | omega | (simp at this ⊢; omega)
        · intro v' w5 hown' hgrow hnil
          have hsz := HL.out.size
          have HX := Lib.hid (show Below w.heap.size w w5 from below_grown (HL.out.alloc hsz _) (by simp at hsz ⊢; omega) hgrow fun q hq => HO.out.lt q hq)
          have HY := Lib.hid (show OwnB w.heap.size w5 v' (ds ++ [UInt8.ofNat (48 + u % 10)]) from OwnB.snoc (by omega) (by rw [HC.out]; exact hown') (fun e => by simp [e] at hnil))
          clear hown' hgrow hnil
          go_wp2_with fail
          refine ⟨⟨u / 10, _, by omega, by simp, HE.out, HY.out, HX.out⟩, ?_⟩
          simp only [intOf]
          omega
end Go.Proofs.YthhgepiccjndpaaDoor
