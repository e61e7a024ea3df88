/- A text split at one byte: plain, the library's contract, the reference's own way. -/
import Derived.Test.YtpklckpnhjhnhaaDoorLists
import Derived.Test.YtpklckpnhjhnhaaDoorShelfR
import Derived.Lib.SplitLaws
import Derived.Lib.Split
namespace Go.Proofs.YtpklckpnhjhnhaaDoor
open Go.RowKit Go.ChangeShapes Go.WideShapes
set_option linter.unusedVariables false

/-- The pieces of a text between the bytes c. -/
def splitL (c : UInt8) : List UInt8 → List (List UInt8)
  | [] => [[]]
  | b :: r => if b = c then [] :: splitL c r else match splitL c r with
    | [] => [[b]]
    | x :: xs => (b :: x) :: xs
theorem splitL_ne (c : UInt8) : ∀ l, splitL c l ≠ []
  | [] => by simp [splitL]
  | b :: r => by
    unfold splitL
    split
    · simp
    · split <;> simp
theorem splitK_eq (c : UInt8) : ∀ l : List UInt8, Lib.splitK [c] 0 (Lib.count l [c]) l = splitL c l
  | [] => by rw [Lib.count_miss (by simp [Lib.index])]; rfl
  | b :: l => by
    by_cases h : b = c
    · subst h
      have hix : Lib.index (b :: l) [b] = 0 := by rw [Lib.index]; simp [List.isPrefixOf]
      rw [Lib.count_cons_eq, Nat.add_comm 1, Lib.splitK, hix]
      have e : ((0 : Int) == -1) = false := by decide
      rw [e, splitL, if_pos rfl]
      simp [splitK_eq b l]
    · have ih := splitK_eq c l
      have hp : ([c] : List UInt8).isPrefixOf (b :: l) = false := by simp [List.isPrefixOf, Ne.symm h]
      have hix : Lib.index (b :: l) [c] = if Lib.index l [c] == -1 then -1 else Lib.index l [c] + 1 := by rw [Lib.index, hp]; simp
      rw [Lib.count_cons_ne b c l h, splitL, if_neg h]
      by_cases hm : Lib.index l [c] = -1
      · rw [Lib.count_miss hm] at ih ⊢
        rw [← ih]
        rfl
      · have hge := Lib.index_ge l [c]
        obtain ⟨j, hj⟩ : ∃ j : Nat, Lib.index l [c] = j := ⟨(Lib.index l [c]).toNat, by omega⟩
        have hc := Lib.count_hit (s := l) (sub := [c]) (by simp) hj
        rw [hc, Nat.add_comm 1] at ih ⊢
        rw [Lib.splitK, hj] at ih
        rw [Lib.splitK, hix, hj]
        have e1 : (((j : Nat) : Int) == -1) = false := by rw [beq_eq_false_iff_ne]; omega
        have e2 : (((j : Nat) : Int) + 1 == -1) = false := by rw [beq_eq_false_iff_ne]; omega
        rw [e1] at ih ⊢
        simp only [Bool.false_eq_true, if_false] at ih ⊢
        rw [e2, ← ih]
        have e3 : ((j : Int) + 1).toNat = j + 1 := by omega
        simp [e3]
theorem split_hit {c : UInt8} : ∀ {x : List UInt8}, (∀ b ∈ x, b ≠ c) → ∀ r, splitL c (x ++ c :: r) = x :: splitL c r
  | [], _, r => by simp [splitL]
  | b :: x, h, r => by
    rw [List.cons_append, splitL, if_neg (h b (by simp)), split_hit (x := x) (fun q hq => h q (by simp [hq])) r]
theorem split_end {c : UInt8} : ∀ {x : List UInt8}, (∀ b ∈ x, b ≠ c) → splitL c x = [x]
  | [], _ => rfl
  | b :: x, h => by rw [splitL, if_neg (h b (by simp)), split_end (x := x) (fun q hq => h q (by simp [hq]))]
theorem splitB_cells (c : UInt8) (s : ByteArray) : (Lib.splitB ⟨#[c]⟩ 0 (Lib.countB s ⟨#[c]⟩) s).map Value.string = strCells (splitL c s.data.toList) := by
  have h := Lib.splitB_data ⟨#[c]⟩ 0 (Lib.countB s ⟨#[c]⟩) s
  have e : (ByteArray.mk #[c]).data.toList = [c] := rfl
  rw [e, show Lib.countB s ⟨#[c]⟩ = Lib.count s.data.toList [c] from rfl, splitK_eq] at h
  rw [← h]
  unfold strCells
  rw [List.map_map]
  rfl
theorem split_c (c : UInt8) (s : ByteArray) (m : Int) (w : World) (hs : s.size < 4294967281) (h : w.cell? ⟨0, 0, none⟩ = some (.int .i64 m)) :
    Calls Tryd.prog 46 #[.string s, .string ⟨#[c]⟩] w fun e w' => e = .returned (.slice (some ⟨w.heap.size, 0, none⟩) (splitL c s.data.toList).length (splitL c s.data.toList).length) ∧ w' = w.alloc (.cells (strCells (splitL c s.data.toList)).toArray 9) := by
  have hl : (splitL c s.data.toList).length = Lib.countB s ⟨#[c]⟩ + 1 := by
    have := congrArg List.length (splitB_cells c s)
    rw [List.length_map, Lib.splitB_all ⟨#[c]⟩ (Nat.le_refl 1) 0 _ _ rfl] at this
    rw [this]
    simp [strCells]
  rw [hl, ← splitB_cells]
  exact Tryd.strings_Split s ⟨#[c]⟩ m w hs h (Nat.le_refl 1)

/-- The bytes from s on, up to k. -/
def piece (l : List UInt8) (s k : Nat) : List UInt8 := (l.drop s).take (k - s)
theorem piece_ext (l : List UInt8) (s k : Nat) : (⟨l.toArray⟩ : ByteArray).extract s k = ⟨(piece l s k).toArray⟩ := by
  apply ByteArray.ext
  rw [ByteArray.data_extract]
  simp [piece, List.extract_eq_take_drop]
theorem piece_drop {l : List UInt8} {s k : Nat} (h : s ≤ k) : l.drop s = piece l s k ++ l.drop k := by
  unfold piece
  have := (List.take_append_drop (k - s) (l.drop s)).symm
  rwa [List.drop_drop, show s + (k - s) = k by omega] at this
theorem piece_succ {l : List UInt8} {s k : Nat} (h : s ≤ k) (hk : k < l.length) : piece l s (k + 1) = piece l s k ++ [l[k]] := by
  unfold piece
  rw [show k + 1 - s = (k - s) + 1 by omega, List.take_add_one, List.getElem?_drop, show s + (k - s) = k by omega, List.getElem?_eq_getElem hk]
  rfl
theorem piece_nil (l : List UInt8) (k : Nat) : piece l k k = [] := by simp [piece]
theorem byte_at {l : List UInt8} {k : Nat} (h : k < l.length) : (⟨l.toArray⟩ : ByteArray)[k]'(by simpa [ByteArray.size] using h) = l[k] := by
  simp [ByteArray.getElem_eq_getElem_data]
theorem take_snoc {l : List UInt8} {k : Nat} (h : k < l.length) : l.take k ++ [l[k]] = l.take (k + 1) := by rw [List.take_add_one, List.getElem?_eq_getElem h]; rfl

set_option maxRecDepth 100000 in
theorem l01Split_c (c : UInt8) (l : List UInt8) (w : World) (hn : l.length ≤ 1048576) :
    Calls Tryd.prog 59 #[.string ⟨l.toArray⟩, .int .u8 (c.toNat : Int)] w fun e w' => ∃ v, e = .returned v ∧ (OwnS w.heap.size w' v (splitL c l) ∧ Below w.heap.size w w') := by
  obtain ⟨i0, hi, hz0, hz1, hz2⟩ := info_parts infoStr
  go_enter Tryd.func59, Tryd.ntmps59
  go_wp2
  go_loopw [5, 6, 7] (fun v st i wr => ∃ k s0 : Nat, ∃ ts : List (List UInt8), s0 ≤ k ∧ k ≤ l.length ∧ i = .int .i64 k ∧ st = .int .i64 s0 ∧ ts.length ≤ s0 ∧ (∀ b ∈ piece l s0 k, b ≠ c) ∧ ts ++ splitL c (l.drop s0) = splitL c l ∧ OwnS w.heap.size wr v ts ∧ Below w.heap.size w wr) (fun _ _ i _ => l.length - (intOf i).toNat)
  case atStart => exact ⟨0, 0, [], Nat.le_refl _, Nat.zero_le _, rfl, rfl, Nat.le_refl _, by simp [piece], rfl, ⟨World.ownsRow_made w #[] 0 (Nat.le_refl _) (Nat.zero_le _) rfl, by simp⟩, (Below.refl _ _).alloc (Nat.le_refl _) _⟩
  case round =>
    obtain ⟨k, s0, ts, hsk, hk, rfl, rfl, htl, hno, hts, hown, hbl⟩ := hrel
    have HO := Lib.hid hown
    have HL := Lib.hid hbl
    have HN := Lib.hid hno
    have HS := Lib.hid hts
    clear hown hbl hno hts
    by_cases hlt : k < l.length
    · have HBY := Lib.hid (byte_at hlt)
      have HPS := Lib.hid (piece_succ hsk hlt)
      have HPD := Lib.hid (piece_drop (l := l) hsk)
      have HDK := Lib.hid (List.drop_eq_getElem_cons hlt)
      have HEX := Lib.hid (piece_ext l s0 k)
      have hsz := HL.out.size
      by_cases hc : l[k] = c
      · have q : ((⟨l.toArray⟩ : ByteArray)[k]'(by simpa [ByteArray.size] using hlt)).toNat = c.toNat := by rw [HBY.out, hc]
        have HC := Lib.hid hc
        clear hc
        go_wp2_with (at_builtin; refine wpList_append_own _ rfl _ _ 63 rfl w.heap.size 9 i0 (.string ⟨#[]⟩) 1 16 Tryd.underlying63 hi hz0 hz1 hz2 rfl (by decide) _ _ _ rfl (HO.out.1.alloc _) ⟨wr.heap.size, 0, none⟩ 1 1 [.string ((⟨l.toArray⟩ : ByteArray).extract s0 k)] rfl rfl (own_new1 _ _ _) ?c2 ?c3 ?c4 ?c5 ?_)
        case c2 => (first | rfl | (intro u hu; simp at hu; subst hu; rfl))
        case c3 => unfold maxLen; first | omega | (simp; omega)
        case c4 => first | omega | (simp; omega)
        case c5 => first | omega | (simp; omega)
        · intro v' w5 hown' hgrow hnil
          have hne' : v' ≠ .slice none 0 0 := fun e => by simp [e] at hnil
          have HX5 := Lib.hid (below_grown (HL.out.alloc hsz _) (by simp; omega) hgrow fun q hq => HO.out.lt q hq)
          have HY := Lib.hid (OwnS.snoc (ts := ts) (v := v') (t := piece l s0 k) (by rw [← HEX.out]; exact hown') hne')
          clear hown' hgrow hnil hne'
          go_wp2_with fail
          refine ⟨⟨k + 1, k + 1, ts ++ [piece l s0 k], Nat.le_refl _, hlt, by simp, by simp, by simp; omega, by rw [piece_nil]; simp, ?_, HY.out, HX5.out⟩, by simp only [intOf]; omega⟩
          rw [← HS.out, HPD.out, HDK.out, HC.out, split_hit HN.out, List.append_assoc]
          rfl
      · have q : ¬ ((⟨l.toArray⟩ : ByteArray)[k]'(by simpa [ByteArray.size] using hlt)).toNat = c.toNat := by
          rw [HBY.out]; exact fun e => hc (UInt8.toNat_inj.1 e)
        have HC := Lib.hid hc
        clear hc
        go_wp2_with fail
        refine ⟨⟨k + 1, s0, ts, by omega, hlt, by simp, rfl, htl, ?_, HS.out, HO.out, HL.out⟩, by simp only [intOf]; omega⟩
        rw [HPS.out]
        intro b hb
        rcases List.mem_append.1 hb with hb | hb
        · exact HN.out b hb
        · rw [List.mem_singleton.1 hb]; exact HC.out
    · have hkl : k = l.length := by omega
      subst hkl
      have HPD := Lib.hid (piece_drop (l := l) hsk)
      have HEX := Lib.hid (piece_ext l s0 l.length)
      have hsz := HL.out.size
      go_wp2_with (at_builtin; refine wpList_append_own _ rfl _ _ 63 rfl w.heap.size 9 i0 (.string ⟨#[]⟩) 1 16 Tryd.underlying63 hi hz0 hz1 hz2 rfl (by decide) _ _ _ rfl (HO.out.1.alloc _) ⟨wr.heap.size, 0, none⟩ 1 1 [.string ((⟨l.toArray⟩ : ByteArray).extract s0 l.length)] rfl rfl (own_new1 _ _ _) ?c2 ?c3 ?c4 ?c5 ?_)
      case c2 => (first | rfl | (intro u hu; simp at hu; subst hu; rfl))
      case c3 => unfold maxLen; first | omega | (simp; omega)
      case c4 => first | omega | (simp; omega)
      case c5 => first | omega | (simp; omega)
      · intro v' w5 hown' hgrow hnil
        have hne' : v' ≠ .slice none 0 0 := fun e => by simp [e] at hnil
        have HX5 := Lib.hid (below_grown (HL.out.alloc hsz _) (by simp; omega) hgrow fun q hq => HO.out.lt q hq)
        have HY := Lib.hid (OwnS.snoc (ts := ts) (v := v') (t := piece l s0 l.length) (by rw [← HEX.out]; exact hown') hne')
        clear hown' hgrow hnil hne'
        go_wp2
        go_ret
        refine ⟨_, rfl, ?_, HX5.out⟩
        have e : ts ++ [piece l s0 l.length] = splitL c l := by
          rw [← HS.out, HPD.out, List.drop_length, List.append_nil, split_end HN.out]
        rw [← e]
        exact HY.out
end Go.Proofs.YtpklckpnhjhnhaaDoor
