/- Reading a number: the program's own way, through the library. -/
import Derived.Test.YtpklckpnhjhnhaaDoorLists
import Derived.Test.YtpklckpnhjhnhaaDoorShelfR
import Derived.Test.YtpklckpnhjhnhaaDoorNum
import Derived.Lib.AtoiErrMem
namespace Go.Proofs.YtpklckpnhjhnhaaDoor
open Go.RowKit Go.ChangeShapes Go.WideShapes
set_option linter.unusedVariables false

/-- What the library's variables read as: the table of the powers of ten, the two errors, the greatest length. -/
structure Door (w : World) : Prop where
  tab : Lib.TabIs Tryd.prog w "internal/strconv.uint64pow10" .u64 Lib.pow10Tab
  max : ∃ m, w.cell? ⟨0, 0, none⟩ = some (.int .i64 m)
  syn : ∃ t p, w.cell? ⟨1, 0, none⟩ = some (.iface t p)
  rng : ∃ t p, w.cell? ⟨2, 0, none⟩ = some (.iface t p)
theorem Door.below {w w' : World} (h : Door w) (hb : Below w.heap.size w w') : Door w' := by
  obtain ⟨h0, ⟨m, h1⟩, ⟨t2, p2, h2⟩, ⟨t3, p3, h3⟩⟩ := h
  exact ⟨((Lib.tabBelow_of_tabIs h0).on hb).here, ⟨m, (hb.cell (World.block_lt_of_cell? _ _ h1)).trans h1⟩, ⟨t2, p2, (hb.cell (World.block_lt_of_cell? _ _ h2)).trans h2⟩, ⟨t3, p3, (hb.cell (World.block_lt_of_cell? _ _ h3)).trans h3⟩⟩

theorem parse_ok_c (l : List UInt8) (hl : l.length ≤ 1048576) (v : Int) (h : Lib.parseIntB 64 l = .ok v) (w : World) :
    Calls Tryd.prog 67 #[.string ⟨l.toArray⟩, .int .i64 10, .int .i64 64] w fun e w' => e = .returned (.tuple #[.int .i64 v, .nilIface]) ∧ Below w.heap.size w w' := by
  refine (Tryd.strconv_ParseInt_10_at64_ok ⟨l.toArray⟩ (by simp [ByteArray.size]; omega) v h w).mono ?_
  rintro e w' ⟨rfl, rfl | ⟨t, rfl⟩⟩
  · exact ⟨rfl, Below.refl _ _⟩
  · exact ⟨rfl, Lib.bytesWorld_below _ _ _⟩
theorem parse_err_c (l : List UInt8) (hl : l.length ≤ 1048576) (h : ∀ v, Lib.parseIntB 64 l ≠ .ok v) (w : World) (D : Door w) :
    Calls Tryd.prog 67 #[.string ⟨l.toArray⟩, .int .i64 10, .int .i64 64] w fun e w' => ∃ x N, e = .returned (.tuple #[.int .i64 x, .iface 109 (.pointer (some ⟨N, 0, none⟩))]) ∧ Below w.heap.size w w' := by
  obtain ⟨t2, p2, h2⟩ := D.syn
  obtain ⟨t3, p3, h3⟩ := D.rng
  have hs : (ByteArray.mk l.toArray).size ≤ 281474976710656 := by simp [ByteArray.size]; omega
  cases hp : Lib.parseIntB 64 l
  · exact absurd hp (h _)
  · refine (Any.strconv_ParseInt_10_at64_syntax Tryd.laysC174 ⟨l.toArray⟩ hs hp _ w h2 (.inr ⟨_, _, rfl⟩)).mono ?_
    rintro e w' ⟨N, rfl, _, _, hb⟩
    exact ⟨_, N, rfl, hb⟩
  · refine (Any.strconv_ParseInt_10_at64_range Tryd.laysC174 ⟨l.toArray⟩ hs hp _ w h3 (.inr ⟨_, _, rfl⟩)).mono ?_
    rintro e w' ⟨N, rfl, _, _, hb⟩
    exact ⟨_, N, rfl, hb⟩
theorem trim_c (l : List UInt8) (w : World) : Calls Tryd.prog 66 #[.string ⟨l.toArray⟩, .string ⟨#[45]⟩] w fun e w' => e = .returned (.string ⟨(magOf l).toArray⟩) ∧ w = w' := by
  refine (Tryd.strings_TrimPrefix ⟨l.toArray⟩ ⟨#[45]⟩ w).mono ?_
  rintro e w' ⟨rfl, rfl⟩
  refine ⟨?_, rfl⟩
  have : Lib.trimPrefix l [45] = magOf l := by
    cases l with
    | nil => rfl
    | cons c r =>
      unfold Lib.trimPrefix Lib.hasPrefix magOf
      by_cases h : c = 45
      · subst h; rfl
      · rw [if_neg (by simp [List.isPrefixOf, Ne.symm h]), if_neg (by simpa using h)]
  rw [← this]

/-- What reading a number answers. -/
def numV (o : Option Int) : Int := o.getD 0
theorem readDecimal_c (l : List UInt8) (hl : l.length ≤ 1048576) (w : World) (D : Door w) :
    Calls Tryd.prog 53 #[.string ⟨l.toArray⟩] w fun e w' => e = .returned (.tuple #[.int .i64 (numV (numF l)), .bool (numF l).isSome]) ∧ Below w.heap.size w w' := by
  have HD := Lib.hid D
  clear D
  have hml : (magOf l).length ≤ 1048576 := by
    unfold magOf
    split
    · rw [List.length_tail]; omega
    · exact hl
  by_cases hm : 18 < (magOf l).length
  · have HF := Lib.hid (numF_long hm)
    go_enter Tryd.func53, Tryd.ntmps53
    go_wp2_with (go_at_call 66; refine call_same (trim_c l _) ?_)
    go_returns
    exact ⟨by rw [HF.out]; rfl, Below.refl _ _⟩
  · have HI := Lib.hid (parse_iff l (by omega))
    by_cases hp : ∃ v, Lib.parseIntB 64 l = .ok v
    · obtain ⟨v, hp⟩ := hp
      have hvb : -9223372036854775808 ≤ v ∧ v ≤ 9223372036854775807 := Lib.atoiAll_bounds (by rw [← Lib.parseIntB_64]; exact hp)
      have HP := Lib.hid hp
      clear hp
      obtain ⟨hv0, hv1⟩ := hvb
      by_cases hit : Lib.itoa v = l
      · have HF := Lib.hid ((HI.out v).1 ⟨HP.out, hit⟩)
        have q : (Lib.itoa v == l) = true := beq_iff_eq.2 hit
        have HIT := Lib.hid hit
        clear hit
        go_enter Tryd.func53, Tryd.ntmps53
        go_wp2_with (first | (go_at_call 66; refine call_same (trim_c l _) ?_) | (go_at_call 67; refine call_below (parse_ok_c l hl v HP.out _) ?_; intro w1 hb1) | (go_at_call 55; refine call_below (decimal_c v hv0 hv1 _ (HD.out.below hb1).tab) ?_; intro w2 hb2))
        go_returns
        exact ⟨by rw [HF.out]; rfl, below_next hb1 hb2⟩
      · have q : (Lib.itoa v == l) = false := beq_eq_false_iff_ne.2 hit
        have HF := Lib.hid (show numF l = none by
          cases h : numF l with
          | none => rfl
          | some v' =>
            have := (HI.out v').2 h
            have e : v' = v := by have := HP.out.symm.trans this.1; cases this; rfl
            rw [e] at this
            exact absurd this.2 hit)
        have HIT := Lib.hid hit
        clear hit
        go_enter Tryd.func53, Tryd.ntmps53
        go_wp2_with (first | (go_at_call 66; refine call_same (trim_c l _) ?_) | (go_at_call 67; refine call_below (parse_ok_c l hl v HP.out _) ?_; intro w1 hb1) | (go_at_call 55; refine call_below (decimal_c v hv0 hv1 _ (HD.out.below hb1).tab) ?_; intro w2 hb2))
        go_returns
        exact ⟨by rw [HF.out]; rfl, below_next hb1 hb2⟩
    · have HP := Lib.hid (show ∀ v, Lib.parseIntB 64 l ≠ .ok v from fun v hv => hp ⟨v, hv⟩)
      have HF := Lib.hid (show numF l = none by
          cases h : numF l with
          | none => rfl
          | some v' => exact absurd ((HI.out v').2 h).1 (HP.out v'))
      clear hp
      go_enter Tryd.func53, Tryd.ntmps53
      go_wp2_with (first | (go_at_call 66; refine call_same (trim_c l _) ?_) | (go_at_call 67; refine (parse_err_c l hl HP.out _ HD.out).mono ?_; rintro e w1 ⟨x, N, rfl, hb1⟩))
      go_returns
      exact ⟨by rw [HF.out]; rfl, hb1⟩
end Go.Proofs.YtpklckpnhjhnhaaDoor
