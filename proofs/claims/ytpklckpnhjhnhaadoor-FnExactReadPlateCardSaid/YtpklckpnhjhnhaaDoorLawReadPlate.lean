/- The program's ReadPlate returns what the reference's returns, for all arguments. The condition is the row's own: the listed variables read as the program's text lays them. -/
import Derived.Test.YtpklckpnhjhnhaaDoorRows
import Derived.Test.YtpklckpnhjhnhaaDoorCards
import Derived.Test.YtpklckpnhjhnhaaDoorTie
import Derived.Test.YtpklckpnhjhnhaaDoorReadPlate
import Derived.Test.YtpklckpnhjhnhaaDoorMark2
import Derived.Test.YtpklckpnhjhnhaaDoorHanded
import Derived.OpenShut
import Derived.ChangeOld
import Derived.Lib.SmallJoins
import Derived.Lib.LaidTab
import Derived.Stop.LaidErr
import Derived.Stop.Joined
import Derived.ProofKit
import Derived.LaidMore
import Derived.Lay
import Derived.SevenTiedAt
namespace Go.Proofs.YtpklckpnhjhnhaaDoor.lawReadPlate
open Go.ChangeShapes Go.WideShapes Go.ChangeAt Go.RowKit
set_option linter.unusedVariables false

theorem readP_small (l : List UInt8) : Small ((readP l).getD []) := by
  unfold readP
  split
  · rename_i h
    rw [Bool.and_eq_true] at h
    have ok := gridB_true h.2
    have := ok.rows
    rw [rowsF_len] at this
    exact rows_small (l := l) (by omega)
  · unfold Small
    simp [sumL]
set_option maxRecDepth 100000 in
set_option maxHeartbeats 1000000 in
theorem walk (a : ByteArray) (w : World) (_ : a.size ≤ maxLen) (D : Door w) :
    Calls Tryd.prog 6 #[.string a] w fun e w' => e = .returned (.bool true) ∧ Below w.heap.size w w' := by
  obtain ⟨l, rfl⟩ : ∃ l : List UInt8, a = ⟨l.toArray⟩ := ⟨a.data.toList, by simp⟩
  have HD := Lib.hid D
  clear D
  by_cases hl : l.length ≤ 1048576
  · have d : decide ((1048576 : Int) < (l.length : Int)) = false := decide_eq_false (by omega)
    have HL := Lib.hid hl
    have HZ := Lib.hid (readP_small l)
    clear hl
    have HS := Lib.hid (fun (w' : World) => sReadPlate_c l HL.out w')
    have HR := Lib.hid (fun (w' : World) (D : Door w') => readPlate_c l HL.out w' D)
    generalize readP l = o at HS HR HZ
    generalize o.isSome = ok at HS HR
    generalize o.getD [] = g at HS HR HZ
    go_enter Tryd.func6, Tryd.ntmps6
    go_wp2_with fail
    refine (HS.out _).mono ?_
    rintro e w1 ⟨v1, rfl, ⟨a1, c1, rfl, hg1⟩, hb1⟩
    have HA1 := Lib.hid hb1
    have HG1 := Lib.hid hg1
    have HD1 := Lib.hid (HD.out.below hb1)
    clear hg1 hb1
    go_wp2_with fail
    refine (HR.out w1 HD1.out).mono ?_
    rintro e w2 ⟨v2, rfl, ⟨a2, c2, rfl, hg2⟩, hb2⟩
    have HA2 := Lib.hid (below_next HA1.out hb2)
    have HB2 := Lib.hid hb2
    have HG2 := Lib.hid hg2
    clear hg2 hb2
    go_wp2_with fail
    refine call_below (eqInt64SS_c a2 a1 c2 c1 g _ HG2.out.grid (HG1.out.below HB2.out) HZ.out) ?_
    intro w3 hb3
    have HA3 := Lib.hid (below_next HA2.out hb3)
    have HB3 := Lib.hid (below_next HB2.out hb3)
    have HG3 := Lib.hid (HG2.out.below (Nat.le_refl _) hb3)
    have HC3 := Lib.hid hb3.size
    clear hb3
    go_wp2_with fail
    refine (markInt64SS_c w1.heap.size w2.heap.size a2 c2 g 1 _ HG3.out HZ.out (by omega) (by omega)).mono ?_
    rintro e w4 ⟨rfl, hg4, hm4⟩
    have HA4 := Lib.hid (HA3.out.trans (hm4.below.mono HA1.out.size))
    have HB4 := Lib.hid (HB3.out.trans hm4.below)
    have HG4 := Lib.hid hg4
    have HC4 := Lib.hid (show w2.heap.size ≤ w4.heap.size by rw [hm4.size]; exact HC3.out)
    have HD4 := Lib.hid (HD.out.below HA4.out)
    clear hg4 hm4
    go_wp2_with fail
    refine call_same (heldInt64SS_c a2 c2 1 g _ HG4.out.grid HZ.out (by omega) (by omega)) ?_
    go_wp2_with fail
    refine (HR.out w4 HD4.out).mono ?_
    rintro e w5 ⟨v5, rfl, ⟨a5, c5, rfl, hg5⟩, hb5⟩
    have HA5 := Lib.hid (below_next HA4.out hb5)
    have HB5 := Lib.hid (below_next HB4.out hb5)
    have HG5 := Lib.hid (HG4.out.below HC4.out hb5)
    have HC5 := Lib.hid (Nat.le_trans HC4.out hb5.size)
    have HK5 := Lib.hid hg5.grid
    clear hg5 hb5
    go_wp2_with fail
    refine call_below (eqInt64SS_c a5 a1 c5 c1 g _ HK5.out (HG1.out.below HB5.out) HZ.out) ?_
    intro w6 hb6
    have HA6 := Lib.hid (below_next HA5.out hb6)
    have HG6 := Lib.hid (HG5.out.below HC5.out hb6)
    clear hb6
    go_wp2_with fail
    refine call_same (heldInt64SS_c a2 c2 1 g _ HG6.out.grid HZ.out (by omega) (by omega)) ?_
    go_wp2
    go_ret
    exact ⟨rfl, HA6.out⟩
  · have d : decide ((1048576 : Int) < (l.length : Int)) = true := decide_eq_true (by omega)
    clear hl
    go_enter Tryd.func6, Tryd.ntmps6
    go_wp2
    go_ret
    exact ⟨rfl, Below.refl _ _⟩

theorem own : ownKnob Tryd.prog.godebug = none := by kernel_rfl
/-- The variables that the row lists. -/
def laid : List (String × DataW Unit) := [("math/bits.deBruijn32tab", Rows.laid_math_bits_deBruijn32tab), ("math/bits.deBruijn64tab", Rows.laid_math_bits_deBruijn64tab), ("internal/strconv.uint64pow10", Rows.laid_internal_strconv_uint64pow10), ("unicode/utf8.acceptRanges", Rows.laid_unicode_utf8_acceptRanges), ("strconv.ErrRange", Rows.laid_strconv_ErrRange), ("strconv.ErrSyntax", Rows.laid_strconv_ErrSyntax), ("unicode/utf8.first", Rows.laid_unicode_utf8_first)]
theorem laidOut : laidOutB Tryd.prog = true := by kernel_rfl
theorem star : "*" ++ "errors.errorString" = "*errors.errorString" := by decide
theorem rowE (u : TypeId) (h : Tryd.prog.typeName? 3 u = some "*errors.errorString") : u = 139 :=
  typeName_ptr_named (nm := "errors.errorString") (by rw [star]; kernel_rfl) (by kernel_rfl) (by decide) u (by rw [star]; exact h)
/-- What the condition and the world's shape give the walk. -/
theorem of_laid {W : World} (h : laidMetH Tryd.prog laid W) (hs : W.ShapedOpen Tryd.prog) : Door W := by
  rw [MakeChecks.laidMetH_plain _ _ _ (by kernel_rfl)] at h
  have h0 : Lib.TabIs Tryd.prog W "internal/strconv.uint64pow10" .u64 Lib.pow10Tab := Lib.tabIs_of_head (g := 3) (t := 128) (e := 68) (n := 20) (by kernel_rfl) (by kernel_rfl) Tryd.underlying128 Tryd.underlying68 (by kernel_rfl) (by kernel_rfl) (laidMet.tail (laidMet.tail h))
  obtain ⟨a1, s1, hv1, -, -, -⟩ := laid_sentinel (g := 1) (laidMet.tail (laidMet.tail (laidMet.tail (laidMet.tail (laidMet.tail h))))) (by kernel_rfl) (by kernel_rfl) Tryd.underlying84 rowE Tryd.underlying139 Tryd.underlying141 rfl rfl Tryd.underlying9 (by kernel_rfl) (by kernel_rfl)
  obtain ⟨a2, s2, hv2, -, -, -⟩ := laid_sentinel (g := 2) (laidMet.tail (laidMet.tail (laidMet.tail (laidMet.tail h)))) (by kernel_rfl) (by kernel_rfl) Tryd.underlying84 rowE Tryd.underlying139 Tryd.underlying141 rfl rfl Tryd.underlying9 (by kernel_rfl) (by kernel_rfl)
  obtain ⟨m, hm⟩ := Go.Proofs.cell_of_shapedOpen_int (g := 0) (t := 3) (zero := #[.int .i64 0]) (k := .i64) hs (of_decide_eq_true (by kernel_rfl)) (by kernel_rfl) rfl (by kernel_rfl) (by kernel_rfl) Tryd.underlying3
  exact ⟨h0, ⟨m, hm⟩, ⟨_, _, by simpa using World.var?_cell (show Tryd.prog.globalNamed "strconv.ErrSyntax" = some 1 by kernel_rfl) hv1 0⟩, ⟨_, _, by simpa using World.var?_cell (show Tryd.prog.globalNamed "strconv.ErrRange" = some 2 by kernel_rfl) hv2 0⟩⟩
set_option maxRecDepth 100000 in
theorem lifted (os : Os) (started : os.Started) (H : Type) (enc : TypeId × Value → H) :
    ReturnsInHanded {} Tryd.checked os 6 .any (fun w args => (Rows.fnExactReadPlateSpec.pre enc Tryd.prog Tryd.f6 [] false w args ∧ laidMetH Tryd.prog laid w) ∧ sizedMet enc Tryd.prog Tryd.f6 (OpenSpec.ofChange Rows.fnExactReadPlateSpec) false w args)
      (Rows.fnExactReadPlateSpec.post enc Tryd.prog Tryd.f6 false true false false) := by
  refine handed_both (C := Tryd.checked) (X := fun w _ => laidMetH Tryd.prog laid w) (fun _ _ _ hh h => h.of_heap hh) own started (by kernel_rfl) Tryd.func6
    (ChangeSpec.witness_shaped (enc := enc) (C := Tryd.checked) (os := os) (X := fun w _ => laidMetH Tryd.prog laid w) false (World.laidAll Tryd.prog os laid) #[.string ByteArray.empty] 8 (World.laidAll_os _ _ _) (World.shaped_of_ZipB (by kernel_rfl) (by kernel_rfl)) (by kernel_rfl) (by kernel_rfl) (by kernel_rfl)
      (by rw [MakeChecks.laidMetH_plain _ _ _ (by kernel_rfl)]; exact laidMet_laidAll _ (by kernel_rfl) (by kernel_rfl))) ?_
  intro W base args ds gs before hval0 hW hL hSh
  have hval : ∀ (j : Nat) t v, Tryd.f6.params[j]? = some t → args[j]? = some v → Value.okWide Tryd.prog W .any base t v := hval0
  have hW' := hW
  obtain ⟨p, q, hA0, hV, rfl, hfz, hnd⟩ := hW
  have hA : DataW.TrodAll enc Tryd.prog W 0 (fun _ => true) true Tryd.f6.params.toList args.toList ds p := hA0
  rw [Tryd.params6] at hA hval
  obtain ⟨v0, vs0, d0, ds0, p0, q0, hargs, rfl, rfl, h0, r0⟩ := trodAll_cons hA
  obtain ⟨rfl, rfl, rfl⟩ := trodAll_nil r0
  obtain rfl : args = #[v0] := by cases args; simp_all
  obtain ⟨rfl, rfl⟩ := trodVars_none hV
  have k0 := h0
  have lt0 : ∀ x ∈ p0, x.block < W.heap.size := by obtain ⟨m, hm⟩ := k0; exact DataW.trod_lt m _ _ _ hm
  obtain ⟨a0, rfl, rfl, rfl, w0⟩ := Go.ChangeMaps.open_string Tryd.underlying9 (hval 0 9 v0 rfl rfl) h0
  clear hA0 hval0
  refine (walk a0 W w0 (of_laid hL hSh)).mono fun e W' ⟨he, bel⟩ => ?_
  subst he
  exact ⟨_, rfl, _, _, _, [], _, [], hW', trodAll_mk1 (shut_bool Tryd.underlying4 _), (trodAll_cons_mk (Below.trod laidOut (by kernel_rfl) (of_decide_eq_true (by kernel_rfl)) k0 bel lt0) trodAll_mk0), rfl, bel.frame _, fun h => by cases h⟩

theorem over : Rows.fnExactReadPlateRow.holds Tryd.pinned (OpenSpec.ofChange Rows.fnExactReadPlateSpec) :=
  OpenClaim.holds_of_wide 6 Tryd.f6 rfl rfl rfl rfl rfl rfl rfl ⟨rfl, rfl, rfl, rfl, rfl⟩ rfl rfl rfl rfl rfl (by kernel_rfl) Tryd.func6 (by kernel_rfl)
    (of_decide_eq_true (by kernel_rfl)) (by unfold Func.isWrapper; first | (rw [if_pos (by decide +kernel)]; kernel_rfl) | (rw [if_neg (by decide +kernel)]; exact ⟨rfl, rfl⟩))
    (fun os started H enc _ => lifted os started H enc)

/-- THE STATEMENT. -/
theorem proved : Rows.FnExactReadPlateCardSaid :=
  Claim7.holds_tied_plain_at .later [] [.data, .data, .data, .data, .sentinel, .sentinel, .pinned] true (true, "3113e636914b5ee0e18a025aa45ab23ef71d679e2348896199a0085c3278dd07") true
    over (fun _ h => by cases h) (by kernel_rfl) (fun _ h => by cases h) fnExactReadPlate_row_tie rfl ⟨rfl, rfl⟩ (by kernel_rfl) rfl
    (fun f fn hf hfn => by
      obtain rfl : f = 6 := Option.some.inj ((show Tryd.prog.funcNamed "loop.example/g01061/laws.FnExactReadPlate" = some 6 by kernel_rfl).symm.trans hf) |>.symm
      obtain rfl : fn = Tryd.f6 := (Option.some.inj (Tryd.func6.symm.trans hfn)).symm
      exact ⟨by kernel_rfl, fun j t ht => by
        rw [Tryd.params6] at ht
        have hm : t ∈ [9] := by simpa using Array.mem_of_getElem? ht
        have hall : ([9].all fun u => !Tryd.prog.wantsStandIn u) = true := by kernel_rfl
        exact (show Tryd.prog.wantsStandIn t = false by simpa using List.all_eq_true.1 hall t hm)⟩)
    (by kernel_rfl)
#print axioms proved
end Go.Proofs.YtpklckpnhjhnhaaDoor.lawReadPlate
