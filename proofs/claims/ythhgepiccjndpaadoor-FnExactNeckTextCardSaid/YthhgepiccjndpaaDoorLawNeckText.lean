/- The program's NeckText writes what the reference's writes, for all arguments. The condition is the row's own: the listed variables read as the program's text lays them. -/
import Derived.Test.YthhgepiccjndpaaDoorRows
import Derived.Test.YthhgepiccjndpaaDoorCards
import Derived.Test.YthhgepiccjndpaaDoorTie
import Derived.Test.YthhgepiccjndpaaDoorQuadText
import Derived.OpenShut
import Derived.ChangeOld
import Derived.Lib.SmallJoins
import Derived.Lib.LaidTab
import Derived.Stop.LaidErr
import Derived.Stop.Joined
import Derived.ProofKit
import Derived.LaidMore
import Derived.SevenTiedAt
namespace Go.Proofs.YthhgepiccjndpaaDoor.lawNeckText
open Go.ChangeShapes Go.WideShapes Go.ChangeAt Go.RowKit
set_option linter.unusedVariables false

theorem walk (p l g s : Int) (w : World) (_ : (Lit.int .i64 p).wf = true) (_ : (Lit.int .i64 l).wf = true) (_ : (Lit.int .i64 g).wf = true) (_ : (Lit.int .i64 s).wf = true)
    (htab : Lib.TabIs Tryd.prog w "internal/strconv.uint64pow10" .u64 Lib.pow10Tab) :
    Calls Tryd.prog 4 #[.agg #[.int .i64 p, .int .i64 l, .int .i64 g, .int .i64 s]] w fun e w' => e = .returned (.bool true) ∧ Below w.heap.size w w' := by
  have HT := Lib.hid (Lib.tabBelow_of_tabIs htab)
  clear htab
  have HEQ := Lib.hid (show ∀ x : List UInt8, ((ByteArray.mk x.toArray).toList == (ByteArray.mk x.toArray).toList) = true from fun x => beq_self_eq_true _)
  go_enter Tryd.func4, Tryd.ntmps4
  go_wp2_with fail
  refine call_below (toNeck_c _ _ _ _ _) ?_
  intro w1 hb1
  obtain ⟨bc1, bf1⟩ := bcell hb1
  go_wp2_with fail
  refine call_below (sNeckText_c _ _ _ _ _) ?_
  intro w2 hb2
  obtain ⟨bc2, bf2⟩ := bcell hb2
  have hz1 := hb1.size
  have hz2 := hb2.size
  have c2 : ∀ o, w2.cell? ⟨w.heap.size, o, none⟩ = (w.alloc (.cells #[.int .i64 p, .int .i64 l, .int .i64 g, .int .i64 s] 37)).cell? ⟨w.heap.size, o, none⟩ := fun o => by
    simp at hz1
    rw [bc2 _ _ (by omega), bc1 _ _ (by simp)]
  clear bc1 bc2
  go_wp2_with fail
  refine call_below (toNeck_c _ _ _ _ _) ?_
  intro w3 hb3
  have hz3 := hb3.size
  have HB := Lib.hid (show Below w.heap.size w w3 from ((((Below.refl _ _).alloc (Nat.le_refl _) _).trans (hb1.mono (by simp))).trans (hb2.mono (by simp at hz1; omega))).trans (hb3.mono (by simp at hz1; omega)))
  go_wp2_with fail
  refine call_below (neckText_c _ _ _ _ _ (HT.out.on HB.out).here) ?_
  intro w4 hb4
  have hz := HB.out.size
  generalize quadT (neckB p l g s) p l g s = x
  have hx := HEQ.out x
  go_wp2
  go_ret
  exact ⟨rfl, HB.out.trans (hb4.mono hz)⟩

theorem own : ownKnob Tryd.prog.godebug = none := by kernel_rfl
/-- The variables that the row lists. -/
def laid : List (String × DataW Unit) := [("math/bits.deBruijn32tab", Rows.laid_math_bits_deBruijn32tab), ("math/bits.deBruijn64tab", Rows.laid_math_bits_deBruijn64tab), ("internal/strconv.uint64pow10", Rows.laid_internal_strconv_uint64pow10)]
theorem door_met (os : Os) (args : Array Value) : laidMetH Tryd.prog laid ((World.doorLaid Tryd.prog 400 os).forCall (fun _ _ => 0) ⟨#[], args, []⟩).memory :=
  laidMetH_of_parts3 (fuel := 8) (laidMet_of_run' 8 (by kernel_rfl) (by kernel_rfl)) (by kernel_rfl) (by kernel_rfl)
theorem laidOut : laidOutB Tryd.prog = true := by kernel_rfl
theorem cells37 : Tryd.prog.cellsOf 37 = 4 := by kernel_rfl
/-- What the condition gives the walk: the table of the powers of ten. -/
theorem of_laid {W : World} (h : laidMetH Tryd.prog laid W) : Lib.TabIs Tryd.prog W "internal/strconv.uint64pow10" .u64 Lib.pow10Tab := by
  rw [MakeChecks.laidMetH_plain _ _ _ (by kernel_rfl)] at h
  exact Lib.tabIs_of_head (g := 3) (t := 140) (e := 83) (n := 20) (by kernel_rfl) (by kernel_rfl) Tryd.underlying140 Tryd.underlying83 (by kernel_rfl) (by kernel_rfl) (laidMet.tail (laidMet.tail h))
set_option maxRecDepth 100000 in
theorem lifted (os : Os) (started : os.Started) (H : Type) (enc : TypeId × Value → H) :
    ReturnsInHanded {} Tryd.checked os 4 .any (fun w args => (Rows.fnExactNeckTextSpec.pre enc Tryd.prog Tryd.f4 [] false w args ∧ laidMetH Tryd.prog laid w) ∧ sizedMet enc Tryd.prog Tryd.f4 (OpenSpec.ofChange Rows.fnExactNeckTextSpec) false w args)
      (Rows.fnExactNeckTextSpec.post enc Tryd.prog Tryd.f4 false true false false) := by
  refine returnsInHanded_of_change_and (C := Tryd.checked) (X := fun w _ => laidMetH Tryd.prog laid w) (fun _ _ _ hh h => h.of_heap hh) own started (by kernel_rfl) Tryd.func4
    (ChangeSpec.witness_shaped (enc := enc) (C := Tryd.checked) (os := os) (X := fun w _ => laidMetH Tryd.prog laid w) false (World.doorLaid Tryd.prog 400 os) #[.agg #[.int .i64 0, .int .i64 0, .int .i64 0, .int .i64 0]] 8 rfl (World.shaped_of_RefB (by kernel_rfl) (by kernel_rfl)) (by kernel_rfl) (by kernel_rfl) (by kernel_rfl) (door_met os _)) ?_
  intro W base args ds gs before hval0 hW _ _ hL _
  have hval : ∀ (j : Nat) t v, Tryd.f4.params[j]? = some t → args[j]? = some v → Value.okWide Tryd.prog W .any base t v := hval0
  have hW' := hW
  obtain ⟨p, q, hA0, hV, rfl, hfz, hnd⟩ := hW
  have hA : DataW.TrodAll enc Tryd.prog W 0 (fun _ => true) true Tryd.f4.params.toList args.toList ds p := hA0
  rw [Tryd.params4] at hA hval
  obtain ⟨v0, vs0, d0, ds0, p0, q0, hargs, rfl, rfl, h0, r0⟩ := trodAll_cons hA
  obtain ⟨rfl, rfl, rfl⟩ := trodAll_nil r0
  obtain rfl : args = #[v0] := by cases args; simp_all
  obtain ⟨rfl, rfl⟩ := trodVars_none hV
  have k0 := h0
  have lt0 : ∀ x ∈ p0, x.block < W.heap.size := by obtain ⟨m, hm⟩ := k0; exact DataW.trod_lt m _ _ _ hm
  obtain ⟨c00, c01, c02, c03, y00, y01, y02, y03, n0, rfl, hd0, hp0, t00, t01, t02, t03⟩ := Go.Joins.open_agg4 Tryd.underlying37 (by kernel_rfl) cells37 (hval 0 37 v0 rfl rfl) h0
  obtain ⟨a00, e00, z00, w00⟩ := DataW.trod_int Tryd.underlying2 t00
  simp only [List.cons.injEq, and_true] at e00
  subst e00
  obtain ⟨a01, e01, z01, w01⟩ := DataW.trod_int Tryd.underlying2 t01
  simp only [List.cons.injEq, and_true] at e01
  subst e01
  obtain ⟨a02, e02, z02, w02⟩ := DataW.trod_int Tryd.underlying2 t02
  simp only [List.cons.injEq, and_true] at e02
  subst e02
  obtain ⟨a03, e03, z03, w03⟩ := DataW.trod_int Tryd.underlying2 t03
  simp only [List.cons.injEq, and_true] at e03
  subst e03
  clear hA0 hval0
  refine (walk a00 a01 a02 a03 W w00 w01 w02 w03 (of_laid hL)).mono fun e W' ⟨he, bel⟩ => ?_
  subst he
  exact ⟨_, rfl, _, _, _, [], _, [], hW', trodAll_mk1 (shut_bool Tryd.underlying4 _), (trodAll_cons_mk (Below.trod laidOut (by kernel_rfl) (of_decide_eq_true (by kernel_rfl)) k0 bel lt0) trodAll_mk0), rfl, bel.frame _, fun h => by cases h⟩

theorem over : Rows.fnExactNeckTextRow.holds Tryd.pinned (OpenSpec.ofChange Rows.fnExactNeckTextSpec) :=
  OpenClaim.holds_of_wide 4 Tryd.f4 rfl rfl rfl rfl rfl rfl rfl ⟨rfl, rfl, rfl, rfl, rfl⟩ rfl rfl rfl rfl rfl (by kernel_rfl) Tryd.func4 (by kernel_rfl)
    (of_decide_eq_true (by kernel_rfl)) (by unfold Func.isWrapper; first | (rw [if_pos (by decide +kernel)]; kernel_rfl) | (rw [if_neg (by decide +kernel)]; exact ⟨rfl, rfl⟩))
    (fun os started H enc _ => lifted os started H enc)

/-- THE STATEMENT. -/
theorem proved : Rows.FnExactNeckTextCardSaid :=
  Claim7.holds_tied_plain_at .later [] [.data, .data, .data] true (true, "365ed4e6a0481ff222d6276c564be3174c0ba4fecb1ab83ce37cbbc15add00d6") true
    over (fun _ h => by cases h) (by kernel_rfl) (fun _ h => by cases h) fnExactNeckText_row_tie rfl ⟨rfl, rfl⟩ (by kernel_rfl) rfl
    (fun f fn hf hfn => by
      obtain rfl : f = 4 := Option.some.inj ((show Tryd.prog.funcNamed "loop.example/g01061/laws.FnExactNeckText" = some 4 by kernel_rfl).symm.trans hf) |>.symm
      obtain rfl : fn = Tryd.f4 := (Option.some.inj (Tryd.func4.symm.trans hfn)).symm
      exact ⟨by kernel_rfl, fun j t ht => by
        rw [Tryd.params4] at ht
        have hm : t ∈ [37] := by simpa using Array.mem_of_getElem? ht
        have hall : ([37].all fun u => !Tryd.prog.wantsStandIn u) = true := by kernel_rfl
        exact (show Tryd.prog.wantsStandIn t = false by simpa using List.all_eq_true.1 hall t hm)⟩)
    (by kernel_rfl)
#print axioms proved
end Go.Proofs.YthhgepiccjndpaaDoor.lawNeckText
