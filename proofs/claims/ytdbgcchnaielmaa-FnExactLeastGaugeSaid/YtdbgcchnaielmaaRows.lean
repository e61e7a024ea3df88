/-
  No cell of these rows narrows 'for every input' (looked for: loops, veiled, ifaces, maps, wideKeys, modest, calm, conditions, laid).
  DERIVED. THE GIVEN ROWS OF THIS SEAT. 12 by the template 'for every input the law returns true; each argument reads behind the call as it read before'; 0 by the template 'total and deterministic' (their statements: YtdbgcchnaielmaaTotals.lean).
  GIVEN WITH THE SEED: the statements are not yours to turn. If you find one false, say at which input.
  Laid BY PROGRAM, IN A SANDBOX (cutbox-rows.mjs): the forced cells as the released guide's own fill.sh prints them over the translation 2dd555a0e93de405… (all of the seat's roots in one cut). By AI agents, Wed Nov 11 2026. No macro, syntax, notation, axiom, sorry.
-/
import Derived.Test.YtdbgcchnaielmaaChecked
import GoSem.Claim
import GoSem.ClaimJoined
import GoSem.ClaimMapViews
import Derived.JoinedTies
import Derived.KernelRfl
namespace Go.Proofs.Ytdbgcchnaielmaa
/- THE CELL 'sum', in the pinned program and in every row, IS THE sha256 OF THE DUMP (.gsa) THAT YtdbgcchnaielmaaProg.lean LOADS. Nothing in Lean hashes anything: it is a label: what it is worth is what the hold of that sum in a sandbox is worth. -/
noncomputable def Try.pinned : Pinned := { name := "ytdbgcchnaielmaa", sum := "2dd555a0e93de405d19cebfdfe5fef07c7192cfbefb77efb3ccead0d94e32767", checked := Try.checked }
namespace Rows
def none {H : Type} : Left H := { results := [], args := [] }

/-- 'laws.FnExactProjectionOf': WHATEVER THE INPUT: true; the input reads as it did. -/
def fnExactProjectionOfSpec : ChangeSpec := { name := "fnExactProjectionOf", fn := fun _ => fun
  | [d] => { results := [.lit (.bool true)], args := [d] }
  | _ => none }
def fnExactProjectionOfRow : OpenClaim := { program := "ytdbgcchnaielmaa", sum := "2dd555a0e93de405d19cebfdfe5fef07c7192cfbefb77efb3ccead0d94e32767", func := "loop.example/g01061/laws.FnExactProjectionOf", spec := "fnExactProjectionOf", apart := false }
def FnExactProjectionOfSaid : Prop := fnExactProjectionOfRow.holds Try.pinned (OpenSpec.ofChange fnExactProjectionOfSpec)

/-- ITS FALSE NEIGHBOUR: 'it returns false'. Refute it at one input. -/
def fnExactProjectionOfWrong : ChangeSpec := { name := "fnExactProjectionOf", fn := fun _ => fun
  | [d] => { results := [.lit (.bool false)], args := [d] }
  | _ => none }
def FnExactProjectionOfWrongFalsely : Prop := fnExactProjectionOfRow.holds Try.pinned (OpenSpec.ofChange fnExactProjectionOfWrong)

/-- 'laws.FnExactStopPlace': WHATEVER THE INPUT: true; the input reads as it did. -/
def fnExactStopPlaceSpec : ChangeSpec := { name := "fnExactStopPlace", fn := fun _ => fun
  | [d1, d2] => { results := [.lit (.bool true)], args := [d1, d2] }
  | _ => none }
def fnExactStopPlaceRow : OpenClaim := { program := "ytdbgcchnaielmaa", sum := "2dd555a0e93de405d19cebfdfe5fef07c7192cfbefb77efb3ccead0d94e32767", func := "loop.example/g01061/laws.FnExactStopPlace", spec := "fnExactStopPlace", apart := false }
def FnExactStopPlaceSaid : Prop := fnExactStopPlaceRow.holds Try.pinned (OpenSpec.ofChange fnExactStopPlaceSpec)

/-- ITS FALSE NEIGHBOUR: 'it returns false'. Refute it at one input. -/
def fnExactStopPlaceWrong : ChangeSpec := { name := "fnExactStopPlace", fn := fun _ => fun
  | [d1, d2] => { results := [.lit (.bool false)], args := [d1, d2] }
  | _ => none }
def FnExactStopPlaceWrongFalsely : Prop := fnExactStopPlaceRow.holds Try.pinned (OpenSpec.ofChange fnExactStopPlaceWrong)

/-- 'laws.FnExactTensionOf': WHATEVER THE INPUT: true; the input reads as it did. -/
def fnExactTensionOfSpec : ChangeSpec := { name := "fnExactTensionOf", fn := fun _ => fun
  | [d] => { results := [.lit (.bool true)], args := [d] }
  | _ => none }
def fnExactTensionOfRow : OpenClaim := { program := "ytdbgcchnaielmaa", sum := "2dd555a0e93de405d19cebfdfe5fef07c7192cfbefb77efb3ccead0d94e32767", func := "loop.example/g01061/laws.FnExactTensionOf", spec := "fnExactTensionOf", apart := false }
def FnExactTensionOfSaid : Prop := fnExactTensionOfRow.holds Try.pinned (OpenSpec.ofChange fnExactTensionOfSpec)

/-- ITS FALSE NEIGHBOUR: 'it returns false'. Refute it at one input. -/
def fnExactTensionOfWrong : ChangeSpec := { name := "fnExactTensionOf", fn := fun _ => fun
  | [d] => { results := [.lit (.bool false)], args := [d] }
  | _ => none }
def FnExactTensionOfWrongFalsely : Prop := fnExactTensionOfRow.holds Try.pinned (OpenSpec.ofChange fnExactTensionOfWrong)

/-- 'laws.FnExactStringAngle': WHATEVER THE INPUT: true; the input reads as it did. -/
def fnExactStringAngleSpec : ChangeSpec := { name := "fnExactStringAngle", fn := fun _ => fun
  | [d1, d2] => { results := [.lit (.bool true)], args := [d1, d2] }
  | _ => none }
def fnExactStringAngleRow : OpenClaim := { program := "ytdbgcchnaielmaa", sum := "2dd555a0e93de405d19cebfdfe5fef07c7192cfbefb77efb3ccead0d94e32767", func := "loop.example/g01061/laws.FnExactStringAngle", spec := "fnExactStringAngle", apart := false }
def FnExactStringAngleSaid : Prop := fnExactStringAngleRow.holds Try.pinned (OpenSpec.ofChange fnExactStringAngleSpec)

/-- ITS FALSE NEIGHBOUR: 'it returns false'. Refute it at one input. -/
def fnExactStringAngleWrong : ChangeSpec := { name := "fnExactStringAngle", fn := fun _ => fun
  | [d1, d2] => { results := [.lit (.bool false)], args := [d1, d2] }
  | _ => none }
def FnExactStringAngleWrongFalsely : Prop := fnExactStringAngleRow.holds Try.pinned (OpenSpec.ofChange fnExactStringAngleWrong)

/-- 'laws.FnExactSafetyOf': WHATEVER THE INPUT: true; the input reads as it did. -/
def fnExactSafetyOfSpec : ChangeSpec := { name := "fnExactSafetyOf", fn := fun _ => fun
  | [d] => { results := [.lit (.bool true)], args := [d] }
  | _ => none }
def fnExactSafetyOfRow : OpenClaim := { program := "ytdbgcchnaielmaa", sum := "2dd555a0e93de405d19cebfdfe5fef07c7192cfbefb77efb3ccead0d94e32767", func := "loop.example/g01061/laws.FnExactSafetyOf", spec := "fnExactSafetyOf", apart := false }
def FnExactSafetyOfSaid : Prop := fnExactSafetyOfRow.holds Try.pinned (OpenSpec.ofChange fnExactSafetyOfSpec)

/-- ITS FALSE NEIGHBOUR: 'it returns false'. Refute it at one input. -/
def fnExactSafetyOfWrong : ChangeSpec := { name := "fnExactSafetyOf", fn := fun _ => fun
  | [d] => { results := [.lit (.bool false)], args := [d] }
  | _ => none }
def FnExactSafetyOfWrongFalsely : Prop := fnExactSafetyOfRow.holds Try.pinned (OpenSpec.ofChange fnExactSafetyOfWrong)

/-- 'laws.FnExactCamberGap': WHATEVER THE INPUT: true; the input reads as it did. -/
def fnExactCamberGapSpec : ChangeSpec := { name := "fnExactCamberGap", fn := fun _ => fun
  | [d] => { results := [.lit (.bool true)], args := [d] }
  | _ => none }
def fnExactCamberGapRow : OpenClaim := { program := "ytdbgcchnaielmaa", sum := "2dd555a0e93de405d19cebfdfe5fef07c7192cfbefb77efb3ccead0d94e32767", func := "loop.example/g01061/laws.FnExactCamberGap", spec := "fnExactCamberGap", apart := false }
def FnExactCamberGapSaid : Prop := fnExactCamberGapRow.holds Try.pinned (OpenSpec.ofChange fnExactCamberGapSpec)

/-- ITS FALSE NEIGHBOUR: 'it returns false'. Refute it at one input. -/
def fnExactCamberGapWrong : ChangeSpec := { name := "fnExactCamberGap", fn := fun _ => fun
  | [d] => { results := [.lit (.bool false)], args := [d] }
  | _ => none }
def FnExactCamberGapWrongFalsely : Prop := fnExactCamberGapRow.holds Try.pinned (OpenSpec.ofChange fnExactCamberGapWrong)

/-- 'laws.FnExactBridgeFor': WHATEVER THE INPUT: true; the input reads as it did. -/
def fnExactBridgeForSpec : ChangeSpec := { name := "fnExactBridgeFor", fn := fun _ => fun
  | [d1, d2] => { results := [.lit (.bool true)], args := [d1, d2] }
  | _ => none }
def fnExactBridgeForRow : OpenClaim := { program := "ytdbgcchnaielmaa", sum := "2dd555a0e93de405d19cebfdfe5fef07c7192cfbefb77efb3ccead0d94e32767", func := "loop.example/g01061/laws.FnExactBridgeFor", spec := "fnExactBridgeFor", apart := false }
def FnExactBridgeForSaid : Prop := fnExactBridgeForRow.holds Try.pinned (OpenSpec.ofChange fnExactBridgeForSpec)

/-- ITS FALSE NEIGHBOUR: 'it returns false'. Refute it at one input. -/
def fnExactBridgeForWrong : ChangeSpec := { name := "fnExactBridgeFor", fn := fun _ => fun
  | [d1, d2] => { results := [.lit (.bool false)], args := [d1, d2] }
  | _ => none }
def FnExactBridgeForWrongFalsely : Prop := fnExactBridgeForRow.holds Try.pinned (OpenSpec.ofChange fnExactBridgeForWrong)

/-- 'laws.FnExactColourGap': WHATEVER THE INPUT: true; the input reads as it did. -/
def fnExactColourGapSpec : ChangeSpec := { name := "fnExactColourGap", fn := fun _ => fun
  | [d1, d2] => { results := [.lit (.bool true)], args := [d1, d2] }
  | _ => none }
def fnExactColourGapRow : OpenClaim := { program := "ytdbgcchnaielmaa", sum := "2dd555a0e93de405d19cebfdfe5fef07c7192cfbefb77efb3ccead0d94e32767", func := "loop.example/g01061/laws.FnExactColourGap", spec := "fnExactColourGap", apart := false }
def FnExactColourGapSaid : Prop := fnExactColourGapRow.holds Try.pinned (OpenSpec.ofChange fnExactColourGapSpec)

/-- ITS FALSE NEIGHBOUR: 'it returns false'. Refute it at one input. -/
def fnExactColourGapWrong : ChangeSpec := { name := "fnExactColourGap", fn := fun _ => fun
  | [d1, d2] => { results := [.lit (.bool false)], args := [d1, d2] }
  | _ => none }
def FnExactColourGapWrongFalsely : Prop := fnExactColourGapRow.holds Try.pinned (OpenSpec.ofChange fnExactColourGapWrong)

/-- 'laws.FnExactAngleFor': WHATEVER THE INPUT: true; the input reads as it did. -/
def fnExactAngleForSpec : ChangeSpec := { name := "fnExactAngleFor", fn := fun _ => fun
  | [d1, d2] => { results := [.lit (.bool true)], args := [d1, d2] }
  | _ => none }
def fnExactAngleForRow : OpenClaim := { program := "ytdbgcchnaielmaa", sum := "2dd555a0e93de405d19cebfdfe5fef07c7192cfbefb77efb3ccead0d94e32767", func := "loop.example/g01061/laws.FnExactAngleFor", spec := "fnExactAngleFor", apart := false }
def FnExactAngleForSaid : Prop := fnExactAngleForRow.holds Try.pinned (OpenSpec.ofChange fnExactAngleForSpec)

/-- ITS FALSE NEIGHBOUR: 'it returns false'. Refute it at one input. -/
def fnExactAngleForWrong : ChangeSpec := { name := "fnExactAngleFor", fn := fun _ => fun
  | [d1, d2] => { results := [.lit (.bool false)], args := [d1, d2] }
  | _ => none }
def FnExactAngleForWrongFalsely : Prop := fnExactAngleForRow.holds Try.pinned (OpenSpec.ofChange fnExactAngleForWrong)

/-- 'laws.FnExactLeastGauge': WHATEVER THE INPUT: true; the input reads as it did. -/
def fnExactLeastGaugeSpec : ChangeSpec := { name := "fnExactLeastGauge", fn := fun _ => fun
  | [d1, d2] => { results := [.lit (.bool true)], args := [d1, d2] }
  | _ => none }
def fnExactLeastGaugeRow : OpenClaim := { program := "ytdbgcchnaielmaa", sum := "2dd555a0e93de405d19cebfdfe5fef07c7192cfbefb77efb3ccead0d94e32767", func := "loop.example/g01061/laws.FnExactLeastGauge", spec := "fnExactLeastGauge", apart := false }
def FnExactLeastGaugeSaid : Prop := fnExactLeastGaugeRow.holds Try.pinned (OpenSpec.ofChange fnExactLeastGaugeSpec)

/-- ITS FALSE NEIGHBOUR: 'it returns false'. Refute it at one input. -/
def fnExactLeastGaugeWrong : ChangeSpec := { name := "fnExactLeastGauge", fn := fun _ => fun
  | [d1, d2] => { results := [.lit (.bool false)], args := [d1, d2] }
  | _ => none }
def FnExactLeastGaugeWrongFalsely : Prop := fnExactLeastGaugeRow.holds Try.pinned (OpenSpec.ofChange fnExactLeastGaugeWrong)

/-- 'laws.FnExactShimFor': WHATEVER THE INPUT: true; the input reads as it did. -/
def fnExactShimForSpec : ChangeSpec := { name := "fnExactShimFor", fn := fun _ => fun
  | [d1, d2, d3] => { results := [.lit (.bool true)], args := [d1, d2, d3] }
  | _ => none }
def fnExactShimForRow : OpenClaim := { program := "ytdbgcchnaielmaa", sum := "2dd555a0e93de405d19cebfdfe5fef07c7192cfbefb77efb3ccead0d94e32767", func := "loop.example/g01061/laws.FnExactShimFor", spec := "fnExactShimFor", apart := false }
def FnExactShimForSaid : Prop := fnExactShimForRow.holds Try.pinned (OpenSpec.ofChange fnExactShimForSpec)

/-- ITS FALSE NEIGHBOUR: 'it returns false'. Refute it at one input. -/
def fnExactShimForWrong : ChangeSpec := { name := "fnExactShimFor", fn := fun _ => fun
  | [d1, d2, d3] => { results := [.lit (.bool false)], args := [d1, d2, d3] }
  | _ => none }
def FnExactShimForWrongFalsely : Prop := fnExactShimForRow.holds Try.pinned (OpenSpec.ofChange fnExactShimForWrong)

/-- 'laws.FnExactCamberOf': WHATEVER THE INPUT: true; the input reads as it did. -/
def fnExactCamberOfSpec : ChangeSpec := { name := "fnExactCamberOf", fn := fun _ => fun
  | [d] => { results := [.lit (.bool true)], args := [d] }
  | _ => none }
def fnExactCamberOfRow : OpenClaim := { program := "ytdbgcchnaielmaa", sum := "2dd555a0e93de405d19cebfdfe5fef07c7192cfbefb77efb3ccead0d94e32767", func := "loop.example/g01061/laws.FnExactCamberOf", spec := "fnExactCamberOf", apart := false }
def FnExactCamberOfSaid : Prop := fnExactCamberOfRow.holds Try.pinned (OpenSpec.ofChange fnExactCamberOfSpec)

/-- ITS FALSE NEIGHBOUR: 'it returns false'. Refute it at one input. -/
def fnExactCamberOfWrong : ChangeSpec := { name := "fnExactCamberOf", fn := fun _ => fun
  | [d] => { results := [.lit (.bool false)], args := [d] }
  | _ => none }
def FnExactCamberOfWrongFalsely : Prop := fnExactCamberOfRow.holds Try.pinned (OpenSpec.ofChange fnExactCamberOfWrong)

/- THE SECOND FORM. 'bulk': how many values and letters a reading holds, each counted each time it is reached (what is shared counts as often as it is met; a slice's spare places count too). A statement '..UptoSaid' is the law's where the arguments, and the package variables that the reading takes, are together of bulk at most 1048576: NARROWER than '..Said'. Prove '..Said' where nothing that the law and all that it calls make is longer than what came in: it says more and counts as full. Else prove '..UptoSaid'. A law counts once. -/
mutual
def uptoBulk {H : Type} : DataW H → Nat
  | .lit (.string bytes) => bytes.length + 1
  | .lit _ => 1
  | .nil => 1
  | .ptr d => uptoBulk d + 1
  | .slice elems spare => uptoBulkAll elems + uptoBulkAll spare + 1
  | .agg parts => uptoBulkAll parts + 1
  | .iface _ d => uptoBulk d + 1
  | .map entries => uptoBulkEntries entries + 1
  | .held _ => 1
def uptoBulkAll {H : Type} : List (DataW H) → Nat
  | [] => 0
  | d :: r => uptoBulk d + uptoBulkAll r
def uptoBulkEntries {H : Type} : List (Lit × DataW H) → Nat
  | [] => 0
  | x :: r => uptoBulkEntry x + uptoBulkEntries r
def uptoBulkEntry {H : Type} : Lit × DataW H → Nat
  | (.string bytes, d) => bytes.length + uptoBulk d + 1
  | (_, d) => uptoBulk d + 1
 end
def uptoSmall : (H : Type) → List (DataW H) → Bool := fun _ ds => decide (uptoBulkAll ds ≤ 1048576)
def OpenSpec.upto (s : _root_.Go.ChangeSpec) : _root_.Go.OpenSpec := { _root_.Go.OpenSpec.ofChange s with cond := some uptoSmall }

/-- 'laws.FnExactProjectionOf', WHERE WHAT IT READS IS OF BULK AT MOST 1048576: true; the input reads as it did. -/
def fnExactProjectionOfUptoRow : OpenClaim := { program := "ytdbgcchnaielmaa", sum := "2dd555a0e93de405d19cebfdfe5fef07c7192cfbefb77efb3ccead0d94e32767", func := "loop.example/g01061/laws.FnExactProjectionOf", spec := "fnExactProjectionOf", apart := false, narrowed := true }
def FnExactProjectionOfUptoSaid : Prop := fnExactProjectionOfUptoRow.holds Try.pinned (OpenSpec.upto fnExactProjectionOfSpec)

/-- 'laws.FnExactStopPlace', WHERE WHAT IT READS IS OF BULK AT MOST 1048576: true; the input reads as it did. -/
def fnExactStopPlaceUptoRow : OpenClaim := { program := "ytdbgcchnaielmaa", sum := "2dd555a0e93de405d19cebfdfe5fef07c7192cfbefb77efb3ccead0d94e32767", func := "loop.example/g01061/laws.FnExactStopPlace", spec := "fnExactStopPlace", apart := false, narrowed := true }
def FnExactStopPlaceUptoSaid : Prop := fnExactStopPlaceUptoRow.holds Try.pinned (OpenSpec.upto fnExactStopPlaceSpec)

/-- 'laws.FnExactTensionOf', WHERE WHAT IT READS IS OF BULK AT MOST 1048576: true; the input reads as it did. -/
def fnExactTensionOfUptoRow : OpenClaim := { program := "ytdbgcchnaielmaa", sum := "2dd555a0e93de405d19cebfdfe5fef07c7192cfbefb77efb3ccead0d94e32767", func := "loop.example/g01061/laws.FnExactTensionOf", spec := "fnExactTensionOf", apart := false, narrowed := true }
def FnExactTensionOfUptoSaid : Prop := fnExactTensionOfUptoRow.holds Try.pinned (OpenSpec.upto fnExactTensionOfSpec)

/-- 'laws.FnExactStringAngle', WHERE WHAT IT READS IS OF BULK AT MOST 1048576: true; the input reads as it did. -/
def fnExactStringAngleUptoRow : OpenClaim := { program := "ytdbgcchnaielmaa", sum := "2dd555a0e93de405d19cebfdfe5fef07c7192cfbefb77efb3ccead0d94e32767", func := "loop.example/g01061/laws.FnExactStringAngle", spec := "fnExactStringAngle", apart := false, narrowed := true }
def FnExactStringAngleUptoSaid : Prop := fnExactStringAngleUptoRow.holds Try.pinned (OpenSpec.upto fnExactStringAngleSpec)

/-- 'laws.FnExactSafetyOf', WHERE WHAT IT READS IS OF BULK AT MOST 1048576: true; the input reads as it did. -/
def fnExactSafetyOfUptoRow : OpenClaim := { program := "ytdbgcchnaielmaa", sum := "2dd555a0e93de405d19cebfdfe5fef07c7192cfbefb77efb3ccead0d94e32767", func := "loop.example/g01061/laws.FnExactSafetyOf", spec := "fnExactSafetyOf", apart := false, narrowed := true }
def FnExactSafetyOfUptoSaid : Prop := fnExactSafetyOfUptoRow.holds Try.pinned (OpenSpec.upto fnExactSafetyOfSpec)

/-- 'laws.FnExactCamberGap', WHERE WHAT IT READS IS OF BULK AT MOST 1048576: true; the input reads as it did. -/
def fnExactCamberGapUptoRow : OpenClaim := { program := "ytdbgcchnaielmaa", sum := "2dd555a0e93de405d19cebfdfe5fef07c7192cfbefb77efb3ccead0d94e32767", func := "loop.example/g01061/laws.FnExactCamberGap", spec := "fnExactCamberGap", apart := false, narrowed := true }
def FnExactCamberGapUptoSaid : Prop := fnExactCamberGapUptoRow.holds Try.pinned (OpenSpec.upto fnExactCamberGapSpec)

/-- 'laws.FnExactBridgeFor', WHERE WHAT IT READS IS OF BULK AT MOST 1048576: true; the input reads as it did. -/
def fnExactBridgeForUptoRow : OpenClaim := { program := "ytdbgcchnaielmaa", sum := "2dd555a0e93de405d19cebfdfe5fef07c7192cfbefb77efb3ccead0d94e32767", func := "loop.example/g01061/laws.FnExactBridgeFor", spec := "fnExactBridgeFor", apart := false, narrowed := true }
def FnExactBridgeForUptoSaid : Prop := fnExactBridgeForUptoRow.holds Try.pinned (OpenSpec.upto fnExactBridgeForSpec)

/-- 'laws.FnExactColourGap', WHERE WHAT IT READS IS OF BULK AT MOST 1048576: true; the input reads as it did. -/
def fnExactColourGapUptoRow : OpenClaim := { program := "ytdbgcchnaielmaa", sum := "2dd555a0e93de405d19cebfdfe5fef07c7192cfbefb77efb3ccead0d94e32767", func := "loop.example/g01061/laws.FnExactColourGap", spec := "fnExactColourGap", apart := false, narrowed := true }
def FnExactColourGapUptoSaid : Prop := fnExactColourGapUptoRow.holds Try.pinned (OpenSpec.upto fnExactColourGapSpec)

/-- 'laws.FnExactAngleFor', WHERE WHAT IT READS IS OF BULK AT MOST 1048576: true; the input reads as it did. -/
def fnExactAngleForUptoRow : OpenClaim := { program := "ytdbgcchnaielmaa", sum := "2dd555a0e93de405d19cebfdfe5fef07c7192cfbefb77efb3ccead0d94e32767", func := "loop.example/g01061/laws.FnExactAngleFor", spec := "fnExactAngleFor", apart := false, narrowed := true }
def FnExactAngleForUptoSaid : Prop := fnExactAngleForUptoRow.holds Try.pinned (OpenSpec.upto fnExactAngleForSpec)

/-- 'laws.FnExactLeastGauge', WHERE WHAT IT READS IS OF BULK AT MOST 1048576: true; the input reads as it did. -/
def fnExactLeastGaugeUptoRow : OpenClaim := { program := "ytdbgcchnaielmaa", sum := "2dd555a0e93de405d19cebfdfe5fef07c7192cfbefb77efb3ccead0d94e32767", func := "loop.example/g01061/laws.FnExactLeastGauge", spec := "fnExactLeastGauge", apart := false, narrowed := true }
def FnExactLeastGaugeUptoSaid : Prop := fnExactLeastGaugeUptoRow.holds Try.pinned (OpenSpec.upto fnExactLeastGaugeSpec)

/-- 'laws.FnExactShimFor', WHERE WHAT IT READS IS OF BULK AT MOST 1048576: true; the input reads as it did. -/
def fnExactShimForUptoRow : OpenClaim := { program := "ytdbgcchnaielmaa", sum := "2dd555a0e93de405d19cebfdfe5fef07c7192cfbefb77efb3ccead0d94e32767", func := "loop.example/g01061/laws.FnExactShimFor", spec := "fnExactShimFor", apart := false, narrowed := true }
def FnExactShimForUptoSaid : Prop := fnExactShimForUptoRow.holds Try.pinned (OpenSpec.upto fnExactShimForSpec)

/-- 'laws.FnExactCamberOf', WHERE WHAT IT READS IS OF BULK AT MOST 1048576: true; the input reads as it did. -/
def fnExactCamberOfUptoRow : OpenClaim := { program := "ytdbgcchnaielmaa", sum := "2dd555a0e93de405d19cebfdfe5fef07c7192cfbefb77efb3ccead0d94e32767", func := "loop.example/g01061/laws.FnExactCamberOf", spec := "fnExactCamberOf", apart := false, narrowed := true }
def FnExactCamberOfUptoSaid : Prop := fnExactCamberOfUptoRow.holds Try.pinned (OpenSpec.upto fnExactCamberOfSpec)

end Rows
end Go.Proofs.Ytdbgcchnaielmaa
