/-
  No cell of these rows narrows 'for every input' (looked for: loops, veiled, ifaces, maps, wideKeys, modest, calm, conditions, laid).
  DERIVED. THE GIVEN ROWS OF THIS SEAT. 12 by the template 'for every input the law returns true; each argument reads behind the call as it read before'; 0 by the template 'total and deterministic' (their statements: YthkjnemlklndfaaTotals.lean).
  GIVEN WITH THE SEED: the statements are not yours to turn. If you find one false, say at which input.
  Laid BY PROGRAM, IN A SANDBOX (cutbox-rows.mjs): the forced cells as the released guide's own fill.sh prints them over the translation 56c76fc1254838ee… (all of the seat's roots in one cut). By AI agents, Wed Nov 11 2026. No macro, syntax, notation, axiom, sorry.
-/
import Derived.Test.YthkjnemlklndfaaChecked
import GoSem.Claim
import GoSem.ClaimJoined
import GoSem.ClaimMapViews
import Derived.JoinedTies
import Derived.KernelRfl
namespace Go.Proofs.Ythkjnemlklndfaa
/- THE CELL 'sum', in the pinned program and in every row, IS THE sha256 OF THE DUMP (.gsa) THAT YthkjnemlklndfaaProg.lean LOADS. Nothing in Lean hashes anything: it is a label: what it is worth is what the hold of that sum in a sandbox is worth. -/
noncomputable def Try.pinned : Pinned := { name := "ythkjnemlklndfaa", sum := "56c76fc1254838ee4e211c15f987e0ea1233e2e74362066c0f17ec6a13b3df38", checked := Try.checked }
namespace Rows
def none {H : Type} : Left H := { results := [], args := [] }

/-- 'laws.FnExactHighestPitch': WHATEVER THE INPUT: true; the input reads as it did. -/
def fnExactHighestPitchSpec : ChangeSpec := { name := "fnExactHighestPitch", fn := fun _ => fun
  | [d1, d2] => { results := [.lit (.bool true)], args := [d1, d2] }
  | _ => none }
def fnExactHighestPitchRow : OpenClaim := { program := "ythkjnemlklndfaa", sum := "56c76fc1254838ee4e211c15f987e0ea1233e2e74362066c0f17ec6a13b3df38", func := "loop.example/g01061/laws.FnExactHighestPitch", spec := "fnExactHighestPitch", apart := false }
def FnExactHighestPitchSaid : Prop := fnExactHighestPitchRow.holds Try.pinned (OpenSpec.ofChange fnExactHighestPitchSpec)

/-- ITS FALSE NEIGHBOUR: 'it returns false'. Refute it at one input. -/
def fnExactHighestPitchWrong : ChangeSpec := { name := "fnExactHighestPitch", fn := fun _ => fun
  | [d1, d2] => { results := [.lit (.bool false)], args := [d1, d2] }
  | _ => none }
def FnExactHighestPitchWrongFalsely : Prop := fnExactHighestPitchRow.holds Try.pinned (OpenSpec.ofChange fnExactHighestPitchWrong)

/-- 'laws.FnExactValidPlate': WHATEVER THE INPUT: true; the input reads as it did. -/
def fnExactValidPlateSpec : ChangeSpec := { name := "fnExactValidPlate", fn := fun _ => fun
  | [d] => { results := [.lit (.bool true)], args := [d] }
  | _ => none }
def fnExactValidPlateRow : OpenClaim := { program := "ythkjnemlklndfaa", sum := "56c76fc1254838ee4e211c15f987e0ea1233e2e74362066c0f17ec6a13b3df38", func := "loop.example/g01061/laws.FnExactValidPlate", spec := "fnExactValidPlate", apart := false }
def FnExactValidPlateSaid : Prop := fnExactValidPlateRow.holds Try.pinned (OpenSpec.ofChange fnExactValidPlateSpec)

/-- ITS FALSE NEIGHBOUR: 'it returns false'. Refute it at one input. -/
def fnExactValidPlateWrong : ChangeSpec := { name := "fnExactValidPlate", fn := fun _ => fun
  | [d] => { results := [.lit (.bool false)], args := [d] }
  | _ => none }
def FnExactValidPlateWrongFalsely : Prop := fnExactValidPlateRow.holds Try.pinned (OpenSpec.ofChange fnExactValidPlateWrong)

/-- 'laws.FnExactHeightsAlong': WHATEVER THE INPUT: true; the input reads as it did. -/
def fnExactHeightsAlongSpec : ChangeSpec := { name := "fnExactHeightsAlong", fn := fun _ => fun
  | [d1, d2, d3] => { results := [.lit (.bool true)], args := [d1, d2, d3] }
  | _ => none }
def fnExactHeightsAlongRow : OpenClaim := { program := "ythkjnemlklndfaa", sum := "56c76fc1254838ee4e211c15f987e0ea1233e2e74362066c0f17ec6a13b3df38", func := "loop.example/g01061/laws.FnExactHeightsAlong", spec := "fnExactHeightsAlong", apart := false }
def FnExactHeightsAlongSaid : Prop := fnExactHeightsAlongRow.holds Try.pinned (OpenSpec.ofChange fnExactHeightsAlongSpec)

/-- ITS FALSE NEIGHBOUR: 'it returns false'. Refute it at one input. -/
def fnExactHeightsAlongWrong : ChangeSpec := { name := "fnExactHeightsAlong", fn := fun _ => fun
  | [d1, d2, d3] => { results := [.lit (.bool false)], args := [d1, d2, d3] }
  | _ => none }
def FnExactHeightsAlongWrongFalsely : Prop := fnExactHeightsAlongRow.holds Try.pinned (OpenSpec.ofChange fnExactHeightsAlongWrong)

/-- 'laws.FnExactExactlyChance': WHATEVER THE INPUT: true; the input reads as it did. -/
def fnExactExactlyChanceSpec : ChangeSpec := { name := "fnExactExactlyChance", fn := fun _ => fun
  | [d1, d2] => { results := [.lit (.bool true)], args := [d1, d2] }
  | _ => none }
def fnExactExactlyChanceRow : OpenClaim := { program := "ythkjnemlklndfaa", sum := "56c76fc1254838ee4e211c15f987e0ea1233e2e74362066c0f17ec6a13b3df38", func := "loop.example/g01061/laws.FnExactExactlyChance", spec := "fnExactExactlyChance", apart := false }
def FnExactExactlyChanceSaid : Prop := fnExactExactlyChanceRow.holds Try.pinned (OpenSpec.ofChange fnExactExactlyChanceSpec)

/-- ITS FALSE NEIGHBOUR: 'it returns false'. Refute it at one input. -/
def fnExactExactlyChanceWrong : ChangeSpec := { name := "fnExactExactlyChance", fn := fun _ => fun
  | [d1, d2] => { results := [.lit (.bool false)], args := [d1, d2] }
  | _ => none }
def FnExactExactlyChanceWrongFalsely : Prop := fnExactExactlyChanceRow.holds Try.pinned (OpenSpec.ofChange fnExactExactlyChanceWrong)

/-- 'laws.FnExactMajorityWays': WHATEVER THE INPUT: true; the input reads as it did. -/
def fnExactMajorityWaysSpec : ChangeSpec := { name := "fnExactMajorityWays", fn := fun _ => fun
  | [d] => { results := [.lit (.bool true)], args := [d] }
  | _ => none }
def fnExactMajorityWaysRow : OpenClaim := { program := "ythkjnemlklndfaa", sum := "56c76fc1254838ee4e211c15f987e0ea1233e2e74362066c0f17ec6a13b3df38", func := "loop.example/g01061/laws.FnExactMajorityWays", spec := "fnExactMajorityWays", apart := false }
def FnExactMajorityWaysSaid : Prop := fnExactMajorityWaysRow.holds Try.pinned (OpenSpec.ofChange fnExactMajorityWaysSpec)

/-- ITS FALSE NEIGHBOUR: 'it returns false'. Refute it at one input. -/
def fnExactMajorityWaysWrong : ChangeSpec := { name := "fnExactMajorityWays", fn := fun _ => fun
  | [d] => { results := [.lit (.bool false)], args := [d] }
  | _ => none }
def FnExactMajorityWaysWrongFalsely : Prop := fnExactMajorityWaysRow.holds Try.pinned (OpenSpec.ofChange fnExactMajorityWaysWrong)

/-- 'laws.FnExactAnyChance': WHATEVER THE INPUT: true; the input reads as it did. -/
def fnExactAnyChanceSpec : ChangeSpec := { name := "fnExactAnyChance", fn := fun _ => fun
  | [d] => { results := [.lit (.bool true)], args := [d] }
  | _ => none }
def fnExactAnyChanceRow : OpenClaim := { program := "ythkjnemlklndfaa", sum := "56c76fc1254838ee4e211c15f987e0ea1233e2e74362066c0f17ec6a13b3df38", func := "loop.example/g01061/laws.FnExactAnyChance", spec := "fnExactAnyChance", apart := false }
def FnExactAnyChanceSaid : Prop := fnExactAnyChanceRow.holds Try.pinned (OpenSpec.ofChange fnExactAnyChanceSpec)

/-- ITS FALSE NEIGHBOUR: 'it returns false'. Refute it at one input. -/
def fnExactAnyChanceWrong : ChangeSpec := { name := "fnExactAnyChance", fn := fun _ => fun
  | [d] => { results := [.lit (.bool false)], args := [d] }
  | _ => none }
def FnExactAnyChanceWrongFalsely : Prop := fnExactAnyChanceRow.holds Try.pinned (OpenSpec.ofChange fnExactAnyChanceWrong)

/-- 'laws.FnExactBestPost': WHATEVER THE INPUT: true; the input reads as it did. -/
def fnExactBestPostSpec : ChangeSpec := { name := "fnExactBestPost", fn := fun _ => fun
  | [d] => { results := [.lit (.bool true)], args := [d] }
  | _ => none }
def fnExactBestPostRow : OpenClaim := { program := "ythkjnemlklndfaa", sum := "56c76fc1254838ee4e211c15f987e0ea1233e2e74362066c0f17ec6a13b3df38", func := "loop.example/g01061/laws.FnExactBestPost", spec := "fnExactBestPost", apart := false }
def FnExactBestPostSaid : Prop := fnExactBestPostRow.holds Try.pinned (OpenSpec.ofChange fnExactBestPostSpec)

/-- ITS FALSE NEIGHBOUR: 'it returns false'. Refute it at one input. -/
def fnExactBestPostWrong : ChangeSpec := { name := "fnExactBestPost", fn := fun _ => fun
  | [d] => { results := [.lit (.bool false)], args := [d] }
  | _ => none }
def FnExactBestPostWrongFalsely : Prop := fnExactBestPostRow.holds Try.pinned (OpenSpec.ofChange fnExactBestPostWrong)

/-- 'laws.FnExactTotalTension': WHATEVER THE INPUT: true; the input reads as it did. -/
def fnExactTotalTensionSpec : ChangeSpec := { name := "fnExactTotalTension", fn := fun _ => fun
  | [d] => { results := [.lit (.bool true)], args := [d] }
  | _ => none }
def fnExactTotalTensionRow : OpenClaim := { program := "ythkjnemlklndfaa", sum := "56c76fc1254838ee4e211c15f987e0ea1233e2e74362066c0f17ec6a13b3df38", func := "loop.example/g01061/laws.FnExactTotalTension", spec := "fnExactTotalTension", apart := false }
def FnExactTotalTensionSaid : Prop := fnExactTotalTensionRow.holds Try.pinned (OpenSpec.ofChange fnExactTotalTensionSpec)

/-- ITS FALSE NEIGHBOUR: 'it returns false'. Refute it at one input. -/
def fnExactTotalTensionWrong : ChangeSpec := { name := "fnExactTotalTension", fn := fun _ => fun
  | [d] => { results := [.lit (.bool false)], args := [d] }
  | _ => none }
def FnExactTotalTensionWrongFalsely : Prop := fnExactTotalTensionRow.holds Try.pinned (OpenSpec.ofChange fnExactTotalTensionWrong)

/-- 'laws.FnExactNearestNeck': WHATEVER THE INPUT: true; the input reads as it did. -/
def fnExactNearestNeckSpec : ChangeSpec := { name := "fnExactNearestNeck", fn := fun _ => fun
  | [d1, d2] => { results := [.lit (.bool true)], args := [d1, d2] }
  | _ => none }
def fnExactNearestNeckRow : OpenClaim := { program := "ythkjnemlklndfaa", sum := "56c76fc1254838ee4e211c15f987e0ea1233e2e74362066c0f17ec6a13b3df38", func := "loop.example/g01061/laws.FnExactNearestNeck", spec := "fnExactNearestNeck", apart := false }
def FnExactNearestNeckSaid : Prop := fnExactNearestNeckRow.holds Try.pinned (OpenSpec.ofChange fnExactNearestNeckSpec)

/-- ITS FALSE NEIGHBOUR: 'it returns false'. Refute it at one input. -/
def fnExactNearestNeckWrong : ChangeSpec := { name := "fnExactNearestNeck", fn := fun _ => fun
  | [d1, d2] => { results := [.lit (.bool false)], args := [d1, d2] }
  | _ => none }
def FnExactNearestNeckWrongFalsely : Prop := fnExactNearestNeckRow.holds Try.pinned (OpenSpec.ofChange fnExactNearestNeckWrong)

/-- 'laws.FnExactWeakestRow': WHATEVER THE INPUT: true; the input reads as it did. -/
def fnExactWeakestRowSpec : ChangeSpec := { name := "fnExactWeakestRow", fn := fun _ => fun
  | [d] => { results := [.lit (.bool true)], args := [d] }
  | _ => none }
def fnExactWeakestRowRow : OpenClaim := { program := "ythkjnemlklndfaa", sum := "56c76fc1254838ee4e211c15f987e0ea1233e2e74362066c0f17ec6a13b3df38", func := "loop.example/g01061/laws.FnExactWeakestRow", spec := "fnExactWeakestRow", apart := false }
def FnExactWeakestRowSaid : Prop := fnExactWeakestRowRow.holds Try.pinned (OpenSpec.ofChange fnExactWeakestRowSpec)

/-- ITS FALSE NEIGHBOUR: 'it returns false'. Refute it at one input. -/
def fnExactWeakestRowWrong : ChangeSpec := { name := "fnExactWeakestRow", fn := fun _ => fun
  | [d] => { results := [.lit (.bool false)], args := [d] }
  | _ => none }
def FnExactWeakestRowWrongFalsely : Prop := fnExactWeakestRowRow.holds Try.pinned (OpenSpec.ofChange fnExactWeakestRowWrong)

/-- 'laws.FnExactPlateGap': WHATEVER THE INPUT: true; the input reads as it did. -/
def fnExactPlateGapSpec : ChangeSpec := { name := "fnExactPlateGap", fn := fun _ => fun
  | [d1, d2] => { results := [.lit (.bool true)], args := [d1, d2] }
  | _ => none }
def fnExactPlateGapRow : OpenClaim := { program := "ythkjnemlklndfaa", sum := "56c76fc1254838ee4e211c15f987e0ea1233e2e74362066c0f17ec6a13b3df38", func := "loop.example/g01061/laws.FnExactPlateGap", spec := "fnExactPlateGap", apart := false }
def FnExactPlateGapSaid : Prop := fnExactPlateGapRow.holds Try.pinned (OpenSpec.ofChange fnExactPlateGapSpec)

/-- ITS FALSE NEIGHBOUR: 'it returns false'. Refute it at one input. -/
def fnExactPlateGapWrong : ChangeSpec := { name := "fnExactPlateGap", fn := fun _ => fun
  | [d1, d2] => { results := [.lit (.bool false)], args := [d1, d2] }
  | _ => none }
def FnExactPlateGapWrongFalsely : Prop := fnExactPlateGapRow.holds Try.pinned (OpenSpec.ofChange fnExactPlateGapWrong)

/-- 'laws.FnExactGradedPlate': WHATEVER THE INPUT: true; the input reads as it did. -/
def fnExactGradedPlateSpec : ChangeSpec := { name := "fnExactGradedPlate", fn := fun _ => fun
  | [d1, d2, d3, d4] => { results := [.lit (.bool true)], args := [d1, d2, d3, d4] }
  | _ => none }
def fnExactGradedPlateRow : OpenClaim := { program := "ythkjnemlklndfaa", sum := "56c76fc1254838ee4e211c15f987e0ea1233e2e74362066c0f17ec6a13b3df38", func := "loop.example/g01061/laws.FnExactGradedPlate", spec := "fnExactGradedPlate", apart := false }
def FnExactGradedPlateSaid : Prop := fnExactGradedPlateRow.holds Try.pinned (OpenSpec.ofChange fnExactGradedPlateSpec)

/-- ITS FALSE NEIGHBOUR: 'it returns false'. Refute it at one input. -/
def fnExactGradedPlateWrong : ChangeSpec := { name := "fnExactGradedPlate", fn := fun _ => fun
  | [d1, d2, d3, d4] => { results := [.lit (.bool false)], args := [d1, d2, d3, d4] }
  | _ => none }
def FnExactGradedPlateWrongFalsely : Prop := fnExactGradedPlateRow.holds Try.pinned (OpenSpec.ofChange fnExactGradedPlateWrong)

/- THE SECOND FORM. 'bulk': how many values and letters a reading holds, each counted each time it is reached (what is shared counts as often as it is met; a slice's spare places count too). A statement '..UptoSaid' is the law's where the arguments, and the package variables that the reading takes, are together of bulk at most 1048576: NARROWER than '..Said'. Prove '..Said' where nothing that the law and all that it calls make is longer than what came in: it says more and counts as full. Else prove '..UptoSaid'. A law counts once. -/
mutual
def uptoBulk {H : Type} : DataW H → Nat
  | .lit (.string bytes) => bytes.length + 1
  | .lit _ => 1
  | .nil => 1
  | .ptr d => uptoBulk d + 1
  | .slice elems spare => uptoBulkAll elems + uptoBulkAll spare + 1
  | .agg parts => uptoBulkAll parts + 1
  | .iface _ d => uptoBulk d + 1
  | .map entries => uptoBulkEntries entries + 1
  | .held _ => 1
def uptoBulkAll {H : Type} : List (DataW H) → Nat
  | [] => 0
  | d :: r => uptoBulk d + uptoBulkAll r
def uptoBulkEntries {H : Type} : List (Lit × DataW H) → Nat
  | [] => 0
  | x :: r => uptoBulkEntry x + uptoBulkEntries r
def uptoBulkEntry {H : Type} : Lit × DataW H → Nat
  | (.string bytes, d) => bytes.length + uptoBulk d + 1
  | (_, d) => uptoBulk d + 1
 end
def uptoSmall : (H : Type) → List (DataW H) → Bool := fun _ ds => decide (uptoBulkAll ds ≤ 1048576)
def OpenSpec.upto (s : _root_.Go.ChangeSpec) : _root_.Go.OpenSpec := { _root_.Go.OpenSpec.ofChange s with cond := some uptoSmall }

/-- 'laws.FnExactHighestPitch', WHERE WHAT IT READS IS OF BULK AT MOST 1048576: true; the input reads as it did. -/
def fnExactHighestPitchUptoRow : OpenClaim := { program := "ythkjnemlklndfaa", sum := "56c76fc1254838ee4e211c15f987e0ea1233e2e74362066c0f17ec6a13b3df38", func := "loop.example/g01061/laws.FnExactHighestPitch", spec := "fnExactHighestPitch", apart := false, narrowed := true }
def FnExactHighestPitchUptoSaid : Prop := fnExactHighestPitchUptoRow.holds Try.pinned (OpenSpec.upto fnExactHighestPitchSpec)

/-- 'laws.FnExactValidPlate', WHERE WHAT IT READS IS OF BULK AT MOST 1048576: true; the input reads as it did. -/
def fnExactValidPlateUptoRow : OpenClaim := { program := "ythkjnemlklndfaa", sum := "56c76fc1254838ee4e211c15f987e0ea1233e2e74362066c0f17ec6a13b3df38", func := "loop.example/g01061/laws.FnExactValidPlate", spec := "fnExactValidPlate", apart := false, narrowed := true }
def FnExactValidPlateUptoSaid : Prop := fnExactValidPlateUptoRow.holds Try.pinned (OpenSpec.upto fnExactValidPlateSpec)

/-- 'laws.FnExactHeightsAlong', WHERE WHAT IT READS IS OF BULK AT MOST 1048576: true; the input reads as it did. -/
def fnExactHeightsAlongUptoRow : OpenClaim := { program := "ythkjnemlklndfaa", sum := "56c76fc1254838ee4e211c15f987e0ea1233e2e74362066c0f17ec6a13b3df38", func := "loop.example/g01061/laws.FnExactHeightsAlong", spec := "fnExactHeightsAlong", apart := false, narrowed := true }
def FnExactHeightsAlongUptoSaid : Prop := fnExactHeightsAlongUptoRow.holds Try.pinned (OpenSpec.upto fnExactHeightsAlongSpec)

/-- 'laws.FnExactExactlyChance', WHERE WHAT IT READS IS OF BULK AT MOST 1048576: true; the input reads as it did. -/
def fnExactExactlyChanceUptoRow : OpenClaim := { program := "ythkjnemlklndfaa", sum := "56c76fc1254838ee4e211c15f987e0ea1233e2e74362066c0f17ec6a13b3df38", func := "loop.example/g01061/laws.FnExactExactlyChance", spec := "fnExactExactlyChance", apart := false, narrowed := true }
def FnExactExactlyChanceUptoSaid : Prop := fnExactExactlyChanceUptoRow.holds Try.pinned (OpenSpec.upto fnExactExactlyChanceSpec)

/-- 'laws.FnExactMajorityWays', WHERE WHAT IT READS IS OF BULK AT MOST 1048576: true; the input reads as it did. -/
def fnExactMajorityWaysUptoRow : OpenClaim := { program := "ythkjnemlklndfaa", sum := "56c76fc1254838ee4e211c15f987e0ea1233e2e74362066c0f17ec6a13b3df38", func := "loop.example/g01061/laws.FnExactMajorityWays", spec := "fnExactMajorityWays", apart := false, narrowed := true }
def FnExactMajorityWaysUptoSaid : Prop := fnExactMajorityWaysUptoRow.holds Try.pinned (OpenSpec.upto fnExactMajorityWaysSpec)

/-- 'laws.FnExactAnyChance', WHERE WHAT IT READS IS OF BULK AT MOST 1048576: true; the input reads as it did. -/
def fnExactAnyChanceUptoRow : OpenClaim := { program := "ythkjnemlklndfaa", sum := "56c76fc1254838ee4e211c15f987e0ea1233e2e74362066c0f17ec6a13b3df38", func := "loop.example/g01061/laws.FnExactAnyChance", spec := "fnExactAnyChance", apart := false, narrowed := true }
def FnExactAnyChanceUptoSaid : Prop := fnExactAnyChanceUptoRow.holds Try.pinned (OpenSpec.upto fnExactAnyChanceSpec)

/-- 'laws.FnExactBestPost', WHERE WHAT IT READS IS OF BULK AT MOST 1048576: true; the input reads as it did. -/
def fnExactBestPostUptoRow : OpenClaim := { program := "ythkjnemlklndfaa", sum := "56c76fc1254838ee4e211c15f987e0ea1233e2e74362066c0f17ec6a13b3df38", func := "loop.example/g01061/laws.FnExactBestPost", spec := "fnExactBestPost", apart := false, narrowed := true }
def FnExactBestPostUptoSaid : Prop := fnExactBestPostUptoRow.holds Try.pinned (OpenSpec.upto fnExactBestPostSpec)

/-- 'laws.FnExactTotalTension', WHERE WHAT IT READS IS OF BULK AT MOST 1048576: true; the input reads as it did. -/
def fnExactTotalTensionUptoRow : OpenClaim := { program := "ythkjnemlklndfaa", sum := "56c76fc1254838ee4e211c15f987e0ea1233e2e74362066c0f17ec6a13b3df38", func := "loop.example/g01061/laws.FnExactTotalTension", spec := "fnExactTotalTension", apart := false, narrowed := true }
def FnExactTotalTensionUptoSaid : Prop := fnExactTotalTensionUptoRow.holds Try.pinned (OpenSpec.upto fnExactTotalTensionSpec)

/-- 'laws.FnExactNearestNeck', WHERE WHAT IT READS IS OF BULK AT MOST 1048576: true; the input reads as it did. -/
def fnExactNearestNeckUptoRow : OpenClaim := { program := "ythkjnemlklndfaa", sum := "56c76fc1254838ee4e211c15f987e0ea1233e2e74362066c0f17ec6a13b3df38", func := "loop.example/g01061/laws.FnExactNearestNeck", spec := "fnExactNearestNeck", apart := false, narrowed := true }
def FnExactNearestNeckUptoSaid : Prop := fnExactNearestNeckUptoRow.holds Try.pinned (OpenSpec.upto fnExactNearestNeckSpec)

/-- 'laws.FnExactWeakestRow', WHERE WHAT IT READS IS OF BULK AT MOST 1048576: true; the input reads as it did. -/
def fnExactWeakestRowUptoRow : OpenClaim := { program := "ythkjnemlklndfaa", sum := "56c76fc1254838ee4e211c15f987e0ea1233e2e74362066c0f17ec6a13b3df38", func := "loop.example/g01061/laws.FnExactWeakestRow", spec := "fnExactWeakestRow", apart := false, narrowed := true }
def FnExactWeakestRowUptoSaid : Prop := fnExactWeakestRowUptoRow.holds Try.pinned (OpenSpec.upto fnExactWeakestRowSpec)

/-- 'laws.FnExactPlateGap', WHERE WHAT IT READS IS OF BULK AT MOST 1048576: true; the input reads as it did. -/
def fnExactPlateGapUptoRow : OpenClaim := { program := "ythkjnemlklndfaa", sum := "56c76fc1254838ee4e211c15f987e0ea1233e2e74362066c0f17ec6a13b3df38", func := "loop.example/g01061/laws.FnExactPlateGap", spec := "fnExactPlateGap", apart := false, narrowed := true }
def FnExactPlateGapUptoSaid : Prop := fnExactPlateGapUptoRow.holds Try.pinned (OpenSpec.upto fnExactPlateGapSpec)

/-- 'laws.FnExactGradedPlate', WHERE WHAT IT READS IS OF BULK AT MOST 1048576: true; the input reads as it did. -/
def fnExactGradedPlateUptoRow : OpenClaim := { program := "ythkjnemlklndfaa", sum := "56c76fc1254838ee4e211c15f987e0ea1233e2e74362066c0f17ec6a13b3df38", func := "loop.example/g01061/laws.FnExactGradedPlate", spec := "fnExactGradedPlate", apart := false, narrowed := true }
def FnExactGradedPlateUptoSaid : Prop := fnExactGradedPlateUptoRow.holds Try.pinned (OpenSpec.upto fnExactGradedPlateSpec)

end Rows
end Go.Proofs.Ythkjnemlklndfaa
