/-
  No cell of these rows narrows 'for every input' (looked for: loops, veiled, ifaces, maps, wideKeys, modest, calm, conditions, laid).
  DERIVED. THE GIVEN ROWS OF THIS SEAT. 12 by the template 'for every input the law returns true; each argument reads behind the call as it read before'; 0 by the template 'total and deterministic' (their statements: YtbkcelhhnmdmfaaTotals.lean).
  GIVEN WITH THE SEED: the statements are not yours to turn. If you find one false, say at which input.
  Laid BY PROGRAM, IN A SANDBOX (cutbox-rows.mjs): the forced cells as the released guide's own fill.sh prints them over the translation 5c64db396be44ae8… (all of the seat's roots in one cut). By AI agents, Wed Nov 11 2026. No macro, syntax, notation, axiom, sorry.
-/
import Derived.Test.YtbkcelhhnmdmfaaChecked
import GoSem.Claim
import GoSem.ClaimJoined
import GoSem.ClaimMapViews
import Derived.JoinedTies
import Derived.KernelRfl
namespace Go.Proofs.Ytbkcelhhnmdmfaa
/- THE CELL 'sum', in the pinned program and in every row, IS THE sha256 OF THE DUMP (.gsa) THAT YtbkcelhhnmdmfaaProg.lean LOADS. Nothing in Lean hashes anything: it is a label: what it is worth is what the hold of that sum in a sandbox is worth. -/
noncomputable def Try.pinned : Pinned := { name := "ytbkcelhhnmdmfaa", sum := "5c64db396be44ae8b95b9c16512e9ff24d9109c669bf9509428b1c99f0c2385c", checked := Try.checked }
namespace Rows
def none {H : Type} : Left H := { results := [], args := [] }

/-- 'laws.FnExactValidString': WHATEVER THE INPUT: true; the input reads as it did. -/
def fnExactValidStringSpec : ChangeSpec := { name := "fnExactValidString", fn := fun _ => fun
  | [d] => { results := [.lit (.bool true)], args := [d] }
  | _ => none }
def fnExactValidStringRow : OpenClaim := { program := "ytbkcelhhnmdmfaa", sum := "5c64db396be44ae8b95b9c16512e9ff24d9109c669bf9509428b1c99f0c2385c", func := "loop.example/g01061/laws.FnExactValidString", spec := "fnExactValidString", plainKeys := false, apart := false }
def FnExactValidStringSaid : Prop := fnExactValidStringRow.holds Try.pinned (OpenSpec.ofChange fnExactValidStringSpec)

/-- ITS FALSE NEIGHBOUR: 'it returns false'. Refute it at one input. -/
def fnExactValidStringWrong : ChangeSpec := { name := "fnExactValidString", fn := fun _ => fun
  | [d] => { results := [.lit (.bool false)], args := [d] }
  | _ => none }
def FnExactValidStringWrongFalsely : Prop := fnExactValidStringRow.holds Try.pinned (OpenSpec.ofChange fnExactValidStringWrong)

/-- 'laws.FnExactCodeName': WHATEVER THE INPUT: true; the input reads as it did. -/
def fnExactCodeNameSpec : ChangeSpec := { name := "fnExactCodeName", fn := fun _ => fun
  | [d] => { results := [.lit (.bool true)], args := [d] }
  | _ => none }
def fnExactCodeNameRow : OpenClaim := { program := "ytbkcelhhnmdmfaa", sum := "5c64db396be44ae8b95b9c16512e9ff24d9109c669bf9509428b1c99f0c2385c", func := "loop.example/g01061/laws.FnExactCodeName", spec := "fnExactCodeName", plainKeys := false, apart := false }
def FnExactCodeNameSaid : Prop := fnExactCodeNameRow.holds Try.pinned (OpenSpec.ofChange fnExactCodeNameSpec)

/-- ITS FALSE NEIGHBOUR: 'it returns false'. Refute it at one input. -/
def fnExactCodeNameWrong : ChangeSpec := { name := "fnExactCodeName", fn := fun _ => fun
  | [d] => { results := [.lit (.bool false)], args := [d] }
  | _ => none }
def FnExactCodeNameWrongFalsely : Prop := fnExactCodeNameRow.holds Try.pinned (OpenSpec.ofChange fnExactCodeNameWrong)

/-- 'laws.FnExactValidNeck': WHATEVER THE INPUT: true; the input reads as it did. -/
def fnExactValidNeckSpec : ChangeSpec := { name := "fnExactValidNeck", fn := fun _ => fun
  | [d] => { results := [.lit (.bool true)], args := [d] }
  | _ => none }
def fnExactValidNeckRow : OpenClaim := { program := "ytbkcelhhnmdmfaa", sum := "5c64db396be44ae8b95b9c16512e9ff24d9109c669bf9509428b1c99f0c2385c", func := "loop.example/g01061/laws.FnExactValidNeck", spec := "fnExactValidNeck", plainKeys := false, apart := false }
def FnExactValidNeckSaid : Prop := fnExactValidNeckRow.holds Try.pinned (OpenSpec.ofChange fnExactValidNeckSpec)

/-- ITS FALSE NEIGHBOUR: 'it returns false'. Refute it at one input. -/
def fnExactValidNeckWrong : ChangeSpec := { name := "fnExactValidNeck", fn := fun _ => fun
  | [d] => { results := [.lit (.bool false)], args := [d] }
  | _ => none }
def FnExactValidNeckWrongFalsely : Prop := fnExactValidNeckRow.holds Try.pinned (OpenSpec.ofChange fnExactValidNeckWrong)

/-- 'laws.FnExactPostRing': WHATEVER THE INPUT: true; the input reads as it did. -/
def fnExactPostRingSpec : ChangeSpec := { name := "fnExactPostRing", fn := fun _ => fun
  | [d1, d2] => { results := [.lit (.bool true)], args := [d1, d2] }
  | _ => none }
def fnExactPostRingRow : OpenClaim := { program := "ytbkcelhhnmdmfaa", sum := "5c64db396be44ae8b95b9c16512e9ff24d9109c669bf9509428b1c99f0c2385c", func := "loop.example/g01061/laws.FnExactPostRing", spec := "fnExactPostRing", plainKeys := false, apart := false }
def FnExactPostRingSaid : Prop := fnExactPostRingRow.holds Try.pinned (OpenSpec.ofChange fnExactPostRingSpec)

/-- ITS FALSE NEIGHBOUR: 'it returns false'. Refute it at one input. -/
def fnExactPostRingWrong : ChangeSpec := { name := "fnExactPostRing", fn := fun _ => fun
  | [d1, d2] => { results := [.lit (.bool false)], args := [d1, d2] }
  | _ => none }
def FnExactPostRingWrongFalsely : Prop := fnExactPostRingRow.holds Try.pinned (OpenSpec.ofChange fnExactPostRingWrong)

/-- 'laws.FnExactScaleOf': WHATEVER THE INPUT: true; the input reads as it did. -/
def fnExactScaleOfSpec : ChangeSpec := { name := "fnExactScaleOf", fn := fun _ => fun
  | [d] => { results := [.lit (.bool true)], args := [d] }
  | _ => none }
def fnExactScaleOfRow : OpenClaim := { program := "ytbkcelhhnmdmfaa", sum := "5c64db396be44ae8b95b9c16512e9ff24d9109c669bf9509428b1c99f0c2385c", func := "loop.example/g01061/laws.FnExactScaleOf", spec := "fnExactScaleOf", plainKeys := false, apart := false }
def FnExactScaleOfSaid : Prop := fnExactScaleOfRow.holds Try.pinned (OpenSpec.ofChange fnExactScaleOfSpec)

/-- ITS FALSE NEIGHBOUR: 'it returns false'. Refute it at one input. -/
def fnExactScaleOfWrong : ChangeSpec := { name := "fnExactScaleOf", fn := fun _ => fun
  | [d] => { results := [.lit (.bool false)], args := [d] }
  | _ => none }
def FnExactScaleOfWrongFalsely : Prop := fnExactScaleOfRow.holds Try.pinned (OpenSpec.ofChange fnExactScaleOfWrong)

/-- 'laws.FnExactAfterLength': WHATEVER THE INPUT: true; the input reads as it did. -/
def fnExactAfterLengthSpec : ChangeSpec := { name := "fnExactAfterLength", fn := fun _ => fun
  | [d1, d2] => { results := [.lit (.bool true)], args := [d1, d2] }
  | _ => none }
def fnExactAfterLengthRow : OpenClaim := { program := "ytbkcelhhnmdmfaa", sum := "5c64db396be44ae8b95b9c16512e9ff24d9109c669bf9509428b1c99f0c2385c", func := "loop.example/g01061/laws.FnExactAfterLength", spec := "fnExactAfterLength", plainKeys := false, apart := false }
def FnExactAfterLengthSaid : Prop := fnExactAfterLengthRow.holds Try.pinned (OpenSpec.ofChange fnExactAfterLengthSpec)

/-- ITS FALSE NEIGHBOUR: 'it returns false'. Refute it at one input. -/
def fnExactAfterLengthWrong : ChangeSpec := { name := "fnExactAfterLength", fn := fun _ => fun
  | [d1, d2] => { results := [.lit (.bool false)], args := [d1, d2] }
  | _ => none }
def FnExactAfterLengthWrongFalsely : Prop := fnExactAfterLengthRow.holds Try.pinned (OpenSpec.ofChange fnExactAfterLengthWrong)

/-- 'laws.FnArching': WHATEVER THE INPUT: true; the input reads as it did. -/
def fnArchingSpec : ChangeSpec := { name := "fnArching", fn := fun _ => fun
  | [d1, d2] => { results := [.lit (.bool true)], args := [d1, d2] }
  | _ => none }
def fnArchingRow : OpenClaim := { program := "ytbkcelhhnmdmfaa", sum := "5c64db396be44ae8b95b9c16512e9ff24d9109c669bf9509428b1c99f0c2385c", func := "loop.example/g01061/laws.FnArching", spec := "fnArching", unfollowed := true, recurses := true, plainKeys := false, apart := false }
def FnArchingSaid : Prop := fnArchingRow.holds Try.pinned (OpenSpec.ofChange fnArchingSpec)

/-- ITS FALSE NEIGHBOUR: 'it returns false'. Refute it at one input. -/
def fnArchingWrong : ChangeSpec := { name := "fnArching", fn := fun _ => fun
  | [d1, d2] => { results := [.lit (.bool false)], args := [d1, d2] }
  | _ => none }
def FnArchingWrongFalsely : Prop := fnArchingRow.holds Try.pinned (OpenSpec.ofChange fnArchingWrong)

/-- 'laws.FnExactHitsOf': WHATEVER THE INPUT: true; the input reads as it did. -/
def fnExactHitsOfSpec : ChangeSpec := { name := "fnExactHitsOf", fn := fun _ => fun
  | [d1, d2] => { results := [.lit (.bool true)], args := [d1, d2] }
  | _ => none }
def fnExactHitsOfRow : OpenClaim := { program := "ytbkcelhhnmdmfaa", sum := "5c64db396be44ae8b95b9c16512e9ff24d9109c669bf9509428b1c99f0c2385c", func := "loop.example/g01061/laws.FnExactHitsOf", spec := "fnExactHitsOf", plainKeys := false, apart := false }
def FnExactHitsOfSaid : Prop := fnExactHitsOfRow.holds Try.pinned (OpenSpec.ofChange fnExactHitsOfSpec)

/-- ITS FALSE NEIGHBOUR: 'it returns false'. Refute it at one input. -/
def fnExactHitsOfWrong : ChangeSpec := { name := "fnExactHitsOf", fn := fun _ => fun
  | [d1, d2] => { results := [.lit (.bool false)], args := [d1, d2] }
  | _ => none }
def FnExactHitsOfWrongFalsely : Prop := fnExactHitsOfRow.holds Try.pinned (OpenSpec.ofChange fnExactHitsOfWrong)

/-- 'laws.FnExactStopFor': WHATEVER THE INPUT: true; the input reads as it did. -/
def fnExactStopForSpec : ChangeSpec := { name := "fnExactStopFor", fn := fun _ => fun
  | [d1, d2] => { results := [.lit (.bool true)], args := [d1, d2] }
  | _ => none }
def fnExactStopForRow : OpenClaim := { program := "ytbkcelhhnmdmfaa", sum := "5c64db396be44ae8b95b9c16512e9ff24d9109c669bf9509428b1c99f0c2385c", func := "loop.example/g01061/laws.FnExactStopFor", spec := "fnExactStopFor", plainKeys := false, apart := false }
def FnExactStopForSaid : Prop := fnExactStopForRow.holds Try.pinned (OpenSpec.ofChange fnExactStopForSpec)

/-- ITS FALSE NEIGHBOUR: 'it returns false'. Refute it at one input. -/
def fnExactStopForWrong : ChangeSpec := { name := "fnExactStopFor", fn := fun _ => fun
  | [d1, d2] => { results := [.lit (.bool false)], args := [d1, d2] }
  | _ => none }
def FnExactStopForWrongFalsely : Prop := fnExactStopForRow.holds Try.pinned (OpenSpec.ofChange fnExactStopForWrong)

/-- 'laws.FnExactValidExperts': WHATEVER THE INPUT: true; the input reads as it did. -/
def fnExactValidExpertsSpec : ChangeSpec := { name := "fnExactValidExperts", fn := fun _ => fun
  | [d] => { results := [.lit (.bool true)], args := [d] }
  | _ => none }
def fnExactValidExpertsRow : OpenClaim := { program := "ytbkcelhhnmdmfaa", sum := "5c64db396be44ae8b95b9c16512e9ff24d9109c669bf9509428b1c99f0c2385c", func := "loop.example/g01061/laws.FnExactValidExperts", spec := "fnExactValidExperts", plainKeys := false, apart := false }
def FnExactValidExpertsSaid : Prop := fnExactValidExpertsRow.holds Try.pinned (OpenSpec.ofChange fnExactValidExpertsSpec)

/-- ITS FALSE NEIGHBOUR: 'it returns false'. Refute it at one input. -/
def fnExactValidExpertsWrong : ChangeSpec := { name := "fnExactValidExperts", fn := fun _ => fun
  | [d] => { results := [.lit (.bool false)], args := [d] }
  | _ => none }
def FnExactValidExpertsWrongFalsely : Prop := fnExactValidExpertsRow.holds Try.pinned (OpenSpec.ofChange fnExactValidExpertsWrong)

/-- 'laws.FnExactPostLength': WHATEVER THE INPUT: true; the input reads as it did. -/
def fnExactPostLengthSpec : ChangeSpec := { name := "fnExactPostLength", fn := fun _ => fun
  | [d1, d2, d3, d4] => { results := [.lit (.bool true)], args := [d1, d2, d3, d4] }
  | _ => none }
def fnExactPostLengthRow : OpenClaim := { program := "ytbkcelhhnmdmfaa", sum := "5c64db396be44ae8b95b9c16512e9ff24d9109c669bf9509428b1c99f0c2385c", func := "loop.example/g01061/laws.FnExactPostLength", spec := "fnExactPostLength", plainKeys := false, apart := false }
def FnExactPostLengthSaid : Prop := fnExactPostLengthRow.holds Try.pinned (OpenSpec.ofChange fnExactPostLengthSpec)

/-- ITS FALSE NEIGHBOUR: 'it returns false'. Refute it at one input. -/
def fnExactPostLengthWrong : ChangeSpec := { name := "fnExactPostLength", fn := fun _ => fun
  | [d1, d2, d3, d4] => { results := [.lit (.bool false)], args := [d1, d2, d3, d4] }
  | _ => none }
def FnExactPostLengthWrongFalsely : Prop := fnExactPostLengthRow.holds Try.pinned (OpenSpec.ofChange fnExactPostLengthWrong)

/-- 'laws.FnExactStopRatio': WHATEVER THE INPUT: true; the input reads as it did. -/
def fnExactStopRatioSpec : ChangeSpec := { name := "fnExactStopRatio", fn := fun _ => fun
  | [d] => { results := [.lit (.bool true)], args := [d] }
  | _ => none }
def fnExactStopRatioRow : OpenClaim := { program := "ytbkcelhhnmdmfaa", sum := "5c64db396be44ae8b95b9c16512e9ff24d9109c669bf9509428b1c99f0c2385c", func := "loop.example/g01061/laws.FnExactStopRatio", spec := "fnExactStopRatio", plainKeys := false, apart := false }
def FnExactStopRatioSaid : Prop := fnExactStopRatioRow.holds Try.pinned (OpenSpec.ofChange fnExactStopRatioSpec)

/-- ITS FALSE NEIGHBOUR: 'it returns false'. Refute it at one input. -/
def fnExactStopRatioWrong : ChangeSpec := { name := "fnExactStopRatio", fn := fun _ => fun
  | [d] => { results := [.lit (.bool false)], args := [d] }
  | _ => none }
def FnExactStopRatioWrongFalsely : Prop := fnExactStopRatioRow.holds Try.pinned (OpenSpec.ofChange fnExactStopRatioWrong)

/- THE SECOND FORM. 'bulk': how many values and letters a reading holds, each counted each time it is reached (what is shared counts as often as it is met; a slice's spare places count too). A statement '..UptoSaid' is the law's where the arguments, and the package variables that the reading takes, are together of bulk at most 1048576: NARROWER than '..Said'. Prove '..Said' where nothing that the law and all that it calls make is longer than what came in: it says more and counts as full. Else prove '..UptoSaid'. A law counts once. -/
mutual
def uptoBulk {H : Type} : DataW H → Nat
  | .lit (.string bytes) => bytes.length + 1
  | .lit _ => 1
  | .nil => 1
  | .ptr d => uptoBulk d + 1
  | .slice elems spare => uptoBulkAll elems + uptoBulkAll spare + 1
  | .agg parts => uptoBulkAll parts + 1
  | .iface _ d => uptoBulk d + 1
  | .map entries => uptoBulkEntries entries + 1
  | .held _ => 1
def uptoBulkAll {H : Type} : List (DataW H) → Nat
  | [] => 0
  | d :: r => uptoBulk d + uptoBulkAll r
def uptoBulkEntries {H : Type} : List (Lit × DataW H) → Nat
  | [] => 0
  | x :: r => uptoBulkEntry x + uptoBulkEntries r
def uptoBulkEntry {H : Type} : Lit × DataW H → Nat
  | (.string bytes, d) => bytes.length + uptoBulk d + 1
  | (_, d) => uptoBulk d + 1
 end
def uptoSmall : (H : Type) → List (DataW H) → Bool := fun _ ds => decide (uptoBulkAll ds ≤ 1048576)
def OpenSpec.upto (s : _root_.Go.ChangeSpec) : _root_.Go.OpenSpec := { _root_.Go.OpenSpec.ofChange s with cond := some uptoSmall }

/-- 'laws.FnExactValidString', WHERE WHAT IT READS IS OF BULK AT MOST 1048576: true; the input reads as it did. -/
def fnExactValidStringUptoRow : OpenClaim := { program := "ytbkcelhhnmdmfaa", sum := "5c64db396be44ae8b95b9c16512e9ff24d9109c669bf9509428b1c99f0c2385c", func := "loop.example/g01061/laws.FnExactValidString", spec := "fnExactValidString", plainKeys := false, apart := false, narrowed := true }
def FnExactValidStringUptoSaid : Prop := fnExactValidStringUptoRow.holds Try.pinned (OpenSpec.upto fnExactValidStringSpec)

/-- 'laws.FnExactCodeName', WHERE WHAT IT READS IS OF BULK AT MOST 1048576: true; the input reads as it did. -/
def fnExactCodeNameUptoRow : OpenClaim := { program := "ytbkcelhhnmdmfaa", sum := "5c64db396be44ae8b95b9c16512e9ff24d9109c669bf9509428b1c99f0c2385c", func := "loop.example/g01061/laws.FnExactCodeName", spec := "fnExactCodeName", plainKeys := false, apart := false, narrowed := true }
def FnExactCodeNameUptoSaid : Prop := fnExactCodeNameUptoRow.holds Try.pinned (OpenSpec.upto fnExactCodeNameSpec)

/-- 'laws.FnExactValidNeck', WHERE WHAT IT READS IS OF BULK AT MOST 1048576: true; the input reads as it did. -/
def fnExactValidNeckUptoRow : OpenClaim := { program := "ytbkcelhhnmdmfaa", sum := "5c64db396be44ae8b95b9c16512e9ff24d9109c669bf9509428b1c99f0c2385c", func := "loop.example/g01061/laws.FnExactValidNeck", spec := "fnExactValidNeck", plainKeys := false, apart := false, narrowed := true }
def FnExactValidNeckUptoSaid : Prop := fnExactValidNeckUptoRow.holds Try.pinned (OpenSpec.upto fnExactValidNeckSpec)

/-- 'laws.FnExactPostRing', WHERE WHAT IT READS IS OF BULK AT MOST 1048576: true; the input reads as it did. -/
def fnExactPostRingUptoRow : OpenClaim := { program := "ytbkcelhhnmdmfaa", sum := "5c64db396be44ae8b95b9c16512e9ff24d9109c669bf9509428b1c99f0c2385c", func := "loop.example/g01061/laws.FnExactPostRing", spec := "fnExactPostRing", plainKeys := false, apart := false, narrowed := true }
def FnExactPostRingUptoSaid : Prop := fnExactPostRingUptoRow.holds Try.pinned (OpenSpec.upto fnExactPostRingSpec)

/-- 'laws.FnExactScaleOf', WHERE WHAT IT READS IS OF BULK AT MOST 1048576: true; the input reads as it did. -/
def fnExactScaleOfUptoRow : OpenClaim := { program := "ytbkcelhhnmdmfaa", sum := "5c64db396be44ae8b95b9c16512e9ff24d9109c669bf9509428b1c99f0c2385c", func := "loop.example/g01061/laws.FnExactScaleOf", spec := "fnExactScaleOf", plainKeys := false, apart := false, narrowed := true }
def FnExactScaleOfUptoSaid : Prop := fnExactScaleOfUptoRow.holds Try.pinned (OpenSpec.upto fnExactScaleOfSpec)

/-- 'laws.FnExactAfterLength', WHERE WHAT IT READS IS OF BULK AT MOST 1048576: true; the input reads as it did. -/
def fnExactAfterLengthUptoRow : OpenClaim := { program := "ytbkcelhhnmdmfaa", sum := "5c64db396be44ae8b95b9c16512e9ff24d9109c669bf9509428b1c99f0c2385c", func := "loop.example/g01061/laws.FnExactAfterLength", spec := "fnExactAfterLength", plainKeys := false, apart := false, narrowed := true }
def FnExactAfterLengthUptoSaid : Prop := fnExactAfterLengthUptoRow.holds Try.pinned (OpenSpec.upto fnExactAfterLengthSpec)

/-- 'laws.FnArching', WHERE WHAT IT READS IS OF BULK AT MOST 1048576: true; the input reads as it did. -/
def fnArchingUptoRow : OpenClaim := { program := "ytbkcelhhnmdmfaa", sum := "5c64db396be44ae8b95b9c16512e9ff24d9109c669bf9509428b1c99f0c2385c", func := "loop.example/g01061/laws.FnArching", spec := "fnArching", unfollowed := true, recurses := true, plainKeys := false, apart := false, narrowed := true }
def FnArchingUptoSaid : Prop := fnArchingUptoRow.holds Try.pinned (OpenSpec.upto fnArchingSpec)

/-- 'laws.FnExactHitsOf', WHERE WHAT IT READS IS OF BULK AT MOST 1048576: true; the input reads as it did. -/
def fnExactHitsOfUptoRow : OpenClaim := { program := "ytbkcelhhnmdmfaa", sum := "5c64db396be44ae8b95b9c16512e9ff24d9109c669bf9509428b1c99f0c2385c", func := "loop.example/g01061/laws.FnExactHitsOf", spec := "fnExactHitsOf", plainKeys := false, apart := false, narrowed := true }
def FnExactHitsOfUptoSaid : Prop := fnExactHitsOfUptoRow.holds Try.pinned (OpenSpec.upto fnExactHitsOfSpec)

/-- 'laws.FnExactStopFor', WHERE WHAT IT READS IS OF BULK AT MOST 1048576: true; the input reads as it did. -/
def fnExactStopForUptoRow : OpenClaim := { program := "ytbkcelhhnmdmfaa", sum := "5c64db396be44ae8b95b9c16512e9ff24d9109c669bf9509428b1c99f0c2385c", func := "loop.example/g01061/laws.FnExactStopFor", spec := "fnExactStopFor", plainKeys := false, apart := false, narrowed := true }
def FnExactStopForUptoSaid : Prop := fnExactStopForUptoRow.holds Try.pinned (OpenSpec.upto fnExactStopForSpec)

/-- 'laws.FnExactValidExperts', WHERE WHAT IT READS IS OF BULK AT MOST 1048576: true; the input reads as it did. -/
def fnExactValidExpertsUptoRow : OpenClaim := { program := "ytbkcelhhnmdmfaa", sum := "5c64db396be44ae8b95b9c16512e9ff24d9109c669bf9509428b1c99f0c2385c", func := "loop.example/g01061/laws.FnExactValidExperts", spec := "fnExactValidExperts", plainKeys := false, apart := false, narrowed := true }
def FnExactValidExpertsUptoSaid : Prop := fnExactValidExpertsUptoRow.holds Try.pinned (OpenSpec.upto fnExactValidExpertsSpec)

/-- 'laws.FnExactPostLength', WHERE WHAT IT READS IS OF BULK AT MOST 1048576: true; the input reads as it did. -/
def fnExactPostLengthUptoRow : OpenClaim := { program := "ytbkcelhhnmdmfaa", sum := "5c64db396be44ae8b95b9c16512e9ff24d9109c669bf9509428b1c99f0c2385c", func := "loop.example/g01061/laws.FnExactPostLength", spec := "fnExactPostLength", plainKeys := false, apart := false, narrowed := true }
def FnExactPostLengthUptoSaid : Prop := fnExactPostLengthUptoRow.holds Try.pinned (OpenSpec.upto fnExactPostLengthSpec)

/-- 'laws.FnExactStopRatio', WHERE WHAT IT READS IS OF BULK AT MOST 1048576: true; the input reads as it did. -/
def fnExactStopRatioUptoRow : OpenClaim := { program := "ytbkcelhhnmdmfaa", sum := "5c64db396be44ae8b95b9c16512e9ff24d9109c669bf9509428b1c99f0c2385c", func := "loop.example/g01061/laws.FnExactStopRatio", spec := "fnExactStopRatio", plainKeys := false, apart := false, narrowed := true }
def FnExactStopRatioUptoSaid : Prop := fnExactStopRatioUptoRow.holds Try.pinned (OpenSpec.upto fnExactStopRatioSpec)

end Rows
end Go.Proofs.Ytbkcelhhnmdmfaa
