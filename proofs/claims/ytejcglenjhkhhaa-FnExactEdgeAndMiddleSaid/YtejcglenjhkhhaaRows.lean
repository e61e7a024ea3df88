/-
  No cell of these rows narrows 'for every input' (looked for: loops, veiled, ifaces, maps, wideKeys, modest, calm, conditions, laid).
  DERIVED. THE GIVEN ROWS OF THIS SEAT. 12 by the template 'for every input the law returns true; each argument reads behind the call as it read before'; 0 by the template 'total and deterministic' (their statements: YtejcglenjhkhhaaTotals.lean).
  GIVEN WITH THE SEED: the statements are not yours to turn. If you find one false, say at which input.
  Laid BY PROGRAM, IN A SANDBOX (cutbox-rows.mjs): the forced cells as the released guide's own fill.sh prints them over the translation a73835ac12074f4a… (all of the seat's roots in one cut). By AI agents, Wed Nov 11 2026. No macro, syntax, notation, axiom, sorry.
-/
import Derived.Test.YtejcglenjhkhhaaChecked
import GoSem.Claim
import GoSem.ClaimJoined
import GoSem.ClaimMapViews
import Derived.JoinedTies
import Derived.KernelRfl
namespace Go.Proofs.Ytejcglenjhkhhaa
/- THE CELL 'sum', in the pinned program and in every row, IS THE sha256 OF THE DUMP (.gsa) THAT YtejcglenjhkhhaaProg.lean LOADS. Nothing in Lean hashes anything: it is a label: what it is worth is what the hold of that sum in a sandbox is worth. -/
noncomputable def Try.pinned : Pinned := { name := "ytejcglenjhkhhaa", sum := "a73835ac12074f4aaf1014c45f83699962ff724286333381a63e3ddcd61d3143", checked := Try.checked }
namespace Rows
def none {H : Type} : Left H := { results := [], args := [] }

/-- 'laws.FnExactBestPost': WHATEVER THE INPUT: true; the input reads as it did. -/
def fnExactBestPostSpec : ChangeSpec := { name := "fnExactBestPost", fn := fun _ => fun
  | [d] => { results := [.lit (.bool true)], args := [d] }
  | _ => none }
def fnExactBestPostRow : OpenClaim := { program := "ytejcglenjhkhhaa", sum := "a73835ac12074f4aaf1014c45f83699962ff724286333381a63e3ddcd61d3143", func := "loop.example/g01061/laws.FnExactBestPost", spec := "fnExactBestPost", apart := false }
def FnExactBestPostSaid : Prop := fnExactBestPostRow.holds Try.pinned (OpenSpec.ofChange fnExactBestPostSpec)

/-- ITS FALSE NEIGHBOUR: 'it returns false'. Refute it at one input. -/
def fnExactBestPostWrong : ChangeSpec := { name := "fnExactBestPost", fn := fun _ => fun
  | [d] => { results := [.lit (.bool false)], args := [d] }
  | _ => none }
def FnExactBestPostWrongFalsely : Prop := fnExactBestPostRow.holds Try.pinned (OpenSpec.ofChange fnExactBestPostWrong)

/-- 'laws.FnExactGradedPlate': WHATEVER THE INPUT: true; the input reads as it did. -/
def fnExactGradedPlateSpec : ChangeSpec := { name := "fnExactGradedPlate", fn := fun _ => fun
  | [d1, d2, d3, d4] => { results := [.lit (.bool true)], args := [d1, d2, d3, d4] }
  | _ => none }
def fnExactGradedPlateRow : OpenClaim := { program := "ytejcglenjhkhhaa", sum := "a73835ac12074f4aaf1014c45f83699962ff724286333381a63e3ddcd61d3143", func := "loop.example/g01061/laws.FnExactGradedPlate", spec := "fnExactGradedPlate", apart := false }
def FnExactGradedPlateSaid : Prop := fnExactGradedPlateRow.holds Try.pinned (OpenSpec.ofChange fnExactGradedPlateSpec)

/-- ITS FALSE NEIGHBOUR: 'it returns false'. Refute it at one input. -/
def fnExactGradedPlateWrong : ChangeSpec := { name := "fnExactGradedPlate", fn := fun _ => fun
  | [d1, d2, d3, d4] => { results := [.lit (.bool false)], args := [d1, d2, d3, d4] }
  | _ => none }
def FnExactGradedPlateWrongFalsely : Prop := fnExactGradedPlateRow.holds Try.pinned (OpenSpec.ofChange fnExactGradedPlateWrong)

/-- 'laws.FnExactRowStiff': WHATEVER THE INPUT: true; the input reads as it did. -/
def fnExactRowStiffSpec : ChangeSpec := { name := "fnExactRowStiff", fn := fun _ => fun
  | [d] => { results := [.lit (.bool true)], args := [d] }
  | _ => none }
def fnExactRowStiffRow : OpenClaim := { program := "ytejcglenjhkhhaa", sum := "a73835ac12074f4aaf1014c45f83699962ff724286333381a63e3ddcd61d3143", func := "loop.example/g01061/laws.FnExactRowStiff", spec := "fnExactRowStiff", apart := false }
def FnExactRowStiffSaid : Prop := fnExactRowStiffRow.holds Try.pinned (OpenSpec.ofChange fnExactRowStiffSpec)

/-- ITS FALSE NEIGHBOUR: 'it returns false'. Refute it at one input. -/
def fnExactRowStiffWrong : ChangeSpec := { name := "fnExactRowStiff", fn := fun _ => fun
  | [d] => { results := [.lit (.bool false)], args := [d] }
  | _ => none }
def FnExactRowStiffWrongFalsely : Prop := fnExactRowStiffRow.holds Try.pinned (OpenSpec.ofChange fnExactRowStiffWrong)

/-- 'laws.FnExactEvenPlate': WHATEVER THE INPUT: true; the input reads as it did. -/
def fnExactEvenPlateSpec : ChangeSpec := { name := "fnExactEvenPlate", fn := fun _ => fun
  | [d1, d2] => { results := [.lit (.bool true)], args := [d1, d2] }
  | _ => none }
def fnExactEvenPlateRow : OpenClaim := { program := "ytejcglenjhkhhaa", sum := "a73835ac12074f4aaf1014c45f83699962ff724286333381a63e3ddcd61d3143", func := "loop.example/g01061/laws.FnExactEvenPlate", spec := "fnExactEvenPlate", apart := false }
def FnExactEvenPlateSaid : Prop := fnExactEvenPlateRow.holds Try.pinned (OpenSpec.ofChange fnExactEvenPlateSpec)

/-- ITS FALSE NEIGHBOUR: 'it returns false'. Refute it at one input. -/
def fnExactEvenPlateWrong : ChangeSpec := { name := "fnExactEvenPlate", fn := fun _ => fun
  | [d1, d2] => { results := [.lit (.bool false)], args := [d1, d2] }
  | _ => none }
def FnExactEvenPlateWrongFalsely : Prop := fnExactEvenPlateRow.holds Try.pinned (OpenSpec.ofChange fnExactEvenPlateWrong)

/-- 'laws.FnExactPlateMass': WHATEVER THE INPUT: true; the input reads as it did. -/
def fnExactPlateMassSpec : ChangeSpec := { name := "fnExactPlateMass", fn := fun _ => fun
  | [d1, d2, d3] => { results := [.lit (.bool true)], args := [d1, d2, d3] }
  | _ => none }
def fnExactPlateMassRow : OpenClaim := { program := "ytejcglenjhkhhaa", sum := "a73835ac12074f4aaf1014c45f83699962ff724286333381a63e3ddcd61d3143", func := "loop.example/g01061/laws.FnExactPlateMass", spec := "fnExactPlateMass", apart := false }
def FnExactPlateMassSaid : Prop := fnExactPlateMassRow.holds Try.pinned (OpenSpec.ofChange fnExactPlateMassSpec)

/-- ITS FALSE NEIGHBOUR: 'it returns false'. Refute it at one input. -/
def fnExactPlateMassWrong : ChangeSpec := { name := "fnExactPlateMass", fn := fun _ => fun
  | [d1, d2, d3] => { results := [.lit (.bool false)], args := [d1, d2, d3] }
  | _ => none }
def FnExactPlateMassWrongFalsely : Prop := fnExactPlateMassRow.holds Try.pinned (OpenSpec.ofChange fnExactPlateMassWrong)

/-- 'laws.FnExactTooThin': WHATEVER THE INPUT: true; the input reads as it did. -/
def fnExactTooThinSpec : ChangeSpec := { name := "fnExactTooThin", fn := fun _ => fun
  | [d1, d2] => { results := [.lit (.bool true)], args := [d1, d2] }
  | _ => none }
def fnExactTooThinRow : OpenClaim := { program := "ytejcglenjhkhhaa", sum := "a73835ac12074f4aaf1014c45f83699962ff724286333381a63e3ddcd61d3143", func := "loop.example/g01061/laws.FnExactTooThin", spec := "fnExactTooThin", unfollowed := true, recurses := true, apart := false }
def FnExactTooThinSaid : Prop := fnExactTooThinRow.holds Try.pinned (OpenSpec.ofChange fnExactTooThinSpec)

/-- ITS FALSE NEIGHBOUR: 'it returns false'. Refute it at one input. -/
def fnExactTooThinWrong : ChangeSpec := { name := "fnExactTooThin", fn := fun _ => fun
  | [d1, d2] => { results := [.lit (.bool false)], args := [d1, d2] }
  | _ => none }
def FnExactTooThinWrongFalsely : Prop := fnExactTooThinRow.holds Try.pinned (OpenSpec.ofChange fnExactTooThinWrong)

/-- 'laws.FnExactEdgeAndMiddle': WHATEVER THE INPUT: true; the input reads as it did. -/
def fnExactEdgeAndMiddleSpec : ChangeSpec := { name := "fnExactEdgeAndMiddle", fn := fun _ => fun
  | [d] => { results := [.lit (.bool true)], args := [d] }
  | _ => none }
def fnExactEdgeAndMiddleRow : OpenClaim := { program := "ytejcglenjhkhhaa", sum := "a73835ac12074f4aaf1014c45f83699962ff724286333381a63e3ddcd61d3143", func := "loop.example/g01061/laws.FnExactEdgeAndMiddle", spec := "fnExactEdgeAndMiddle", apart := false }
def FnExactEdgeAndMiddleSaid : Prop := fnExactEdgeAndMiddleRow.holds Try.pinned (OpenSpec.ofChange fnExactEdgeAndMiddleSpec)

/-- ITS FALSE NEIGHBOUR: 'it returns false'. Refute it at one input. -/
def fnExactEdgeAndMiddleWrong : ChangeSpec := { name := "fnExactEdgeAndMiddle", fn := fun _ => fun
  | [d] => { results := [.lit (.bool false)], args := [d] }
  | _ => none }
def FnExactEdgeAndMiddleWrongFalsely : Prop := fnExactEdgeAndMiddleRow.holds Try.pinned (OpenSpec.ofChange fnExactEdgeAndMiddleWrong)

/-- 'laws.FnExactBreakingStrings': WHATEVER THE INPUT: true; the input reads as it did. -/
def fnExactBreakingStringsSpec : ChangeSpec := { name := "fnExactBreakingStrings", fn := fun _ => fun
  | [d1, d2] => { results := [.lit (.bool true)], args := [d1, d2] }
  | _ => none }
def fnExactBreakingStringsRow : OpenClaim := { program := "ytejcglenjhkhhaa", sum := "a73835ac12074f4aaf1014c45f83699962ff724286333381a63e3ddcd61d3143", func := "loop.example/g01061/laws.FnExactBreakingStrings", spec := "fnExactBreakingStrings", apart := false }
def FnExactBreakingStringsSaid : Prop := fnExactBreakingStringsRow.holds Try.pinned (OpenSpec.ofChange fnExactBreakingStringsSpec)

/-- ITS FALSE NEIGHBOUR: 'it returns false'. Refute it at one input. -/
def fnExactBreakingStringsWrong : ChangeSpec := { name := "fnExactBreakingStrings", fn := fun _ => fun
  | [d1, d2] => { results := [.lit (.bool false)], args := [d1, d2] }
  | _ => none }
def FnExactBreakingStringsWrongFalsely : Prop := fnExactBreakingStringsRow.holds Try.pinned (OpenSpec.ofChange fnExactBreakingStringsWrong)

/-- 'laws.FnExactScrapeRow': WHATEVER THE INPUT: true; the input reads as it did. -/
def fnExactScrapeRowSpec : ChangeSpec := { name := "fnExactScrapeRow", fn := fun _ => fun
  | [d1, d2, d3, d4] => { results := [.lit (.bool true)], args := [d1, d2, d3, d4] }
  | _ => none }
def fnExactScrapeRowRow : OpenClaim := { program := "ytejcglenjhkhhaa", sum := "a73835ac12074f4aaf1014c45f83699962ff724286333381a63e3ddcd61d3143", func := "loop.example/g01061/laws.FnExactScrapeRow", spec := "fnExactScrapeRow", unfollowed := true, recurses := true, apart := false }
def FnExactScrapeRowSaid : Prop := fnExactScrapeRowRow.holds Try.pinned (OpenSpec.ofChange fnExactScrapeRowSpec)

/-- ITS FALSE NEIGHBOUR: 'it returns false'. Refute it at one input. -/
def fnExactScrapeRowWrong : ChangeSpec := { name := "fnExactScrapeRow", fn := fun _ => fun
  | [d1, d2, d3, d4] => { results := [.lit (.bool false)], args := [d1, d2, d3, d4] }
  | _ => none }
def FnExactScrapeRowWrongFalsely : Prop := fnExactScrapeRowRow.holds Try.pinned (OpenSpec.ofChange fnExactScrapeRowWrong)

/-- 'laws.FnExactSetNecks': WHATEVER THE INPUT: true; the input reads as it did. -/
def fnExactSetNecksSpec : ChangeSpec := { name := "fnExactSetNecks", fn := fun _ => fun
  | [d1, d2, d3] => { results := [.lit (.bool true)], args := [d1, d2, d3] }
  | _ => none }
def fnExactSetNecksRow : OpenClaim := { program := "ytejcglenjhkhhaa", sum := "a73835ac12074f4aaf1014c45f83699962ff724286333381a63e3ddcd61d3143", func := "loop.example/g01061/laws.FnExactSetNecks", spec := "fnExactSetNecks", apart := false }
def FnExactSetNecksSaid : Prop := fnExactSetNecksRow.holds Try.pinned (OpenSpec.ofChange fnExactSetNecksSpec)

/-- ITS FALSE NEIGHBOUR: 'it returns false'. Refute it at one input. -/
def fnExactSetNecksWrong : ChangeSpec := { name := "fnExactSetNecks", fn := fun _ => fun
  | [d1, d2, d3] => { results := [.lit (.bool false)], args := [d1, d2, d3] }
  | _ => none }
def FnExactSetNecksWrongFalsely : Prop := fnExactSetNecksRow.holds Try.pinned (OpenSpec.ofChange fnExactSetNecksWrong)

/-- 'laws.FnExactThinAll': WHATEVER THE INPUT: true; the input reads as it did. -/
def fnExactThinAllSpec : ChangeSpec := { name := "fnExactThinAll", fn := fun _ => fun
  | [d1, d2, d3] => { results := [.lit (.bool true)], args := [d1, d2, d3] }
  | _ => none }
def fnExactThinAllRow : OpenClaim := { program := "ytejcglenjhkhhaa", sum := "a73835ac12074f4aaf1014c45f83699962ff724286333381a63e3ddcd61d3143", func := "loop.example/g01061/laws.FnExactThinAll", spec := "fnExactThinAll", unfollowed := true, recurses := true, apart := false }
def FnExactThinAllSaid : Prop := fnExactThinAllRow.holds Try.pinned (OpenSpec.ofChange fnExactThinAllSpec)

/-- ITS FALSE NEIGHBOUR: 'it returns false'. Refute it at one input. -/
def fnExactThinAllWrong : ChangeSpec := { name := "fnExactThinAll", fn := fun _ => fun
  | [d1, d2, d3] => { results := [.lit (.bool false)], args := [d1, d2, d3] }
  | _ => none }
def FnExactThinAllWrongFalsely : Prop := fnExactThinAllRow.holds Try.pinned (OpenSpec.ofChange fnExactThinAllWrong)

/-- 'laws.FnExactPitsOf': WHATEVER THE INPUT: true; the input reads as it did. -/
def fnExactPitsOfSpec : ChangeSpec := { name := "fnExactPitsOf", fn := fun _ => fun
  | [d] => { results := [.lit (.bool true)], args := [d] }
  | _ => none }
def fnExactPitsOfRow : OpenClaim := { program := "ytejcglenjhkhhaa", sum := "a73835ac12074f4aaf1014c45f83699962ff724286333381a63e3ddcd61d3143", func := "loop.example/g01061/laws.FnExactPitsOf", spec := "fnExactPitsOf", apart := false }
def FnExactPitsOfSaid : Prop := fnExactPitsOfRow.holds Try.pinned (OpenSpec.ofChange fnExactPitsOfSpec)

/-- ITS FALSE NEIGHBOUR: 'it returns false'. Refute it at one input. -/
def fnExactPitsOfWrong : ChangeSpec := { name := "fnExactPitsOf", fn := fun _ => fun
  | [d] => { results := [.lit (.bool false)], args := [d] }
  | _ => none }
def FnExactPitsOfWrongFalsely : Prop := fnExactPitsOfRow.holds Try.pinned (OpenSpec.ofChange fnExactPitsOfWrong)

/- THE SECOND FORM. 'bulk': how many values and letters a reading holds, each counted each time it is reached (what is shared counts as often as it is met; a slice's spare places count too). A statement '..UptoSaid' is the law's where the arguments, and the package variables that the reading takes, are together of bulk at most 1048576: NARROWER than '..Said'. Prove '..Said' where nothing that the law and all that it calls make is longer than what came in: it says more and counts as full. Else prove '..UptoSaid'. A law counts once. -/
mutual
def uptoBulk {H : Type} : DataW H → Nat
  | .lit (.string bytes) => bytes.length + 1
  | .lit _ => 1
  | .nil => 1
  | .ptr d => uptoBulk d + 1
  | .slice elems spare => uptoBulkAll elems + uptoBulkAll spare + 1
  | .agg parts => uptoBulkAll parts + 1
  | .iface _ d => uptoBulk d + 1
  | .map entries => uptoBulkEntries entries + 1
  | .held _ => 1
def uptoBulkAll {H : Type} : List (DataW H) → Nat
  | [] => 0
  | d :: r => uptoBulk d + uptoBulkAll r
def uptoBulkEntries {H : Type} : List (Lit × DataW H) → Nat
  | [] => 0
  | x :: r => uptoBulkEntry x + uptoBulkEntries r
def uptoBulkEntry {H : Type} : Lit × DataW H → Nat
  | (.string bytes, d) => bytes.length + uptoBulk d + 1
  | (_, d) => uptoBulk d + 1
 end
def uptoSmall : (H : Type) → List (DataW H) → Bool := fun _ ds => decide (uptoBulkAll ds ≤ 1048576)
def OpenSpec.upto (s : _root_.Go.ChangeSpec) : _root_.Go.OpenSpec := { _root_.Go.OpenSpec.ofChange s with cond := some uptoSmall }

/-- 'laws.FnExactBestPost', WHERE WHAT IT READS IS OF BULK AT MOST 1048576: true; the input reads as it did. -/
def fnExactBestPostUptoRow : OpenClaim := { program := "ytejcglenjhkhhaa", sum := "a73835ac12074f4aaf1014c45f83699962ff724286333381a63e3ddcd61d3143", func := "loop.example/g01061/laws.FnExactBestPost", spec := "fnExactBestPost", apart := false, narrowed := true }
def FnExactBestPostUptoSaid : Prop := fnExactBestPostUptoRow.holds Try.pinned (OpenSpec.upto fnExactBestPostSpec)

/-- 'laws.FnExactGradedPlate', WHERE WHAT IT READS IS OF BULK AT MOST 1048576: true; the input reads as it did. -/
def fnExactGradedPlateUptoRow : OpenClaim := { program := "ytejcglenjhkhhaa", sum := "a73835ac12074f4aaf1014c45f83699962ff724286333381a63e3ddcd61d3143", func := "loop.example/g01061/laws.FnExactGradedPlate", spec := "fnExactGradedPlate", apart := false, narrowed := true }
def FnExactGradedPlateUptoSaid : Prop := fnExactGradedPlateUptoRow.holds Try.pinned (OpenSpec.upto fnExactGradedPlateSpec)

/-- 'laws.FnExactRowStiff', WHERE WHAT IT READS IS OF BULK AT MOST 1048576: true; the input reads as it did. -/
def fnExactRowStiffUptoRow : OpenClaim := { program := "ytejcglenjhkhhaa", sum := "a73835ac12074f4aaf1014c45f83699962ff724286333381a63e3ddcd61d3143", func := "loop.example/g01061/laws.FnExactRowStiff", spec := "fnExactRowStiff", apart := false, narrowed := true }
def FnExactRowStiffUptoSaid : Prop := fnExactRowStiffUptoRow.holds Try.pinned (OpenSpec.upto fnExactRowStiffSpec)

/-- 'laws.FnExactEvenPlate', WHERE WHAT IT READS IS OF BULK AT MOST 1048576: true; the input reads as it did. -/
def fnExactEvenPlateUptoRow : OpenClaim := { program := "ytejcglenjhkhhaa", sum := "a73835ac12074f4aaf1014c45f83699962ff724286333381a63e3ddcd61d3143", func := "loop.example/g01061/laws.FnExactEvenPlate", spec := "fnExactEvenPlate", apart := false, narrowed := true }
def FnExactEvenPlateUptoSaid : Prop := fnExactEvenPlateUptoRow.holds Try.pinned (OpenSpec.upto fnExactEvenPlateSpec)

/-- 'laws.FnExactPlateMass', WHERE WHAT IT READS IS OF BULK AT MOST 1048576: true; the input reads as it did. -/
def fnExactPlateMassUptoRow : OpenClaim := { program := "ytejcglenjhkhhaa", sum := "a73835ac12074f4aaf1014c45f83699962ff724286333381a63e3ddcd61d3143", func := "loop.example/g01061/laws.FnExactPlateMass", spec := "fnExactPlateMass", apart := false, narrowed := true }
def FnExactPlateMassUptoSaid : Prop := fnExactPlateMassUptoRow.holds Try.pinned (OpenSpec.upto fnExactPlateMassSpec)

/-- 'laws.FnExactTooThin', WHERE WHAT IT READS IS OF BULK AT MOST 1048576: true; the input reads as it did. -/
def fnExactTooThinUptoRow : OpenClaim := { program := "ytejcglenjhkhhaa", sum := "a73835ac12074f4aaf1014c45f83699962ff724286333381a63e3ddcd61d3143", func := "loop.example/g01061/laws.FnExactTooThin", spec := "fnExactTooThin", unfollowed := true, recurses := true, apart := false, narrowed := true }
def FnExactTooThinUptoSaid : Prop := fnExactTooThinUptoRow.holds Try.pinned (OpenSpec.upto fnExactTooThinSpec)

/-- 'laws.FnExactEdgeAndMiddle', WHERE WHAT IT READS IS OF BULK AT MOST 1048576: true; the input reads as it did. -/
def fnExactEdgeAndMiddleUptoRow : OpenClaim := { program := "ytejcglenjhkhhaa", sum := "a73835ac12074f4aaf1014c45f83699962ff724286333381a63e3ddcd61d3143", func := "loop.example/g01061/laws.FnExactEdgeAndMiddle", spec := "fnExactEdgeAndMiddle", apart := false, narrowed := true }
def FnExactEdgeAndMiddleUptoSaid : Prop := fnExactEdgeAndMiddleUptoRow.holds Try.pinned (OpenSpec.upto fnExactEdgeAndMiddleSpec)

/-- 'laws.FnExactBreakingStrings', WHERE WHAT IT READS IS OF BULK AT MOST 1048576: true; the input reads as it did. -/
def fnExactBreakingStringsUptoRow : OpenClaim := { program := "ytejcglenjhkhhaa", sum := "a73835ac12074f4aaf1014c45f83699962ff724286333381a63e3ddcd61d3143", func := "loop.example/g01061/laws.FnExactBreakingStrings", spec := "fnExactBreakingStrings", apart := false, narrowed := true }
def FnExactBreakingStringsUptoSaid : Prop := fnExactBreakingStringsUptoRow.holds Try.pinned (OpenSpec.upto fnExactBreakingStringsSpec)

/-- 'laws.FnExactScrapeRow', WHERE WHAT IT READS IS OF BULK AT MOST 1048576: true; the input reads as it did. -/
def fnExactScrapeRowUptoRow : OpenClaim := { program := "ytejcglenjhkhhaa", sum := "a73835ac12074f4aaf1014c45f83699962ff724286333381a63e3ddcd61d3143", func := "loop.example/g01061/laws.FnExactScrapeRow", spec := "fnExactScrapeRow", unfollowed := true, recurses := true, apart := false, narrowed := true }
def FnExactScrapeRowUptoSaid : Prop := fnExactScrapeRowUptoRow.holds Try.pinned (OpenSpec.upto fnExactScrapeRowSpec)

/-- 'laws.FnExactSetNecks', WHERE WHAT IT READS IS OF BULK AT MOST 1048576: true; the input reads as it did. -/
def fnExactSetNecksUptoRow : OpenClaim := { program := "ytejcglenjhkhhaa", sum := "a73835ac12074f4aaf1014c45f83699962ff724286333381a63e3ddcd61d3143", func := "loop.example/g01061/laws.FnExactSetNecks", spec := "fnExactSetNecks", apart := false, narrowed := true }
def FnExactSetNecksUptoSaid : Prop := fnExactSetNecksUptoRow.holds Try.pinned (OpenSpec.upto fnExactSetNecksSpec)

/-- 'laws.FnExactThinAll', WHERE WHAT IT READS IS OF BULK AT MOST 1048576: true; the input reads as it did. -/
def fnExactThinAllUptoRow : OpenClaim := { program := "ytejcglenjhkhhaa", sum := "a73835ac12074f4aaf1014c45f83699962ff724286333381a63e3ddcd61d3143", func := "loop.example/g01061/laws.FnExactThinAll", spec := "fnExactThinAll", unfollowed := true, recurses := true, apart := false, narrowed := true }
def FnExactThinAllUptoSaid : Prop := fnExactThinAllUptoRow.holds Try.pinned (OpenSpec.upto fnExactThinAllSpec)

/-- 'laws.FnExactPitsOf', WHERE WHAT IT READS IS OF BULK AT MOST 1048576: true; the input reads as it did. -/
def fnExactPitsOfUptoRow : OpenClaim := { program := "ytejcglenjhkhhaa", sum := "a73835ac12074f4aaf1014c45f83699962ff724286333381a63e3ddcd61d3143", func := "loop.example/g01061/laws.FnExactPitsOf", spec := "fnExactPitsOf", apart := false, narrowed := true }
def FnExactPitsOfUptoSaid : Prop := fnExactPitsOfUptoRow.holds Try.pinned (OpenSpec.upto fnExactPitsOfSpec)

end Rows
end Go.Proofs.Ytejcglenjhkhhaa
