/-
  DERIVED. GIVEN WITH THE SEED: THE CARDS: each row of YtpklckpnhjhnhaaDoorRows.lean that lists a variable, with what it lists TIED to the program's text (the seventh form; the later family's looks); each row that meets fmt, with fmt's text TOLD by the authors' own Lean function (tested against real Go, not proved from fmt's source: count such statements apart). THE CARD IS WHAT COUNTS. Prove the row's statement (the work); the ties are given (YtpklckpnhjhnhaaDoorTie.lean); close each card by the builder's one call (the guide's Derived/Test/ToyasCard.lean, 'card_holds'). Laid BY PROGRAM, IN A SANDBOX (cutbox-door.mjs). By AI agents, Wed Nov 11 2026. No macro, syntax, notation, axiom, sorry.
-/
import Derived.Test.YtpklckpnhjhnhaaDoorRows
import GoSem.ClaimSeven
namespace Go.Proofs.YtpklckpnhjhnhaaDoor
namespace Rows

/-- THE TIED CARD OF 'laws.FnStrings'. -/
def fnStringsCard : Claim7 := { stood := { row := fnStringsRow, standIns := [], harness := (true, "3113e636914b5ee0e18a025aa45ab23ef71d679e2348896199a0085c3278dd07"), looks := true }, kinds := [], alts := [], laidByText := true, laidKinds := [.data, .data, .data, .data, .sentinel, .sentinel, .pinned], laidTests := true, laidLooks := .later }
def FnStringsCardSaid : Prop := Claim7.holds Tryd.pinned (.plain (OpenSpec.ofChange fnStringsSpec)) fnStringsCard

/-- THE TIED CARD OF 'laws.FnExactReadString'. -/
def fnExactReadStringCard : Claim7 := { stood := { row := fnExactReadStringRow, standIns := [], harness := (true, "3113e636914b5ee0e18a025aa45ab23ef71d679e2348896199a0085c3278dd07"), looks := true }, kinds := [], alts := [], laidByText := true, laidKinds := [.data, .data, .data, .data, .sentinel, .sentinel, .pinned], laidTests := true, laidLooks := .later }
def FnExactReadStringCardSaid : Prop := Claim7.holds Tryd.pinned (.plain (OpenSpec.ofChange fnExactReadStringSpec)) fnExactReadStringCard

/-- THE TIED CARD OF 'laws.FnExactReadNeck'. -/
def fnExactReadNeckCard : Claim7 := { stood := { row := fnExactReadNeckRow, standIns := [], harness := (true, "3113e636914b5ee0e18a025aa45ab23ef71d679e2348896199a0085c3278dd07"), looks := true }, kinds := [], alts := [], laidByText := true, laidKinds := [.data, .data, .data, .data, .sentinel, .sentinel, .pinned], laidTests := true, laidLooks := .later }
def FnExactReadNeckCardSaid : Prop := Claim7.holds Tryd.pinned (.plain (OpenSpec.ofChange fnExactReadNeckSpec)) fnExactReadNeckCard

/-- THE TIED CARD OF 'laws.FnExactReadPlate'. -/
def fnExactReadPlateCard : Claim7 := { stood := { row := fnExactReadPlateRow, standIns := [], harness := (true, "3113e636914b5ee0e18a025aa45ab23ef71d679e2348896199a0085c3278dd07"), looks := true }, kinds := [], alts := [], laidByText := true, laidKinds := [.data, .data, .data, .data, .sentinel, .sentinel, .pinned], laidTests := true, laidLooks := .later }
def FnExactReadPlateCardSaid : Prop := Claim7.holds Tryd.pinned (.plain (OpenSpec.ofChange fnExactReadPlateSpec)) fnExactReadPlateCard

/-- THE SECOND FORM's CARD OF 'laws.FnStrings'. -/
def fnStringsUptoCard : Claim7 := { stood := { row := fnStringsUptoRow, standIns := [], harness := (true, "3113e636914b5ee0e18a025aa45ab23ef71d679e2348896199a0085c3278dd07"), looks := true }, kinds := [], alts := [], laidByText := true, laidKinds := [.data, .data, .data, .data, .sentinel, .sentinel, .pinned], laidTests := true, laidLooks := .later }
def FnStringsUptoCardSaid : Prop := Claim7.holds Tryd.pinned (.plain (OpenSpec.upto fnStringsSpec)) fnStringsUptoCard

/-- THE SECOND FORM's CARD OF 'laws.FnExactReadString'. -/
def fnExactReadStringUptoCard : Claim7 := { stood := { row := fnExactReadStringUptoRow, standIns := [], harness := (true, "3113e636914b5ee0e18a025aa45ab23ef71d679e2348896199a0085c3278dd07"), looks := true }, kinds := [], alts := [], laidByText := true, laidKinds := [.data, .data, .data, .data, .sentinel, .sentinel, .pinned], laidTests := true, laidLooks := .later }
def FnExactReadStringUptoCardSaid : Prop := Claim7.holds Tryd.pinned (.plain (OpenSpec.upto fnExactReadStringSpec)) fnExactReadStringUptoCard

/-- THE SECOND FORM's CARD OF 'laws.FnExactReadNeck'. -/
def fnExactReadNeckUptoCard : Claim7 := { stood := { row := fnExactReadNeckUptoRow, standIns := [], harness := (true, "3113e636914b5ee0e18a025aa45ab23ef71d679e2348896199a0085c3278dd07"), looks := true }, kinds := [], alts := [], laidByText := true, laidKinds := [.data, .data, .data, .data, .sentinel, .sentinel, .pinned], laidTests := true, laidLooks := .later }
def FnExactReadNeckUptoCardSaid : Prop := Claim7.holds Tryd.pinned (.plain (OpenSpec.upto fnExactReadNeckSpec)) fnExactReadNeckUptoCard

/-- THE SECOND FORM's CARD OF 'laws.FnExactReadPlate'. -/
def fnExactReadPlateUptoCard : Claim7 := { stood := { row := fnExactReadPlateUptoRow, standIns := [], harness := (true, "3113e636914b5ee0e18a025aa45ab23ef71d679e2348896199a0085c3278dd07"), looks := true }, kinds := [], alts := [], laidByText := true, laidKinds := [.data, .data, .data, .data, .sentinel, .sentinel, .pinned], laidTests := true, laidLooks := .later }
def FnExactReadPlateUptoCardSaid : Prop := Claim7.holds Tryd.pinned (.plain (OpenSpec.upto fnExactReadPlateSpec)) fnExactReadPlateUptoCard
end Rows
end Go.Proofs.YtpklckpnhjhnhaaDoor
