/-
  DERIVED. GIVEN WITH THE SEED: THE CARDS: each row of YthogjnckkmfhnaaDoorRows.lean that lists a variable, with what it lists TIED to the program's text (the seventh form; the later family's looks); each row that meets fmt, with fmt's text TOLD by the authors' own Lean function (tested against real Go, not proved from fmt's source: count such statements apart). THE CARD IS WHAT COUNTS. Prove the row's statement (the work); the ties are given (YthogjnckkmfhnaaDoorTie.lean); close each card by the builder's one call (the guide's Derived/Test/ToyasCard.lean, 'card_holds'). Laid BY PROGRAM, IN A SANDBOX (cutbox-door.mjs). By AI agents, Wed Nov 11 2026. No macro, syntax, notation, axiom, sorry.
-/
import Derived.Test.YthogjnckkmfhnaaDoorRows
import GoSem.ClaimSeven
namespace Go.Proofs.YthogjnckkmfhnaaDoor
namespace Rows

/-- THE TIED CARD OF 'soundservicelaw35.ProtocolAnswers'. -/
def protocolAnswersCard : Claim7 := { stood := { row := protocolAnswersRow, standIns := [], harness := (true, "cb2086473fe4913654bd1eae4072724d65ef86cd3eb37708800d75152588218c"), looks := false }, kinds := [], alts := [], laidByText := true, laidKinds := [.data, .data, .data], laidTests := true, laidLooks := .later }
def ProtocolAnswersCardSaid : Prop := Claim7.holds Tryd.pinned (.plain (OpenSpec.ofChange protocolAnswersSpec)) protocolAnswersCard

/-- THE TIED CARD OF 'soundservicelaw35.ProtocolFormats'. -/
def protocolFormatsCard : Claim7 := { stood := { row := protocolFormatsRow, standIns := [], harness := (true, "cb2086473fe4913654bd1eae4072724d65ef86cd3eb37708800d75152588218c"), looks := false }, kinds := [], alts := [], laidByText := true, laidKinds := [.data, .data, .data], laidTests := true, laidLooks := .later }
def ProtocolFormatsCardSaid : Prop := Claim7.holds Tryd.pinned (.plain (OpenSpec.ofChange protocolFormatsSpec)) protocolFormatsCard

/-- THE TIED CARD OF 'soundservicelaw35.ProtocolBack'. -/
def protocolBackCard : Claim7 := { stood := { row := protocolBackRow, standIns := [], harness := (true, "cb2086473fe4913654bd1eae4072724d65ef86cd3eb37708800d75152588218c"), looks := false }, kinds := [], alts := [], laidByText := true, laidKinds := [.data, .data, .data], laidTests := true, laidLooks := .later }
def ProtocolBackCardSaid : Prop := Claim7.holds Tryd.pinned (.plain (OpenSpec.ofChange protocolBackSpec)) protocolBackCard

/-- THE SECOND FORM's CARD OF 'soundservicelaw35.ProtocolAnswers'. -/
def protocolAnswersUptoCard : Claim7 := { stood := { row := protocolAnswersUptoRow, standIns := [], harness := (true, "cb2086473fe4913654bd1eae4072724d65ef86cd3eb37708800d75152588218c"), looks := false }, kinds := [], alts := [], laidByText := true, laidKinds := [.data, .data, .data], laidTests := true, laidLooks := .later }
def ProtocolAnswersUptoCardSaid : Prop := Claim7.holds Tryd.pinned (.plain (OpenSpec.upto protocolAnswersSpec)) protocolAnswersUptoCard

/-- THE SECOND FORM's CARD OF 'soundservicelaw35.ProtocolFormats'. -/
def protocolFormatsUptoCard : Claim7 := { stood := { row := protocolFormatsUptoRow, standIns := [], harness := (true, "cb2086473fe4913654bd1eae4072724d65ef86cd3eb37708800d75152588218c"), looks := false }, kinds := [], alts := [], laidByText := true, laidKinds := [.data, .data, .data], laidTests := true, laidLooks := .later }
def ProtocolFormatsUptoCardSaid : Prop := Claim7.holds Tryd.pinned (.plain (OpenSpec.upto protocolFormatsSpec)) protocolFormatsUptoCard

/-- THE SECOND FORM's CARD OF 'soundservicelaw35.ProtocolBack'. -/
def protocolBackUptoCard : Claim7 := { stood := { row := protocolBackUptoRow, standIns := [], harness := (true, "cb2086473fe4913654bd1eae4072724d65ef86cd3eb37708800d75152588218c"), looks := false }, kinds := [], alts := [], laidByText := true, laidKinds := [.data, .data, .data], laidTests := true, laidLooks := .later }
def ProtocolBackUptoCardSaid : Prop := Claim7.holds Tryd.pinned (.plain (OpenSpec.upto protocolBackSpec)) protocolBackUptoCard
end Rows
end Go.Proofs.YthogjnckkmfhnaaDoor
