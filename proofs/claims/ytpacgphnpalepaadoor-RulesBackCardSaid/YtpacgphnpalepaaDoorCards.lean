/-
  DERIVED. GIVEN WITH THE SEED: THE CARDS: each row of YtpacgphnpalepaaDoorRows.lean that lists a variable, with what it lists TIED to the program's text (the seventh form; the later family's looks); each row that meets fmt, with fmt's text TOLD by the authors' own Lean function (tested against real Go, not proved from fmt's source: count such statements apart). THE CARD IS WHAT COUNTS. Prove the row's statement (the work); the ties are given (YtpacgphnpalepaaDoorTie.lean); close each card by the builder's one call (the guide's Derived/Test/ToyasCard.lean, 'card_holds'). Laid BY PROGRAM, IN A SANDBOX (cutbox-door.mjs). By AI agents, Wed Nov 11 2026. No macro, syntax, notation, axiom, sorry.
-/
import Derived.Test.YtpacgphnpalepaaDoorRows
import GoSem.ClaimSeven
namespace Go.Proofs.YtpacgphnpalepaaDoor
namespace Rows

/-- THE TIED CARD OF 'soundservicelaw29.RulesFormats'. -/
def rulesFormatsCard : Claim7 := { stood := { row := rulesFormatsRow, standIns := [], harness := (true, "6111f5c256a4b490dd374afc4d9eed02f8f2d3fe1ddc31aea505206677a0cb26"), looks := true }, kinds := [], alts := [], laidByText := true, laidKinds := [.data, .data, .data], laidTests := true, laidLooks := .later }
def RulesFormatsCardSaid : Prop := Claim7.holds Tryd.pinned (.plain (OpenSpec.ofChange rulesFormatsSpec)) rulesFormatsCard

/-- THE TIED CARD OF 'soundservicelaw29.RulesBack'. -/
def rulesBackCard : Claim7 := { stood := { row := rulesBackRow, standIns := [], harness := (true, "6111f5c256a4b490dd374afc4d9eed02f8f2d3fe1ddc31aea505206677a0cb26"), looks := true }, kinds := [], alts := [], laidByText := true, laidKinds := [.data, .data, .data], laidTests := true, laidLooks := .later }
def RulesBackCardSaid : Prop := Claim7.holds Tryd.pinned (.plain (OpenSpec.ofChange rulesBackSpec)) rulesBackCard

/-- THE SECOND FORM's CARD OF 'soundservicelaw29.RulesFormats'. -/
def rulesFormatsUptoCard : Claim7 := { stood := { row := rulesFormatsUptoRow, standIns := [], harness := (true, "6111f5c256a4b490dd374afc4d9eed02f8f2d3fe1ddc31aea505206677a0cb26"), looks := true }, kinds := [], alts := [], laidByText := true, laidKinds := [.data, .data, .data], laidTests := true, laidLooks := .later }
def RulesFormatsUptoCardSaid : Prop := Claim7.holds Tryd.pinned (.plain (OpenSpec.upto rulesFormatsSpec)) rulesFormatsUptoCard

/-- THE SECOND FORM's CARD OF 'soundservicelaw29.RulesBack'. -/
def rulesBackUptoCard : Claim7 := { stood := { row := rulesBackUptoRow, standIns := [], harness := (true, "6111f5c256a4b490dd374afc4d9eed02f8f2d3fe1ddc31aea505206677a0cb26"), looks := true }, kinds := [], alts := [], laidByText := true, laidKinds := [.data, .data, .data], laidTests := true, laidLooks := .later }
def RulesBackUptoCardSaid : Prop := Claim7.holds Tryd.pinned (.plain (OpenSpec.upto rulesBackSpec)) rulesBackUptoCard
end Rows
end Go.Proofs.YtpacgphnpalepaaDoor
