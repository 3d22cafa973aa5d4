/-
  DERIVED. GIVEN WITH THE SEED: THE CARDS: each row of YtkicjckhkefnpaaDoorRows.lean that lists a variable, with what it lists TIED to the program's text (the seventh form; the later family's looks); each row that meets fmt, with fmt's text TOLD by the authors' own Lean function (tested against real Go, not proved from fmt's source: count such statements apart). THE CARD IS WHAT COUNTS. Prove the row's statement (the work); the ties are given (YtkicjckhkefnpaaDoorTie.lean); close each card by the builder's one call (the guide's Derived/Test/ToyasCard.lean, 'card_holds'). Laid BY PROGRAM, IN A SANDBOX (cutbox-door.mjs). By AI agents, Wed Nov 11 2026. No macro, syntax, notation, axiom, sorry.
-/
import Derived.Test.YtkicjckhkefnpaaDoorRows
import GoSem.ClaimSeven
namespace Go.Proofs.YtkicjckhkefnpaaDoor
namespace Rows

/-- THE TIED CARD OF 'sealringlaw.TreeLogs'. -/
def treeLogsCard : Claim7 := { stood := { row := treeLogsRow, standIns := [], harness := (true, "d6a5c89ecdde5cbae7ab4ce433feeb116fc925f51425c409dae3757cc25ed544"), looks := false }, kinds := [], alts := [], laidByText := true, laidKinds := [.data, .data], laidTests := true, laidLooks := .later }
def TreeLogsCardSaid : Prop := Claim7.holds Tryd.pinned (.plain (OpenSpec.ofChange treeLogsSpec)) treeLogsCard

/-- THE TIED CARD OF 'sealringlaw.TreeTells'. -/
def treeTellsCard : Claim7 := { stood := { row := treeTellsRow, standIns := [], harness := (true, "d6a5c89ecdde5cbae7ab4ce433feeb116fc925f51425c409dae3757cc25ed544"), looks := false }, kinds := [], alts := [], laidByText := true, laidKinds := [.data, .data], laidTests := true, laidLooks := .later }
def TreeTellsCardSaid : Prop := Claim7.holds Tryd.pinned (.plain (OpenSpec.ofChange treeTellsSpec)) treeTellsCard

/-- THE TIED CARD OF 'sealringlaw.PinRestores'. -/
def pinRestoresCard : Claim7 := { stood := { row := pinRestoresRow, standIns := [], harness := (true, "d6a5c89ecdde5cbae7ab4ce433feeb116fc925f51425c409dae3757cc25ed544"), looks := false }, kinds := [], alts := [], laidByText := true, laidKinds := [.data, .data], laidTests := true, laidLooks := .later }
def PinRestoresCardSaid : Prop := Claim7.holds Tryd.pinned (.plain (OpenSpec.ofChange pinRestoresSpec)) pinRestoresCard

/-- THE TIED CARD OF 'sealringlaw.PinPlays'. -/
def pinPlaysCard : Claim7 := { stood := { row := pinPlaysRow, standIns := [], harness := (true, "d6a5c89ecdde5cbae7ab4ce433feeb116fc925f51425c409dae3757cc25ed544"), looks := false }, kinds := [], alts := [], laidByText := true, laidKinds := [.data, .data], laidTests := true, laidLooks := .later }
def PinPlaysCardSaid : Prop := Claim7.holds Tryd.pinned (.plain (OpenSpec.ofChange pinPlaysSpec)) pinPlaysCard

/-- THE TIED CARD OF 'sealringlaw.TapeTells'. -/
def tapeTellsCard : Claim7 := { stood := { row := tapeTellsRow, standIns := [], harness := (true, "d6a5c89ecdde5cbae7ab4ce433feeb116fc925f51425c409dae3757cc25ed544"), looks := false }, kinds := [], alts := [], laidByText := true, laidKinds := [.data, .data], laidTests := true, laidLooks := .later }
def TapeTellsCardSaid : Prop := Claim7.holds Tryd.pinned (.plain (OpenSpec.ofChange tapeTellsSpec)) tapeTellsCard

/-- THE TIED CARD OF 'sealringlaw.DrawTells'. -/
def drawTellsCard : Claim7 := { stood := { row := drawTellsRow, standIns := [], harness := (true, "d6a5c89ecdde5cbae7ab4ce433feeb116fc925f51425c409dae3757cc25ed544"), looks := false }, kinds := [], alts := [], laidByText := true, laidKinds := [.data, .data], laidTests := true, laidLooks := .later }
def DrawTellsCardSaid : Prop := Claim7.holds Tryd.pinned (.plain (OpenSpec.ofChange drawTellsSpec)) drawTellsCard

/-- THE TIED CARD OF 'sealringlaw.ScalarTells'. -/
def scalarTellsCard : Claim7 := { stood := { row := scalarTellsRow, standIns := [], harness := (true, "d6a5c89ecdde5cbae7ab4ce433feeb116fc925f51425c409dae3757cc25ed544"), looks := false }, kinds := [], alts := [], laidByText := true, laidKinds := [.data, .data], laidTests := true, laidLooks := .later }
def ScalarTellsCardSaid : Prop := Claim7.holds Tryd.pinned (.plain (OpenSpec.ofChange scalarTellsSpec)) scalarTellsCard

/-- THE TIED CARD OF 'sealringlaw.ShareSplits'. -/
def shareSplitsCard : Claim7 := { stood := { row := shareSplitsRow, standIns := [], harness := (true, "d6a5c89ecdde5cbae7ab4ce433feeb116fc925f51425c409dae3757cc25ed544"), looks := false }, kinds := [], alts := [], laidByText := true, laidKinds := [.data, .data], laidTests := true, laidLooks := .later }
def ShareSplitsCardSaid : Prop := Claim7.holds Tryd.pinned (.plain (OpenSpec.ofChange shareSplitsSpec)) shareSplitsCard

/-- THE SECOND FORM's CARD OF 'sealringlaw.TreeLogs'. -/
def treeLogsUptoCard : Claim7 := { stood := { row := treeLogsUptoRow, standIns := [], harness := (true, "d6a5c89ecdde5cbae7ab4ce433feeb116fc925f51425c409dae3757cc25ed544"), looks := false }, kinds := [], alts := [], laidByText := true, laidKinds := [.data, .data], laidTests := true, laidLooks := .later }
def TreeLogsUptoCardSaid : Prop := Claim7.holds Tryd.pinned (.plain (OpenSpec.upto treeLogsSpec)) treeLogsUptoCard

/-- THE SECOND FORM's CARD OF 'sealringlaw.TreeTells'. -/
def treeTellsUptoCard : Claim7 := { stood := { row := treeTellsUptoRow, standIns := [], harness := (true, "d6a5c89ecdde5cbae7ab4ce433feeb116fc925f51425c409dae3757cc25ed544"), looks := false }, kinds := [], alts := [], laidByText := true, laidKinds := [.data, .data], laidTests := true, laidLooks := .later }
def TreeTellsUptoCardSaid : Prop := Claim7.holds Tryd.pinned (.plain (OpenSpec.upto treeTellsSpec)) treeTellsUptoCard

/-- THE SECOND FORM's CARD OF 'sealringlaw.PinRestores'. -/
def pinRestoresUptoCard : Claim7 := { stood := { row := pinRestoresUptoRow, standIns := [], harness := (true, "d6a5c89ecdde5cbae7ab4ce433feeb116fc925f51425c409dae3757cc25ed544"), looks := false }, kinds := [], alts := [], laidByText := true, laidKinds := [.data, .data], laidTests := true, laidLooks := .later }
def PinRestoresUptoCardSaid : Prop := Claim7.holds Tryd.pinned (.plain (OpenSpec.upto pinRestoresSpec)) pinRestoresUptoCard

/-- THE SECOND FORM's CARD OF 'sealringlaw.PinPlays'. -/
def pinPlaysUptoCard : Claim7 := { stood := { row := pinPlaysUptoRow, standIns := [], harness := (true, "d6a5c89ecdde5cbae7ab4ce433feeb116fc925f51425c409dae3757cc25ed544"), looks := false }, kinds := [], alts := [], laidByText := true, laidKinds := [.data, .data], laidTests := true, laidLooks := .later }
def PinPlaysUptoCardSaid : Prop := Claim7.holds Tryd.pinned (.plain (OpenSpec.upto pinPlaysSpec)) pinPlaysUptoCard

/-- THE SECOND FORM's CARD OF 'sealringlaw.TapeTells'. -/
def tapeTellsUptoCard : Claim7 := { stood := { row := tapeTellsUptoRow, standIns := [], harness := (true, "d6a5c89ecdde5cbae7ab4ce433feeb116fc925f51425c409dae3757cc25ed544"), looks := false }, kinds := [], alts := [], laidByText := true, laidKinds := [.data, .data], laidTests := true, laidLooks := .later }
def TapeTellsUptoCardSaid : Prop := Claim7.holds Tryd.pinned (.plain (OpenSpec.upto tapeTellsSpec)) tapeTellsUptoCard

/-- THE SECOND FORM's CARD OF 'sealringlaw.DrawTells'. -/
def drawTellsUptoCard : Claim7 := { stood := { row := drawTellsUptoRow, standIns := [], harness := (true, "d6a5c89ecdde5cbae7ab4ce433feeb116fc925f51425c409dae3757cc25ed544"), looks := false }, kinds := [], alts := [], laidByText := true, laidKinds := [.data, .data], laidTests := true, laidLooks := .later }
def DrawTellsUptoCardSaid : Prop := Claim7.holds Tryd.pinned (.plain (OpenSpec.upto drawTellsSpec)) drawTellsUptoCard

/-- THE SECOND FORM's CARD OF 'sealringlaw.ScalarTells'. -/
def scalarTellsUptoCard : Claim7 := { stood := { row := scalarTellsUptoRow, standIns := [], harness := (true, "d6a5c89ecdde5cbae7ab4ce433feeb116fc925f51425c409dae3757cc25ed544"), looks := false }, kinds := [], alts := [], laidByText := true, laidKinds := [.data, .data], laidTests := true, laidLooks := .later }
def ScalarTellsUptoCardSaid : Prop := Claim7.holds Tryd.pinned (.plain (OpenSpec.upto scalarTellsSpec)) scalarTellsUptoCard

/-- THE SECOND FORM's CARD OF 'sealringlaw.ShareSplits'. -/
def shareSplitsUptoCard : Claim7 := { stood := { row := shareSplitsUptoRow, standIns := [], harness := (true, "d6a5c89ecdde5cbae7ab4ce433feeb116fc925f51425c409dae3757cc25ed544"), looks := false }, kinds := [], alts := [], laidByText := true, laidKinds := [.data, .data], laidTests := true, laidLooks := .later }
def ShareSplitsUptoCardSaid : Prop := Claim7.holds Tryd.pinned (.plain (OpenSpec.upto shareSplitsSpec)) shareSplitsUptoCard
end Rows
end Go.Proofs.YtkicjckhkefnpaaDoor
