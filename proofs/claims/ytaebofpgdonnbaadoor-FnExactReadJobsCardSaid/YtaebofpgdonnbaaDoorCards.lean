/-
  DERIVED. GIVEN WITH THE SEED: THE CARDS: each row of YtaebofpgdonnbaaDoorRows.lean that lists a variable, with what it lists TIED to the program's text (the seventh form; the later family's looks); each row that meets fmt, with fmt's text TOLD by the authors' own Lean function (tested against real Go, not proved from fmt's source: count such statements apart). THE CARD IS WHAT COUNTS. Prove the row's statement (the work); the ties are given (YtaebofpgdonnbaaDoorTie.lean); close each card by the builder's one call (the guide's Derived/Test/ToyasCard.lean, 'card_holds'). Laid BY PROGRAM, IN A SANDBOX (cutbox-door.mjs). By AI agents, Wed Nov 11 2026. No macro, syntax, notation, axiom, sorry.
-/
import Derived.Test.YtaebofpgdonnbaaDoorRows
import GoSem.ClaimSeven
namespace Go.Proofs.YtaebofpgdonnbaaDoor
namespace Rows

/-- THE TIED CARD OF 'laws.FnExactPageFault'. -/
def fnExactPageFaultCard : Claim7 := { stood := { row := fnExactPageFaultRow, standIns := [], harness := (true, "db9704bcc13b04ffef56602e007db0a291993e8f145c8acf25a9cb00d4b87fd7"), looks := false }, kinds := [], alts := [], laidByText := true, laidKinds := [.data, .data, .data], laidTests := true, laidLooks := .later }
def FnExactPageFaultCardSaid : Prop := Claim7.holds Tryd.pinned (.plain (OpenSpec.ofChange fnExactPageFaultSpec)) fnExactPageFaultCard

/-- THE TIED CARD OF 'laws.FnExactReadPage'. -/
def fnExactReadPageCard : Claim7 := { stood := { row := fnExactReadPageRow, standIns := [], harness := (true, "db9704bcc13b04ffef56602e007db0a291993e8f145c8acf25a9cb00d4b87fd7"), looks := false }, kinds := [], alts := [], laidByText := true, laidKinds := [.data, .data, .data], laidTests := true, laidLooks := .later }
def FnExactReadPageCardSaid : Prop := Claim7.holds Tryd.pinned (.plain (OpenSpec.ofChange fnExactReadPageSpec)) fnExactReadPageCard

/-- THE TIED CARD OF 'laws.FnExactPrintPage'. -/
def fnExactPrintPageCard : Claim7 := { stood := { row := fnExactPrintPageRow, standIns := [], harness := (true, "db9704bcc13b04ffef56602e007db0a291993e8f145c8acf25a9cb00d4b87fd7"), looks := false }, kinds := [], alts := [], laidByText := true, laidKinds := [.data, .data, .data], laidTests := true, laidLooks := .later }
def FnExactPrintPageCardSaid : Prop := Claim7.holds Tryd.pinned (.plain (OpenSpec.ofChange fnExactPrintPageSpec)) fnExactPrintPageCard

/-- THE TIED CARD OF 'laws.FnExactPiecesText'. -/
def fnExactPiecesTextCard : Claim7 := { stood := { row := fnExactPiecesTextRow, standIns := [], harness := (true, "db9704bcc13b04ffef56602e007db0a291993e8f145c8acf25a9cb00d4b87fd7"), looks := false }, kinds := [], alts := [], laidByText := true, laidKinds := [.data, .data, .data], laidTests := true, laidLooks := .later }
def FnExactPiecesTextCardSaid : Prop := Claim7.holds Tryd.pinned (.plain (OpenSpec.ofChange fnExactPiecesTextSpec)) fnExactPiecesTextCard

/-- THE TIED CARD OF 'laws.FnExactReadPieces'. -/
def fnExactReadPiecesCard : Claim7 := { stood := { row := fnExactReadPiecesRow, standIns := [], harness := (true, "db9704bcc13b04ffef56602e007db0a291993e8f145c8acf25a9cb00d4b87fd7"), looks := false }, kinds := [], alts := [], laidByText := true, laidKinds := [.data, .data, .data], laidTests := true, laidLooks := .later }
def FnExactReadPiecesCardSaid : Prop := Claim7.holds Tryd.pinned (.plain (OpenSpec.ofChange fnExactReadPiecesSpec)) fnExactReadPiecesCard

/-- THE TIED CARD OF 'laws.FnExactJobsText'. -/
def fnExactJobsTextCard : Claim7 := { stood := { row := fnExactJobsTextRow, standIns := [], harness := (true, "db9704bcc13b04ffef56602e007db0a291993e8f145c8acf25a9cb00d4b87fd7"), looks := false }, kinds := [], alts := [], laidByText := true, laidKinds := [.data, .data, .data], laidTests := true, laidLooks := .later }
def FnExactJobsTextCardSaid : Prop := Claim7.holds Tryd.pinned (.plain (OpenSpec.ofChange fnExactJobsTextSpec)) fnExactJobsTextCard

/-- THE TIED CARD OF 'laws.FnExactReadJobs'. -/
def fnExactReadJobsCard : Claim7 := { stood := { row := fnExactReadJobsRow, standIns := [], harness := (true, "db9704bcc13b04ffef56602e007db0a291993e8f145c8acf25a9cb00d4b87fd7"), looks := false }, kinds := [], alts := [], laidByText := true, laidKinds := [.data, .data, .data], laidTests := true, laidLooks := .later }
def FnExactReadJobsCardSaid : Prop := Claim7.holds Tryd.pinned (.plain (OpenSpec.ofChange fnExactReadJobsSpec)) fnExactReadJobsCard

/-- THE SECOND FORM's CARD OF 'laws.FnExactPageFault'. -/
def fnExactPageFaultUptoCard : Claim7 := { stood := { row := fnExactPageFaultUptoRow, standIns := [], harness := (true, "db9704bcc13b04ffef56602e007db0a291993e8f145c8acf25a9cb00d4b87fd7"), looks := false }, kinds := [], alts := [], laidByText := true, laidKinds := [.data, .data, .data], laidTests := true, laidLooks := .later }
def FnExactPageFaultUptoCardSaid : Prop := Claim7.holds Tryd.pinned (.plain (OpenSpec.upto fnExactPageFaultSpec)) fnExactPageFaultUptoCard

/-- THE SECOND FORM's CARD OF 'laws.FnExactReadPage'. -/
def fnExactReadPageUptoCard : Claim7 := { stood := { row := fnExactReadPageUptoRow, standIns := [], harness := (true, "db9704bcc13b04ffef56602e007db0a291993e8f145c8acf25a9cb00d4b87fd7"), looks := false }, kinds := [], alts := [], laidByText := true, laidKinds := [.data, .data, .data], laidTests := true, laidLooks := .later }
def FnExactReadPageUptoCardSaid : Prop := Claim7.holds Tryd.pinned (.plain (OpenSpec.upto fnExactReadPageSpec)) fnExactReadPageUptoCard

/-- THE SECOND FORM's CARD OF 'laws.FnExactPrintPage'. -/
def fnExactPrintPageUptoCard : Claim7 := { stood := { row := fnExactPrintPageUptoRow, standIns := [], harness := (true, "db9704bcc13b04ffef56602e007db0a291993e8f145c8acf25a9cb00d4b87fd7"), looks := false }, kinds := [], alts := [], laidByText := true, laidKinds := [.data, .data, .data], laidTests := true, laidLooks := .later }
def FnExactPrintPageUptoCardSaid : Prop := Claim7.holds Tryd.pinned (.plain (OpenSpec.upto fnExactPrintPageSpec)) fnExactPrintPageUptoCard

/-- THE SECOND FORM's CARD OF 'laws.FnExactPiecesText'. -/
def fnExactPiecesTextUptoCard : Claim7 := { stood := { row := fnExactPiecesTextUptoRow, standIns := [], harness := (true, "db9704bcc13b04ffef56602e007db0a291993e8f145c8acf25a9cb00d4b87fd7"), looks := false }, kinds := [], alts := [], laidByText := true, laidKinds := [.data, .data, .data], laidTests := true, laidLooks := .later }
def FnExactPiecesTextUptoCardSaid : Prop := Claim7.holds Tryd.pinned (.plain (OpenSpec.upto fnExactPiecesTextSpec)) fnExactPiecesTextUptoCard

/-- THE SECOND FORM's CARD OF 'laws.FnExactReadPieces'. -/
def fnExactReadPiecesUptoCard : Claim7 := { stood := { row := fnExactReadPiecesUptoRow, standIns := [], harness := (true, "db9704bcc13b04ffef56602e007db0a291993e8f145c8acf25a9cb00d4b87fd7"), looks := false }, kinds := [], alts := [], laidByText := true, laidKinds := [.data, .data, .data], laidTests := true, laidLooks := .later }
def FnExactReadPiecesUptoCardSaid : Prop := Claim7.holds Tryd.pinned (.plain (OpenSpec.upto fnExactReadPiecesSpec)) fnExactReadPiecesUptoCard

/-- THE SECOND FORM's CARD OF 'laws.FnExactJobsText'. -/
def fnExactJobsTextUptoCard : Claim7 := { stood := { row := fnExactJobsTextUptoRow, standIns := [], harness := (true, "db9704bcc13b04ffef56602e007db0a291993e8f145c8acf25a9cb00d4b87fd7"), looks := false }, kinds := [], alts := [], laidByText := true, laidKinds := [.data, .data, .data], laidTests := true, laidLooks := .later }
def FnExactJobsTextUptoCardSaid : Prop := Claim7.holds Tryd.pinned (.plain (OpenSpec.upto fnExactJobsTextSpec)) fnExactJobsTextUptoCard

/-- THE SECOND FORM's CARD OF 'laws.FnExactReadJobs'. -/
def fnExactReadJobsUptoCard : Claim7 := { stood := { row := fnExactReadJobsUptoRow, standIns := [], harness := (true, "db9704bcc13b04ffef56602e007db0a291993e8f145c8acf25a9cb00d4b87fd7"), looks := false }, kinds := [], alts := [], laidByText := true, laidKinds := [.data, .data, .data], laidTests := true, laidLooks := .later }
def FnExactReadJobsUptoCardSaid : Prop := Claim7.holds Tryd.pinned (.plain (OpenSpec.upto fnExactReadJobsSpec)) fnExactReadJobsUptoCard
end Rows
end Go.Proofs.YtaebofpgdonnbaaDoor
