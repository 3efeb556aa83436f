/-
  DERIVED. GIVEN WITH THE SEED: THE CARDS: each row of YtedpaajpfaoffaaGreatDoorRows.lean that lists a variable, with what it lists TIED to the program's text (the seventh form; the later family's looks); each row that meets fmt, with fmt's text TOLD by the authors' own Lean function (tested against real Go, not proved from fmt's source: count such statements apart). THE CARD IS WHAT COUNTS. Prove the row's statement (the work); the ties are given (YtedpaajpfaoffaaGreatDoorTie.lean); close each card by the builder's one call (the guide's Derived/Test/ToyasCard.lean, 'card_holds'). Laid BY PROGRAM, IN A SANDBOX (cutbox-door.mjs). By AI agents, Wed Nov 11 2026. No macro, syntax, notation, axiom, sorry.
-/
import Derived.Test.YtedpaajpfaoffaaGreatDoorRows
import GoSem.ClaimSeven
namespace Go.Proofs.YtedpaajpfaoffaaGreatDoor
namespace Rows

/-- THE TIED CARD OF 'bandplanlaw52.ReportMoney'. -/
def reportMoneyCard : Claim7 := { stood := { row := reportMoneyRow, standIns := [], harness := (true, "fd71a0f8aa431b6c94c77ba7e4b6e8b3023adae241043c4c7667eb63616b2b37"), looks := true }, kinds := [], alts := [], laidByText := true, laidKinds := [.data, .data, .data, .data, .sentinel, .sentinel, .data, .data, .data, .pinned], laidTests := true, laidLooks := .later }
def ReportMoneyCardSaid : Prop := Claim7.holds Tryz.pinned (.plain (OpenSpec.ofChange reportMoneySpec)) reportMoneyCard

/-- THE TIED CARD OF 'bandplanlaw52.ReportRatio'. -/
def reportRatioCard : Claim7 := { stood := { row := reportRatioRow, standIns := [], harness := (true, "fd71a0f8aa431b6c94c77ba7e4b6e8b3023adae241043c4c7667eb63616b2b37"), looks := true }, kinds := [], alts := [], laidByText := true, laidKinds := [.data, .data, .data, .data, .sentinel, .sentinel, .data, .data, .data, .pinned], laidTests := true, laidLooks := .later }
def ReportRatioCardSaid : Prop := Claim7.holds Tryz.pinned (.plain (OpenSpec.ofChange reportRatioSpec)) reportRatioCard

/-- THE TIED CARD OF 'bandplanlaw52.ReportResult'. -/
def reportResultCard : Claim7 := { stood := { row := reportResultRow, standIns := [], harness := (true, "fd71a0f8aa431b6c94c77ba7e4b6e8b3023adae241043c4c7667eb63616b2b37"), looks := true }, kinds := [], alts := [], laidByText := true, laidKinds := [.data, .data, .data, .data, .sentinel, .sentinel, .data, .data, .data, .pinned], laidTests := true, laidLooks := .later }
def ReportResultCardSaid : Prop := Claim7.holds Tryz.pinned (.plain (OpenSpec.ofChange reportResultSpec)) reportResultCard

/-- THE TIED CARD OF 'bandplanlaw52.ReportParses'. -/
def reportParsesCard : Claim7 := { stood := { row := reportParsesRow, standIns := [], harness := (true, "fd71a0f8aa431b6c94c77ba7e4b6e8b3023adae241043c4c7667eb63616b2b37"), looks := true }, kinds := [], alts := [], laidByText := true, laidKinds := [.data, .data, .data, .data, .sentinel, .sentinel, .data, .data, .data, .pinned], laidTests := true, laidLooks := .later }
def ReportParsesCardSaid : Prop := Claim7.holds Tryz.pinned (.plain (OpenSpec.ofChange reportParsesSpec)) reportParsesCard

/-- THE SECOND FORM's CARD OF 'bandplanlaw52.ReportMoney'. -/
def reportMoneyUptoCard : Claim7 := { stood := { row := reportMoneyUptoRow, standIns := [], harness := (true, "fd71a0f8aa431b6c94c77ba7e4b6e8b3023adae241043c4c7667eb63616b2b37"), looks := true }, kinds := [], alts := [], laidByText := true, laidKinds := [.data, .data, .data, .data, .sentinel, .sentinel, .data, .data, .data, .pinned], laidTests := true, laidLooks := .later }
def ReportMoneyUptoCardSaid : Prop := Claim7.holds Tryz.pinned (.plain (OpenSpec.upto reportMoneySpec)) reportMoneyUptoCard

/-- THE SECOND FORM's CARD OF 'bandplanlaw52.ReportRatio'. -/
def reportRatioUptoCard : Claim7 := { stood := { row := reportRatioUptoRow, standIns := [], harness := (true, "fd71a0f8aa431b6c94c77ba7e4b6e8b3023adae241043c4c7667eb63616b2b37"), looks := true }, kinds := [], alts := [], laidByText := true, laidKinds := [.data, .data, .data, .data, .sentinel, .sentinel, .data, .data, .data, .pinned], laidTests := true, laidLooks := .later }
def ReportRatioUptoCardSaid : Prop := Claim7.holds Tryz.pinned (.plain (OpenSpec.upto reportRatioSpec)) reportRatioUptoCard

/-- THE SECOND FORM's CARD OF 'bandplanlaw52.ReportResult'. -/
def reportResultUptoCard : Claim7 := { stood := { row := reportResultUptoRow, standIns := [], harness := (true, "fd71a0f8aa431b6c94c77ba7e4b6e8b3023adae241043c4c7667eb63616b2b37"), looks := true }, kinds := [], alts := [], laidByText := true, laidKinds := [.data, .data, .data, .data, .sentinel, .sentinel, .data, .data, .data, .pinned], laidTests := true, laidLooks := .later }
def ReportResultUptoCardSaid : Prop := Claim7.holds Tryz.pinned (.plain (OpenSpec.upto reportResultSpec)) reportResultUptoCard

/-- THE SECOND FORM's CARD OF 'bandplanlaw52.ReportParses'. -/
def reportParsesUptoCard : Claim7 := { stood := { row := reportParsesUptoRow, standIns := [], harness := (true, "fd71a0f8aa431b6c94c77ba7e4b6e8b3023adae241043c4c7667eb63616b2b37"), looks := true }, kinds := [], alts := [], laidByText := true, laidKinds := [.data, .data, .data, .data, .sentinel, .sentinel, .data, .data, .data, .pinned], laidTests := true, laidLooks := .later }
def ReportParsesUptoCardSaid : Prop := Claim7.holds Tryz.pinned (.plain (OpenSpec.upto reportParsesSpec)) reportParsesUptoCard
end Rows
end Go.Proofs.YtedpaajpfaoffaaGreatDoor
