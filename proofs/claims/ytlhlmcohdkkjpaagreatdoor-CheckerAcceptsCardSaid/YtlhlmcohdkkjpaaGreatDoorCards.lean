/-
  DERIVED. GIVEN WITH THE SEED: THE CARDS: each row of YtlhlmcohdkkjpaaGreatDoorRows.lean that lists a variable, with what it lists TIED to the program's text (the seventh form; the later family's looks); each row that meets fmt, with fmt's text TOLD by the authors' own Lean function (tested against real Go, not proved from fmt's source: count such statements apart). THE CARD IS WHAT COUNTS. Prove the row's statement (the work); the ties are given (YtlhlmcohdkkjpaaGreatDoorTie.lean); close each card by the builder's one call (the guide's Derived/Test/ToyasCard.lean, 'card_holds'). Laid BY PROGRAM, IN A SANDBOX (cutbox-door.mjs). By AI agents, Wed Nov 11 2026. No macro, syntax, notation, axiom, sorry.
-/
import Derived.Test.YtlhlmcohdkkjpaaGreatDoorRows
import GoSem.ClaimSeven
namespace Go.Proofs.YtlhlmcohdkkjpaaGreatDoor
namespace Rows

/-- THE TIED CARD OF 'bandplanlaw25.CheckerAccepts'. -/
def checkerAcceptsCard : Claim7 := { stood := { row := checkerAcceptsRow, standIns := [], harness := (true, "68fed69feed01156c8f3b34c4e54534bfb6666f704c0cd0140e8ac92f7f40c6d"), looks := false }, kinds := [], alts := [], laidByText := true, laidKinds := [.data], laidTests := true, laidLooks := .later }
def CheckerAcceptsCardSaid : Prop := Claim7.holds Tryz.pinned (.plain (OpenSpec.ofChange checkerAcceptsSpec)) checkerAcceptsCard

/-- THE SECOND FORM's CARD OF 'bandplanlaw25.CheckerAccepts'. -/
def checkerAcceptsUptoCard : Claim7 := { stood := { row := checkerAcceptsUptoRow, standIns := [], harness := (true, "68fed69feed01156c8f3b34c4e54534bfb6666f704c0cd0140e8ac92f7f40c6d"), looks := false }, kinds := [], alts := [], laidByText := true, laidKinds := [.data], laidTests := true, laidLooks := .later }
def CheckerAcceptsUptoCardSaid : Prop := Claim7.holds Tryz.pinned (.plain (OpenSpec.upto checkerAcceptsSpec)) checkerAcceptsUptoCard
end Rows
end Go.Proofs.YtlhlmcohdkkjpaaGreatDoor
