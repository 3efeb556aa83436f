/-
  DERIVED. GIVEN WITH THE SEED: THE CARDS: each row of YtmnaddlniaklcaaGreatDoorRows.lean that lists a variable, with what it lists TIED to the program's text (the seventh form; the later family's looks); each row that meets fmt, with fmt's text TOLD by the authors' own Lean function (tested against real Go, not proved from fmt's source: count such statements apart). THE CARD IS WHAT COUNTS. Prove the row's statement (the work); the ties are given (YtmnaddlniaklcaaGreatDoorTie.lean); close each card by the builder's one call (the guide's Derived/Test/ToyasCard.lean, 'card_holds'). Laid BY PROGRAM, IN A SANDBOX (cutbox-door.mjs). By AI agents, Wed Nov 11 2026. No macro, syntax, notation, axiom, sorry.
-/
import Derived.Test.YtmnaddlniaklcaaGreatDoorRows
import GoSem.ClaimSeven
namespace Go.Proofs.YtmnaddlniaklcaaGreatDoor
namespace Rows

/-- THE TIED CARD OF 'bandplanlaw25.CheckerNone'. -/
def checkerNoneCard : Claim7 := { stood := { row := checkerNoneRow, standIns := [], harness := (true, "58f034f9b3240aa942229e554d5731d1ca2670f5e783a4667928b3507ccc79d5"), looks := false }, kinds := [], alts := [], laidByText := true, laidKinds := [.data], laidTests := true, laidLooks := .later }
def CheckerNoneCardSaid : Prop := Claim7.holds Tryz.pinned (.plain (OpenSpec.ofChange checkerNoneSpec)) checkerNoneCard

/-- THE TIED CARD OF 'bandplanlaw27.RepackNone'. -/
def repackNoneCard : Claim7 := { stood := { row := repackNoneRow, standIns := [], harness := (true, "58f034f9b3240aa942229e554d5731d1ca2670f5e783a4667928b3507ccc79d5"), looks := false }, kinds := [], alts := [], laidByText := true, laidKinds := [.data], laidTests := true, laidLooks := .later }
def RepackNoneCardSaid : Prop := Claim7.holds Tryz.pinned (.plain (OpenSpec.ofChange repackNoneSpec)) repackNoneCard

/-- THE TIED CARD OF 'bandplanlaw31.ReverseValid'. -/
def reverseValidCard : Claim7 := { stood := { row := reverseValidRow, standIns := [], harness := (true, "58f034f9b3240aa942229e554d5731d1ca2670f5e783a4667928b3507ccc79d5"), looks := false }, kinds := [], alts := [], laidByText := true, laidKinds := [.data, .data], laidTests := true, laidLooks := .later }
def ReverseValidCardSaid : Prop := Claim7.holds Tryz.pinned (.plain (OpenSpec.ofChange reverseValidSpec)) reverseValidCard

/-- THE SECOND FORM's CARD OF 'bandplanlaw25.CheckerNone'. -/
def checkerNoneUptoCard : Claim7 := { stood := { row := checkerNoneUptoRow, standIns := [], harness := (true, "58f034f9b3240aa942229e554d5731d1ca2670f5e783a4667928b3507ccc79d5"), looks := false }, kinds := [], alts := [], laidByText := true, laidKinds := [.data], laidTests := true, laidLooks := .later }
def CheckerNoneUptoCardSaid : Prop := Claim7.holds Tryz.pinned (.plain (OpenSpec.upto checkerNoneSpec)) checkerNoneUptoCard

/-- THE SECOND FORM's CARD OF 'bandplanlaw27.RepackNone'. -/
def repackNoneUptoCard : Claim7 := { stood := { row := repackNoneUptoRow, standIns := [], harness := (true, "58f034f9b3240aa942229e554d5731d1ca2670f5e783a4667928b3507ccc79d5"), looks := false }, kinds := [], alts := [], laidByText := true, laidKinds := [.data], laidTests := true, laidLooks := .later }
def RepackNoneUptoCardSaid : Prop := Claim7.holds Tryz.pinned (.plain (OpenSpec.upto repackNoneSpec)) repackNoneUptoCard

/-- THE SECOND FORM's CARD OF 'bandplanlaw31.ReverseValid'. -/
def reverseValidUptoCard : Claim7 := { stood := { row := reverseValidUptoRow, standIns := [], harness := (true, "58f034f9b3240aa942229e554d5731d1ca2670f5e783a4667928b3507ccc79d5"), looks := false }, kinds := [], alts := [], laidByText := true, laidKinds := [.data, .data], laidTests := true, laidLooks := .later }
def ReverseValidUptoCardSaid : Prop := Claim7.holds Tryz.pinned (.plain (OpenSpec.upto reverseValidSpec)) reverseValidUptoCard
end Rows
end Go.Proofs.YtmnaddlniaklcaaGreatDoor
