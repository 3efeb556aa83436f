/-
  DERIVED. GIVEN WITH THE SEED: THE CARDS: each row of YtphpkalbbmlgoaaGreatDoorRows.lean that lists a variable, with what it lists TIED to the program's text (the seventh form; the later family's looks); each row that meets fmt, with fmt's text TOLD by the authors' own Lean function (tested against real Go, not proved from fmt's source: count such statements apart). THE CARD IS WHAT COUNTS. Prove the row's statement (the work); the ties are given (YtphpkalbbmlgoaaGreatDoorTie.lean); close each card by the builder's one call (the guide's Derived/Test/ToyasCard.lean, 'card_holds'). Laid BY PROGRAM, IN A SANDBOX (cutbox-door.mjs). By AI agents, Wed Nov 11 2026. No macro, syntax, notation, axiom, sorry.
-/
import Derived.Test.YtphpkalbbmlgoaaGreatDoorRows
import GoSem.ClaimSeven
namespace Go.Proofs.YtphpkalbbmlgoaaGreatDoor
namespace Rows

/-- THE TIED CARD OF 'bandplanlaw45.VerifyWishes'. -/
def verifyWishesCard : Claim7 := { stood := { row := verifyWishesRow, standIns := [], harness := (true, "11c8ffbfcaa4b40c3f4426032707a32948c425fb401cfc7a90c1007fd0a9d11f"), looks := true }, kinds := [], alts := [], laidByText := true, laidKinds := [.data, .data, .data, .data], laidTests := true, laidLooks := .later }
def VerifyWishesCardSaid : Prop := Claim7.holds Tryz.pinned (.plain (OpenSpec.ofChange verifyWishesSpec)) verifyWishesCard

/-- THE TIED CARD OF 'bandplanlaw45.VerifyNone'. -/
def verifyNoneCard : Claim7 := { stood := { row := verifyNoneRow, standIns := [], harness := (true, "11c8ffbfcaa4b40c3f4426032707a32948c425fb401cfc7a90c1007fd0a9d11f"), looks := true }, kinds := [], alts := [], laidByText := true, laidKinds := [.data, .data, .data, .data], laidTests := true, laidLooks := .later }
def VerifyNoneCardSaid : Prop := Claim7.holds Tryz.pinned (.plain (OpenSpec.ofChange verifyNoneSpec)) verifyNoneCard

/-- THE SECOND FORM's CARD OF 'bandplanlaw45.VerifyWishes'. -/
def verifyWishesUptoCard : Claim7 := { stood := { row := verifyWishesUptoRow, standIns := [], harness := (true, "11c8ffbfcaa4b40c3f4426032707a32948c425fb401cfc7a90c1007fd0a9d11f"), looks := true }, kinds := [], alts := [], laidByText := true, laidKinds := [.data, .data, .data, .data], laidTests := true, laidLooks := .later }
def VerifyWishesUptoCardSaid : Prop := Claim7.holds Tryz.pinned (.plain (OpenSpec.upto verifyWishesSpec)) verifyWishesUptoCard

/-- THE SECOND FORM's CARD OF 'bandplanlaw45.VerifyNone'. -/
def verifyNoneUptoCard : Claim7 := { stood := { row := verifyNoneUptoRow, standIns := [], harness := (true, "11c8ffbfcaa4b40c3f4426032707a32948c425fb401cfc7a90c1007fd0a9d11f"), looks := true }, kinds := [], alts := [], laidByText := true, laidKinds := [.data, .data, .data, .data], laidTests := true, laidLooks := .later }
def VerifyNoneUptoCardSaid : Prop := Claim7.holds Tryz.pinned (.plain (OpenSpec.upto verifyNoneSpec)) verifyNoneUptoCard
end Rows
end Go.Proofs.YtphpkalbbmlgoaaGreatDoor
