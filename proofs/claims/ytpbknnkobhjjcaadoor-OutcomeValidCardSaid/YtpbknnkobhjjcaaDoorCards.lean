/-
  DERIVED. GIVEN WITH THE SEED: THE CARDS: each row of YtpbknnkobhjjcaaDoorRows.lean that lists a variable, with what it lists TIED to the program's text (the seventh form; the later family's looks); each row that meets fmt, with fmt's text TOLD by the authors' own Lean function (tested against real Go, not proved from fmt's source: count such statements apart). THE CARD IS WHAT COUNTS. Prove the row's statement (the work); the ties are given (YtpbknnkobhjjcaaDoorTie.lean); close each card by the builder's one call (the guide's Derived/Test/ToyasCard.lean, 'card_holds'). Laid BY PROGRAM, IN A SANDBOX (cutbox-door.mjs). By AI agents, Wed Nov 11 2026. No macro, syntax, notation, axiom, sorry.
-/
import Derived.Test.YtpbknnkobhjjcaaDoorRows
import GoSem.ClaimSeven
namespace Go.Proofs.YtpbknnkobhjjcaaDoor
namespace Rows

/-- THE TIED CARD OF 'bandplanlaw32.OutcomeCost'. -/
def outcomeCostCard : Claim7 := { stood := { row := outcomeCostRow, standIns := [], harness := (true, "52de57d0dfbfd806e2705b01de295a258654215b5ebaa80dde70eeab5c8826be"), looks := false }, kinds := [], alts := [], laidByText := true, laidKinds := [.data], laidTests := true, laidLooks := .later }
def OutcomeCostCardSaid : Prop := Claim7.holds Tryd.pinned (.plain (OpenSpec.ofChange outcomeCostSpec)) outcomeCostCard

/-- THE TIED CARD OF 'bandplanlaw32.OutcomeCeiling'. -/
def outcomeCeilingCard : Claim7 := { stood := { row := outcomeCeilingRow, standIns := [], harness := (true, "52de57d0dfbfd806e2705b01de295a258654215b5ebaa80dde70eeab5c8826be"), looks := false }, kinds := [], alts := [], laidByText := true, laidKinds := [.data], laidTests := true, laidLooks := .later }
def OutcomeCeilingCardSaid : Prop := Claim7.holds Tryd.pinned (.plain (OpenSpec.ofChange outcomeCeilingSpec)) outcomeCeilingCard

/-- THE TIED CARD OF 'bandplanlaw32.OutcomeFollows'. -/
def outcomeFollowsCard : Claim7 := { stood := { row := outcomeFollowsRow, standIns := [], harness := (true, "52de57d0dfbfd806e2705b01de295a258654215b5ebaa80dde70eeab5c8826be"), looks := false }, kinds := [], alts := [], laidByText := true, laidKinds := [.data], laidTests := true, laidLooks := .later }
def OutcomeFollowsCardSaid : Prop := Claim7.holds Tryd.pinned (.plain (OpenSpec.ofChange outcomeFollowsSpec)) outcomeFollowsCard

/-- THE TIED CARD OF 'bandplanlaw32.OutcomeValid'. -/
def outcomeValidCard : Claim7 := { stood := { row := outcomeValidRow, standIns := [], harness := (true, "52de57d0dfbfd806e2705b01de295a258654215b5ebaa80dde70eeab5c8826be"), looks := false }, kinds := [], alts := [], laidByText := true, laidKinds := [.data], laidTests := true, laidLooks := .later }
def OutcomeValidCardSaid : Prop := Claim7.holds Tryd.pinned (.plain (OpenSpec.ofChange outcomeValidSpec)) outcomeValidCard

/-- THE SECOND FORM's CARD OF 'bandplanlaw32.OutcomeCost'. -/
def outcomeCostUptoCard : Claim7 := { stood := { row := outcomeCostUptoRow, standIns := [], harness := (true, "52de57d0dfbfd806e2705b01de295a258654215b5ebaa80dde70eeab5c8826be"), looks := false }, kinds := [], alts := [], laidByText := true, laidKinds := [.data], laidTests := true, laidLooks := .later }
def OutcomeCostUptoCardSaid : Prop := Claim7.holds Tryd.pinned (.plain (OpenSpec.upto outcomeCostSpec)) outcomeCostUptoCard

/-- THE SECOND FORM's CARD OF 'bandplanlaw32.OutcomeCeiling'. -/
def outcomeCeilingUptoCard : Claim7 := { stood := { row := outcomeCeilingUptoRow, standIns := [], harness := (true, "52de57d0dfbfd806e2705b01de295a258654215b5ebaa80dde70eeab5c8826be"), looks := false }, kinds := [], alts := [], laidByText := true, laidKinds := [.data], laidTests := true, laidLooks := .later }
def OutcomeCeilingUptoCardSaid : Prop := Claim7.holds Tryd.pinned (.plain (OpenSpec.upto outcomeCeilingSpec)) outcomeCeilingUptoCard

/-- THE SECOND FORM's CARD OF 'bandplanlaw32.OutcomeFollows'. -/
def outcomeFollowsUptoCard : Claim7 := { stood := { row := outcomeFollowsUptoRow, standIns := [], harness := (true, "52de57d0dfbfd806e2705b01de295a258654215b5ebaa80dde70eeab5c8826be"), looks := false }, kinds := [], alts := [], laidByText := true, laidKinds := [.data], laidTests := true, laidLooks := .later }
def OutcomeFollowsUptoCardSaid : Prop := Claim7.holds Tryd.pinned (.plain (OpenSpec.upto outcomeFollowsSpec)) outcomeFollowsUptoCard

/-- THE SECOND FORM's CARD OF 'bandplanlaw32.OutcomeValid'. -/
def outcomeValidUptoCard : Claim7 := { stood := { row := outcomeValidUptoRow, standIns := [], harness := (true, "52de57d0dfbfd806e2705b01de295a258654215b5ebaa80dde70eeab5c8826be"), looks := false }, kinds := [], alts := [], laidByText := true, laidKinds := [.data], laidTests := true, laidLooks := .later }
def OutcomeValidUptoCardSaid : Prop := Claim7.holds Tryd.pinned (.plain (OpenSpec.upto outcomeValidSpec)) outcomeValidUptoCard
end Rows
end Go.Proofs.YtpbknnkobhjjcaaDoor
