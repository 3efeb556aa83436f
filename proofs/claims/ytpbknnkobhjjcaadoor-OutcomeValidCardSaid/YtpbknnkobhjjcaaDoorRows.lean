/-
  NARROWER THAN 'FOR EVERY INPUT', by the rows' own cells (each row's printed sentence says how): OutcomeCost: laid · OutcomeCeiling: laid · OutcomeFollows: laid · OutcomeValid: laid.
  DERIVED. THE GIVEN ROWS OF THIS SEAT. 4 by the template 'for every input the law returns true; each argument reads behind the call as it read before'; 0 by the template 'total and deterministic' (their statements: YtpbknnkobhjjcaaDoorTotals.lean).
  GIVEN WITH THE SEED: the statements are not yours to turn. If you find one false, say at which input.
  Laid BY PROGRAM, IN A SANDBOX (cutbox-rows.mjs): the forced cells as the released guide's own fill.sh prints them over the translation e87b6cee11920e64… (all of the seat's roots in one cut). By AI agents, Wed Nov 11 2026. No macro, syntax, notation, axiom, sorry.
-/
import Derived.Test.YtpbknnkobhjjcaaDoorChecked
import GoSem.Claim
import GoSem.ClaimJoined
import GoSem.ClaimMapViews
import Derived.JoinedTies
import Derived.KernelRfl
namespace Go.Proofs.YtpbknnkobhjjcaaDoor
/- THE CELL 'sum', in the pinned program and in every row, IS THE sha256 OF THE DUMP (.gsa) THAT YtpbknnkobhjjcaaDoorProg.lean LOADS. Nothing in Lean hashes anything: it is a label: what it is worth is what the hold of that sum in a sandbox is worth. -/
noncomputable def Tryd.pinned : Pinned := { name := "ytpbknnkobhjjcaadoor", sum := "e87b6cee11920e649b535e0f58cc8d1437f98e52ba13f9d7ba51bad0ae4806ee", checked := Tryd.checked }
namespace Rows
def none {H : Type} : Left H := { results := [], args := [] }

/- WHAT THE LISTED PACKAGE-LEVEL VARIABLES READ AS WHEN THE CALL BEGINS. Each datum BY PROGRAM (the guide's laid-datum.mjs) off the statement by which the dump's own 'gosem.cut.vars' lays the variable. In a bare row this is a premise. The card (YtpbknnkobhjjcaaDoorCards.lean) ties it to the program's text. -/
def laid_bandplan_score_worths {H : Type} : DataW H := .agg [.lit (.int .i64 0), .lit (.int .i64 250), .lit (.int .i64 600), .lit (.int .i64 1000)]

/-- 'bandplanlaw32.OutcomeCost': WHATEVER THE INPUT: true; the input reads as it did. -/
def outcomeCostSpec : ChangeSpec := { name := "outcomeCost", fn := fun _ => fun
  | [d1, d2, d3] => { results := [.lit (.bool true)], args := [d1, d2, d3] }
  | _ => none }
def outcomeCostRow : OpenClaim := { program := "ytpbknnkobhjjcaadoor", sum := "e87b6cee11920e649b535e0f58cc8d1437f98e52ba13f9d7ba51bad0ae4806ee", func := "bandplan/bandplanlaw32.OutcomeCost", spec := "outcomeCost", unfollowed := true, recurses := true, named := ["bandplan/score.worths"], apart := false, laid := [("bandplan/score.worths", laid_bandplan_score_worths)] }
def OutcomeCostSaid : Prop := outcomeCostRow.holds Tryd.pinned (OpenSpec.ofChange outcomeCostSpec)

/-- ITS FALSE NEIGHBOUR: 'it returns false'. Refute it at one input. -/
def outcomeCostWrong : ChangeSpec := { name := "outcomeCost", fn := fun _ => fun
  | [d1, d2, d3] => { results := [.lit (.bool false)], args := [d1, d2, d3] }
  | _ => none }
def OutcomeCostWrongFalsely : Prop := outcomeCostRow.holds Tryd.pinned (OpenSpec.ofChange outcomeCostWrong)

/-- 'bandplanlaw32.OutcomeCeiling': WHATEVER THE INPUT: true; the input reads as it did. -/
def outcomeCeilingSpec : ChangeSpec := { name := "outcomeCeiling", fn := fun _ => fun
  | [d1, d2] => { results := [.lit (.bool true)], args := [d1, d2] }
  | _ => none }
def outcomeCeilingRow : OpenClaim := { program := "ytpbknnkobhjjcaadoor", sum := "e87b6cee11920e649b535e0f58cc8d1437f98e52ba13f9d7ba51bad0ae4806ee", func := "bandplan/bandplanlaw32.OutcomeCeiling", spec := "outcomeCeiling", unfollowed := true, recurses := true, named := ["bandplan/score.worths"], apart := false, laid := [("bandplan/score.worths", laid_bandplan_score_worths)] }
def OutcomeCeilingSaid : Prop := outcomeCeilingRow.holds Tryd.pinned (OpenSpec.ofChange outcomeCeilingSpec)

/-- ITS FALSE NEIGHBOUR: 'it returns false'. Refute it at one input. -/
def outcomeCeilingWrong : ChangeSpec := { name := "outcomeCeiling", fn := fun _ => fun
  | [d1, d2] => { results := [.lit (.bool false)], args := [d1, d2] }
  | _ => none }
def OutcomeCeilingWrongFalsely : Prop := outcomeCeilingRow.holds Tryd.pinned (OpenSpec.ofChange outcomeCeilingWrong)

/-- 'bandplanlaw32.OutcomeFollows': WHATEVER THE INPUT: true; the input reads as it did. -/
def outcomeFollowsSpec : ChangeSpec := { name := "outcomeFollows", fn := fun _ => fun
  | [d1, d2, d3] => { results := [.lit (.bool true)], args := [d1, d2, d3] }
  | _ => none }
def outcomeFollowsRow : OpenClaim := { program := "ytpbknnkobhjjcaadoor", sum := "e87b6cee11920e649b535e0f58cc8d1437f98e52ba13f9d7ba51bad0ae4806ee", func := "bandplan/bandplanlaw32.OutcomeFollows", spec := "outcomeFollows", unfollowed := true, recurses := true, named := ["bandplan/score.worths"], apart := false, laid := [("bandplan/score.worths", laid_bandplan_score_worths)] }
def OutcomeFollowsSaid : Prop := outcomeFollowsRow.holds Tryd.pinned (OpenSpec.ofChange outcomeFollowsSpec)

/-- ITS FALSE NEIGHBOUR: 'it returns false'. Refute it at one input. -/
def outcomeFollowsWrong : ChangeSpec := { name := "outcomeFollows", fn := fun _ => fun
  | [d1, d2, d3] => { results := [.lit (.bool false)], args := [d1, d2, d3] }
  | _ => none }
def OutcomeFollowsWrongFalsely : Prop := outcomeFollowsRow.holds Tryd.pinned (OpenSpec.ofChange outcomeFollowsWrong)

/-- 'bandplanlaw32.OutcomeValid': WHATEVER THE INPUT: true; the input reads as it did. -/
def outcomeValidSpec : ChangeSpec := { name := "outcomeValid", fn := fun _ => fun
  | [d1, d2] => { results := [.lit (.bool true)], args := [d1, d2] }
  | _ => none }
def outcomeValidRow : OpenClaim := { program := "ytpbknnkobhjjcaadoor", sum := "e87b6cee11920e649b535e0f58cc8d1437f98e52ba13f9d7ba51bad0ae4806ee", func := "bandplan/bandplanlaw32.OutcomeValid", spec := "outcomeValid", unfollowed := true, recurses := true, named := ["bandplan/score.worths"], apart := false, laid := [("bandplan/score.worths", laid_bandplan_score_worths)] }
def OutcomeValidSaid : Prop := outcomeValidRow.holds Tryd.pinned (OpenSpec.ofChange outcomeValidSpec)

/-- ITS FALSE NEIGHBOUR: 'it returns false'. Refute it at one input. -/
def outcomeValidWrong : ChangeSpec := { name := "outcomeValid", fn := fun _ => fun
  | [d1, d2] => { results := [.lit (.bool false)], args := [d1, d2] }
  | _ => none }
def OutcomeValidWrongFalsely : Prop := outcomeValidRow.holds Tryd.pinned (OpenSpec.ofChange outcomeValidWrong)

/- THE SECOND FORM. 'bulk': how many values and letters a reading holds, each counted each time it is reached (what is shared counts as often as it is met; a slice's spare places count too). A statement '..UptoSaid' is the law's where the arguments, and the package variables that the reading takes, are together of bulk at most 1048576: NARROWER than '..Said'. Prove '..Said' where nothing that the law and all that it calls make is longer than what came in: it says more and counts as full. Else prove '..UptoSaid'. A law counts once. -/
mutual
def uptoBulk {H : Type} : DataW H → Nat
  | .lit (.string bytes) => bytes.length + 1
  | .lit _ => 1
  | .nil => 1
  | .ptr d => uptoBulk d + 1
  | .slice elems spare => uptoBulkAll elems + uptoBulkAll spare + 1
  | .agg parts => uptoBulkAll parts + 1
  | .iface _ d => uptoBulk d + 1
  | .map entries => uptoBulkEntries entries + 1
  | .held _ => 1
def uptoBulkAll {H : Type} : List (DataW H) → Nat
  | [] => 0
  | d :: r => uptoBulk d + uptoBulkAll r
def uptoBulkEntries {H : Type} : List (Lit × DataW H) → Nat
  | [] => 0
  | x :: r => uptoBulkEntry x + uptoBulkEntries r
def uptoBulkEntry {H : Type} : Lit × DataW H → Nat
  | (.string bytes, d) => bytes.length + uptoBulk d + 1
  | (_, d) => uptoBulk d + 1
 end
def uptoSmall : (H : Type) → List (DataW H) → Bool := fun _ ds => decide (uptoBulkAll ds ≤ 1048576)
def OpenSpec.upto (s : _root_.Go.ChangeSpec) : _root_.Go.OpenSpec := { _root_.Go.OpenSpec.ofChange s with cond := some uptoSmall }

/-- 'bandplanlaw32.OutcomeCost', WHERE WHAT IT READS IS OF BULK AT MOST 1048576: true; the input reads as it did. -/
def outcomeCostUptoRow : OpenClaim := { program := "ytpbknnkobhjjcaadoor", sum := "e87b6cee11920e649b535e0f58cc8d1437f98e52ba13f9d7ba51bad0ae4806ee", func := "bandplan/bandplanlaw32.OutcomeCost", spec := "outcomeCost", unfollowed := true, recurses := true, named := ["bandplan/score.worths"], apart := false, laid := [("bandplan/score.worths", laid_bandplan_score_worths)], narrowed := true }
def OutcomeCostUptoSaid : Prop := outcomeCostUptoRow.holds Tryd.pinned (OpenSpec.upto outcomeCostSpec)

/-- 'bandplanlaw32.OutcomeCeiling', WHERE WHAT IT READS IS OF BULK AT MOST 1048576: true; the input reads as it did. -/
def outcomeCeilingUptoRow : OpenClaim := { program := "ytpbknnkobhjjcaadoor", sum := "e87b6cee11920e649b535e0f58cc8d1437f98e52ba13f9d7ba51bad0ae4806ee", func := "bandplan/bandplanlaw32.OutcomeCeiling", spec := "outcomeCeiling", unfollowed := true, recurses := true, named := ["bandplan/score.worths"], apart := false, laid := [("bandplan/score.worths", laid_bandplan_score_worths)], narrowed := true }
def OutcomeCeilingUptoSaid : Prop := outcomeCeilingUptoRow.holds Tryd.pinned (OpenSpec.upto outcomeCeilingSpec)

/-- 'bandplanlaw32.OutcomeFollows', WHERE WHAT IT READS IS OF BULK AT MOST 1048576: true; the input reads as it did. -/
def outcomeFollowsUptoRow : OpenClaim := { program := "ytpbknnkobhjjcaadoor", sum := "e87b6cee11920e649b535e0f58cc8d1437f98e52ba13f9d7ba51bad0ae4806ee", func := "bandplan/bandplanlaw32.OutcomeFollows", spec := "outcomeFollows", unfollowed := true, recurses := true, named := ["bandplan/score.worths"], apart := false, laid := [("bandplan/score.worths", laid_bandplan_score_worths)], narrowed := true }
def OutcomeFollowsUptoSaid : Prop := outcomeFollowsUptoRow.holds Tryd.pinned (OpenSpec.upto outcomeFollowsSpec)

/-- 'bandplanlaw32.OutcomeValid', WHERE WHAT IT READS IS OF BULK AT MOST 1048576: true; the input reads as it did. -/
def outcomeValidUptoRow : OpenClaim := { program := "ytpbknnkobhjjcaadoor", sum := "e87b6cee11920e649b535e0f58cc8d1437f98e52ba13f9d7ba51bad0ae4806ee", func := "bandplan/bandplanlaw32.OutcomeValid", spec := "outcomeValid", unfollowed := true, recurses := true, named := ["bandplan/score.worths"], apart := false, laid := [("bandplan/score.worths", laid_bandplan_score_worths)], narrowed := true }
def OutcomeValidUptoSaid : Prop := outcomeValidUptoRow.holds Tryd.pinned (OpenSpec.upto outcomeValidSpec)

end Rows
end Go.Proofs.YtpbknnkobhjjcaaDoor
