/- The closed facts of the row ReportResult, one by one. -/
import Derived.Test.YtedpaajpfaoffaaGreatDoorRows
import Derived.JoinedOf
namespace Go.Proofs.YtedpaajpfaoffaaGreatDoor.reportResult
open Go
set_option maxRecDepth 100000 in
set_option maxHeartbeats 16000000 in
theorem closed : joinedFacts Tryz.pinned.checked.prog 5 Tryz.f5 Rows.reportResultSpec Rows.reportResultRow = true := by
  unfold joinedFacts
  simp only [Bool.and_eq_true]
  and_intros
  all_goals as_aux_lemma => kernel_rfl

end Go.Proofs.YtedpaajpfaoffaaGreatDoor.reportResult
