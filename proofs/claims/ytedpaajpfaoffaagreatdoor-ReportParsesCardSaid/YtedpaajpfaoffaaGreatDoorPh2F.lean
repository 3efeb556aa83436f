/- The closed facts of the row ReportParses, one by one. -/
import Derived.Test.YtedpaajpfaoffaaGreatDoorRows
import Derived.JoinedOf
set_option linter.all false
set_option maxHeartbeats 16000000
set_option maxRecDepth 100000
namespace Go.Proofs.YtedpaajpfaoffaaGreatDoor.reportParses
open Go
theorem closed : joinedFacts Tryz.pinned.checked.prog 6 Tryz.f6 Rows.reportParsesSpec Rows.reportParsesRow = true := by
 unfold joinedFacts
 simp only [Bool.and_eq_true]
 and_intros
 all_goals as_aux_lemma => kernel_rfl
end Go.Proofs.YtedpaajpfaoffaaGreatDoor.reportParses
