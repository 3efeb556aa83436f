/- The closed facts of the row CheckerAccepts, one by one. -/
import Derived.Test.YtlhlmcohdkkjpaaGreatDoorRows
import Derived.JoinedOf
set_option linter.all false
set_option maxHeartbeats 16000000
set_option maxRecDepth 100000
namespace Go.Proofs.YtlhlmcohdkkjpaaGreatDoor.checkerAccepts
open Go
theorem closed:joinedFacts Tryz.pinned.checked.prog 3 Tryz.f3 Rows.checkerAcceptsSpec Rows.checkerAcceptsRow=true:=by
 unfold joinedFacts;simp only[Bool.and_eq_true]
 and_intros
 all_goals as_aux_lemma=>kernel_rfl
end Go.Proofs.YtlhlmcohdkkjpaaGreatDoor.checkerAccepts
