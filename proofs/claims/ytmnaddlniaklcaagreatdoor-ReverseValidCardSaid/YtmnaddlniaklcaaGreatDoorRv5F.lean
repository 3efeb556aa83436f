/- The closed facts of the row ReverseValid, one by one. -/
import Derived.Test.YtmnaddlniaklcaaGreatDoorRows
import Derived.JoinedOf
namespace Go.Proofs.YtmnaddlniaklcaaGreatDoor.reverseValid
open Go
set_option maxRecDepth 100000 in
set_option maxHeartbeats 16000000 in
theorem closed : joinedFacts Tryz.pinned.checked.prog 5 Tryz.f5 Rows.reverseValidSpec Rows.reverseValidRow = true := by
  unfold joinedFacts
  simp only [Bool.and_eq_true]
  and_intros
  all_goals as_aux_lemma => kernel_rfl
end Go.Proofs.YtmnaddlniaklcaaGreatDoor.reverseValid
