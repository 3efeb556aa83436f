/- The tie, in pieces: they hold what the row lists. -/
import Derived.Test.YtphpkalbbmlgoaaGreatDoorTi1
namespace Go.Proofs.YtphpkalbbmlgoaaGreatDoor
open Go
set_option maxRecDepth 10000000
theorem ti_1 : ∀ os tape, (DataW.laidRun Tryz.prog (varsWorld Tryz.prog 400 (varsId Tryz.prog) os tape).memory 8 (tiL.map (·.1))).map (·.1) = some tiL := fun _ _ => by kernel_rfl

end Go.Proofs.YtphpkalbbmlgoaaGreatDoor
