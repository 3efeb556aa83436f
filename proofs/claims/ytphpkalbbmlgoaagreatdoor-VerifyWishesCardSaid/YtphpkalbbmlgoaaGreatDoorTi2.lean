/- The tie, in pieces: the variables are initialised. -/
import Derived.Test.YtphpkalbbmlgoaaGreatDoorTi1
namespace Go.Proofs.YtphpkalbbmlgoaaGreatDoor
open Go
set_option maxRecDepth 10000000
theorem ti_d : ∀ os tape, varsDone Tryz.prog 400 (varsId Tryz.prog) os tape = true := fun _ _ => by kernel_rfl

end Go.Proofs.YtphpkalbbmlgoaaGreatDoor
