/- Closed facts of the row VerifyWishes, in a text of their own (memory). -/
import Derived.Test.YtphpkalbbmlgoaaGreatDoorRows
import Derived.JoinedOf
import Derived.KernelRfl
namespace Go.Proofs.YtphpkalbbmlgoaaGreatDoor.verifyWishes
open Go
set_option maxRecDepth 10000000 in
theorem f_verifyWishes_25 : Tryz.pinned.checked.prog.stopsHeard = true := by kernel_rfl

set_option maxRecDepth 10000000 in
theorem f_verifyWishes_26 : Tryz.pinned.checked.prog.mayEnter = true := by kernel_rfl

end Go.Proofs.YtphpkalbbmlgoaaGreatDoor.verifyWishes
