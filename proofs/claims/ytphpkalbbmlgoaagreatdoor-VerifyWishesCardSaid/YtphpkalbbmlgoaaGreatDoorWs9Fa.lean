/- Closed facts of the row VerifyWishes, in a text of their own (memory). -/
import Derived.Test.YtphpkalbbmlgoaaGreatDoorRows
import Derived.JoinedOf
import Derived.KernelRfl
namespace Go.Proofs.YtphpkalbbmlgoaaGreatDoor.verifyWishes
open Go
set_option maxRecDepth 10000000 in
theorem f_verifyWishes_3 : mapsRowed Tryz.pinned.checked.prog = true := by kernel_rfl

set_option maxRecDepth 10000000 in
theorem f_verifyWishes_23 : (Rows.verifyWishesRow.plainKeys == Tryz.pinned.checked.prog.plainKeys) = true := by kernel_rfl

end Go.Proofs.YtphpkalbbmlgoaaGreatDoor.verifyWishes
