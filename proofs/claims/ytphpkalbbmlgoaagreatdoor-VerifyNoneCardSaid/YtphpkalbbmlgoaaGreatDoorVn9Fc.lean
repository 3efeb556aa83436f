/- Closed facts of the row VerifyNone, in a text of their own (memory). -/
import Derived.Test.YtphpkalbbmlgoaaGreatDoorRows
import Derived.JoinedOf
import Derived.KernelRfl
namespace Go.Proofs.YtphpkalbbmlgoaaGreatDoor.verifyNone
open Go
set_option maxRecDepth 10000000 in
theorem f_verifyNone_27 : (Rows.verifyNoneRow.lifted == Tryz.pinned.checked.prog.liftsFinal) = true := by kernel_rfl

set_option maxRecDepth 10000000 in
theorem f_verifyNone_28 : (Tryz.pinned.checked.prog.make == some Rows.verifyNoneRow.make) = true := by kernel_rfl

end Go.Proofs.YtphpkalbbmlgoaaGreatDoor.verifyNone
