/- A closed fact of the program, in a text of its own (memory): its orders. -/
import Derived.Test.YtphpkalbbmlgoaaGreatDoorRows
import Derived.KernelRfl
import Derived.OpenShut
namespace Go.Proofs.YtphpkalbbmlgoaaGreatDoor
open Go
theorem mixed : Tryz.prog.follows .mixedOrders = true := by kernel_rfl

end Go.Proofs.YtphpkalbbmlgoaaGreatDoor
