/- The rows of some of the types fit. -/
import Derived.Test.YtphpkalbbmlgoaaGreatDoorRows
import Derived.KernelRfl
namespace Go.Proofs.YtphpkalbbmlgoaaGreatDoor
open Go
theorem lo_b : (List.range' 332 221).all (rowFine Tryz.prog) = true := by kernel_rfl

end Go.Proofs.YtphpkalbbmlgoaaGreatDoor
