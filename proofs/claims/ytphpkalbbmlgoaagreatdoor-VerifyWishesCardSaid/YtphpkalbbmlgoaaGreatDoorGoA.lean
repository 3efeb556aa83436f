/- Half of the functions start no goroutine. -/
import Derived.Test.YtphpkalbbmlgoaaGreatDoorRows
import Derived.KernelRfl
import Derived.SevenTiedAt
namespace Go.Proofs.YtphpkalbbmlgoaaGreatDoor
open Go
set_option maxRecDepth 10000000 in
theorem go_a : (List.range' 0 400).all (fun g => !((Tryz.prog.funcs[g]?).any Func.goes)) = true := by kernel_rfl

end Go.Proofs.YtphpkalbbmlgoaaGreatDoor
