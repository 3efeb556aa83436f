/- Closed facts of the program, in a text of their own (memory). -/
import Derived.Test.YtphpkalbbmlgoaaGreatDoorRows
import Derived.KernelRfl
import Derived.OpenShut
namespace Go.Proofs.YtphpkalbbmlgoaaGreatDoor
open Go
theorem own_knob : ownKnob Tryz.prog.godebug = none := by kernel_rfl

theorem noNumB : Tryz.prog.funcs.toList.all (fun fn => !(fn.name == "runtime.NumGoroutine")) = true := by kernel_rfl

end Go.Proofs.YtphpkalbbmlgoaaGreatDoor
