/- Part of ReportRatio. -/
import Derived.Test.YtedpaajpfaoffaaGreatDoorMh2d
import Derived.KernelRfl
set_option maxRecDepth 10000000
namespace Go.Proofs.YtedpaajpfaoffaaGreatDoor
open Go Ev
theorem run52 : (fun m : Int => obs52 ((evQ Tryz.prog hook52 1000000).c 7 [] (HT (tMaxD m :: tK52)) 11)) = fun m : Int => some (true, some (tabO (tMaxD m))) := by kernel_rfl
end Go.Proofs.YtedpaajpfaoffaaGreatDoor
