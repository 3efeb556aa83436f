/- The tie, in pieces: each lies in its own row. -/
import Derived.Test.YtphpkalbbmlgoaaGreatDoorTi1
namespace Go.Proofs.YtphpkalbbmlgoaaGreatDoor
open Go
set_option maxRecDepth 10000000
theorem ti_2 : ∀ os tape, (DataW.laidRun Tryz.prog (varsWorld Tryz.prog 400 (varsId Tryz.prog) os tape).memory 8 (tiL.map (·.1))).map (fun x => decide x.2.Nodup && laidRowsB Tryz.prog (varsWorld Tryz.prog 400 (varsId Tryz.prog) os tape).memory x.2) = some true := fun _ _ => by kernel_rfl

end Go.Proofs.YtphpkalbbmlgoaaGreatDoor
