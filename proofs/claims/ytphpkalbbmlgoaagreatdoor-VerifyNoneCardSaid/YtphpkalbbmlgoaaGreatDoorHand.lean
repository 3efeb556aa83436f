/- The order of a region, by hand: the condition on the worlds may be made stronger on the way. No program in sight. -/
import Derived.Test.YtphpkalbbmlgoaaGreatDoorBase
import Derived.Deep.DeepCutAuto
namespace Go.Proofs.YtphpkalbbmlgoaaGreatDoor
open Go.RowKit

end Go.Proofs.YtphpkalbbmlgoaaGreatDoor
