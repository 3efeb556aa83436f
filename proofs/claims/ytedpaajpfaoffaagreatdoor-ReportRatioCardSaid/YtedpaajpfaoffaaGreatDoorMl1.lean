/- The law ReportMoney, once known() is answered. -/
import Derived.Test.YtedpaajpfaoffaaGreatDoorMg5
namespace Go.Proofs.YtedpaajpfaoffaaGreatDoor
open Go.RowKit
set_option linter.unusedSimpArgs false

end Go.Proofs.YtedpaajpfaoffaaGreatDoor
