/- The ties of the rows. -/
import Derived.Test.YtphpkalbbmlgoaaGreatDoorTi1
import Derived.Test.YtphpkalbbmlgoaaGreatDoorTi2
import Derived.Test.YtphpkalbbmlgoaaGreatDoorTi3
import Derived.Test.YtphpkalbbmlgoaaGreatDoorTi4
namespace Go.Proofs.YtphpkalbbmlgoaaGreatDoor
open Go
theorem tie : Tryz.prog.laidByTextLater tiL [.data, .data, .data, .data] true := Program.laidByTextLater_by_run 400 8 ti_w ti_w2 ti_root ti_k ti_g ti_n ti_d ti_1 ti_2

theorem verifyWishes_row_tie : Rows.verifyWishesRow.laidByTextAt .later Tryz.pinned [.data, .data, .data, .data] true := OpenClaim.laidByTextAt_later rfl rfl tie ti_no

end Go.Proofs.YtphpkalbbmlgoaaGreatDoor
