/- The tie of the tables, in pieces: what the program says of its variables. -/
import Derived.Test.YtphpkalbbmlgoaaGreatDoorRows
import Derived.LaidByTextLater
import Derived.SevenTiedAt
namespace Go.Proofs.YtphpkalbbmlgoaaGreatDoor
open Go
abbrev tiL : List (String × DataW Unit) := [("math/bits.deBruijn64tab", Rows.laid_math_bits_deBruijn64tab), ("bandplan/score.worths", Rows.laid_bandplan_score_worths), ("bandplan/blake.initial", Rows.laid_bandplan_blake_initial), ("bandplan/blake.order", Rows.laid_bandplan_blake_order)]

set_option maxRecDepth 10000000
theorem ti_no : Tryz.pinned.checked.prog.headLifts.contains "ownunsafe" = false := by kernel_rfl

theorem ti_w : Tryz.prog.worded (varsWordLater true) = true := by kernel_rfl

theorem ti_w2 : Tryz.prog.worded (varsWordLater !true) = false := by kernel_rfl

theorem ti_root : Tryz.prog.worded rootWordLater = true := by kernel_rfl

theorem ti_k : tiL.map (fun x => Tryz.prog.kindOfLater x.1) = ([.data, .data, .data, .data] : List LaidKind).map some := by kernel_rfl

theorem ti_g : (Tryz.prog.funcNamed "gosem.cut.vars").isSome = true := by kernel_rfl

theorem ti_n : varsNamedLaterB Tryz.prog (varsId Tryz.prog) tiL = true := by kernel_rfl

end Go.Proofs.YtphpkalbbmlgoaaGreatDoor
