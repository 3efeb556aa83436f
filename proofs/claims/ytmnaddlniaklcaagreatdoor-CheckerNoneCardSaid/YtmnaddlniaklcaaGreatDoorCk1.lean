/- A run of local.Solve, by itself. -/
import Derived.Test.YtmnaddlniaklcaaGreatDoorTab
import Derived.KernelRfl
namespace Go.Proofs.YtmnaddlniaklcaaGreatDoor
open Go Ev
noncomputable section

def cutA : Cut := ⟨151, [.v (.c true [.slx 2705 0 3 0, .slx 2722 0 3 0, .nils, .nils]), .a (.nils), .i 1, .i 64], 2732,
  [(0, .cells 395 64 (wr .nil 0 [.int .u8 (.ofNat 0), .int .u8 (.ofNat 1), .int .u8 (.ofNat 56), .int .u8 (.ofNat 2), .int .u8 (.ofNat 57), .int .u8 (.ofNat 49), .int .u8 (.ofNat 28), .int .u8 (.ofNat 3), .int .u8 (.ofNat 61), .int .u8 (.ofNat 58), .int .u8 (.ofNat 42), .int .u8 (.ofNat 50), .int .u8 (.ofNat 38), .int .u8 (.ofNat 29), .int .u8 (.ofNat 17), .int .u8 (.ofNat 4), .int .u8 (.ofNat 62), .int .u8 (.ofNat 47), .int .u8 (.ofNat 59), .int .u8 (.ofNat 36), .int .u8 (.ofNat 45), .int .u8 (.ofNat 43), .int .u8 (.ofNat 51), .int .u8 (.ofNat 22), .int .u8 (.ofNat 53), .int .u8 (.ofNat 39), .int .u8 (.ofNat 33), .int .u8 (.ofNat 30), .int .u8 (.ofNat 24), .int .u8 (.ofNat 18), .int .u8 (.ofNat 12), .int .u8 (.ofNat 5), .int .u8 (.ofNat 63), .int .u8 (.ofNat 55), .int .u8 (.ofNat 48), .int .u8 (.ofNat 27), .int .u8 (.ofNat 60), .int .u8 (.ofNat 41), .int .u8 (.ofNat 37), .int .u8 (.ofNat 16), .int .u8 (.ofNat 46), .int .u8 (.ofNat 35), .int .u8 (.ofNat 44), .int .u8 (.ofNat 21), .int .u8 (.ofNat 52), .int .u8 (.ofNat 32), .int .u8 (.ofNat 23), .int .u8 (.ofNat 11), .int .u8 (.ofNat 54), .int .u8 (.ofNat 26), .int .u8 (.ofNat 40), .int .u8 (.ofNat 15), .int .u8 (.ofNat 34), .int .u8 (.ofNat 20), .int .u8 (.ofNat 31), .int .u8 (.ofNat 10), .int .u8 (.ofNat 25), .int .u8 (.ofNat 14), .int .u8 (.ofNat 19), .int .u8 (.ofNat 9), .int .u8 (.ofNat 13), .int .u8 (.ofNat 8), .int .u8 (.ofNat 7), .int .u8 (.ofNat 6)])),
    (2691, .lcells 3 2 1 (wr .nil 0 [.int .i64 (.ofNat 14), .int .i64 (.ofNat 15)])),
    (2697, .lcells 3 2 1 (wr .nil 0 [.int .i64 (.ofNat 14), .int .i64 (.ofNat 15)])),
    (2703, .lcells 3 2 1 (wr .nil 0 [.int .i64 (.ofNat 14), .int .i64 (.ofNat 15)])),
    (2705, .lcells 167 6 2 (wr .nil 0 [.int .i64 (.ofNat 1), .slx 2691 0 2 0, .int .i64 (.ofNat 2), .slx 2697 0 2 0, .int .i64 (.ofNat 3), .slx 2703 0 2 0])),
    (2722, .lcells 169 15 5 (wr .nil 0 [.int .i64 (.ofNat 1), .int .i64 (.ofNat 2), .int .i64 (.ofNat 0), .int .i64 (.ofNat 14), .int .i64 (.ofNat 51), .int .i64 (.ofNat 1), .int .i64 (.ofNat 3), .int .i64 (.ofNat 0), .int .i64 (.ofNat 14), .int .i64 (.ofNat 51), .int .i64 (.ofNat 2), .int .i64 (.ofNat 3), .int .i64 (.ofNat 0), .int .i64 (.ofNat 14), .int .i64 (.ofNat 51)]))], .v (.tup [(false, [.sl 2786 0 3 3]), (false, [.int .i64 (.ofNat 64)]), (false, [.bool false]), (false, [.int .i64 (.ofNat 0)])]),
  [(2786, .cells 99 6 (wr .nil 0 [.int .i64 (.ofNat 1), .int .i64 (.ofNat 14), .int .i64 (.ofNat 2), .int .i64 (.ofNat 15), .int .i64 (.ofNat 3), .int .i64 (.ofNat 15)]))], 4683⟩

set_option maxRecDepth 10000000 in
theorem cutA_chk : cutA.chk Tryz.prog noHook 1000000 = true := by kernel_rfl
theorem cutA_ok : HookOk Tryz.prog cutA.hook := cut_ok noNum mixed (noHook_ok _) cutA_chk

end
end Go.Proofs.YtmnaddlniaklcaaGreatDoor
