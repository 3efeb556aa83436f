/- The Options of the example. -/
import Derived.Test.YtmnaddlniaklcaaGreatDoorBvH
import Derived.KernelRfl
namespace Go.Proofs.YtmnaddlniaklcaaGreatDoor
open Go Ev
noncomputable section

def rcD : Cut := ⟨18, [.p 81 0, .i 2, .i 0], 5183,
  [(0, .cells 395 64 (wr .nil 0 [.int .u8 (.ofNat 0), .int .u8 (.ofNat 1), .int .u8 (.ofNat 56), .int .u8 (.ofNat 2), .int .u8 (.ofNat 57), .int .u8 (.ofNat 49), .int .u8 (.ofNat 28), .int .u8 (.ofNat 3), .int .u8 (.ofNat 61), .int .u8 (.ofNat 58), .int .u8 (.ofNat 42), .int .u8 (.ofNat 50), .int .u8 (.ofNat 38), .int .u8 (.ofNat 29), .int .u8 (.ofNat 17), .int .u8 (.ofNat 4), .int .u8 (.ofNat 62), .int .u8 (.ofNat 47), .int .u8 (.ofNat 59), .int .u8 (.ofNat 36), .int .u8 (.ofNat 45), .int .u8 (.ofNat 43), .int .u8 (.ofNat 51), .int .u8 (.ofNat 22), .int .u8 (.ofNat 53), .int .u8 (.ofNat 39), .int .u8 (.ofNat 33), .int .u8 (.ofNat 30), .int .u8 (.ofNat 24), .int .u8 (.ofNat 18), .int .u8 (.ofNat 12), .int .u8 (.ofNat 5), .int .u8 (.ofNat 63), .int .u8 (.ofNat 55), .int .u8 (.ofNat 48), .int .u8 (.ofNat 27), .int .u8 (.ofNat 60), .int .u8 (.ofNat 41), .int .u8 (.ofNat 37), .int .u8 (.ofNat 16), .int .u8 (.ofNat 46), .int .u8 (.ofNat 35), .int .u8 (.ofNat 44), .int .u8 (.ofNat 21), .int .u8 (.ofNat 52), .int .u8 (.ofNat 32), .int .u8 (.ofNat 23), .int .u8 (.ofNat 11), .int .u8 (.ofNat 54), .int .u8 (.ofNat 26), .int .u8 (.ofNat 40), .int .u8 (.ofNat 15), .int .u8 (.ofNat 34), .int .u8 (.ofNat 20), .int .u8 (.ofNat 31), .int .u8 (.ofNat 10), .int .u8 (.ofNat 25), .int .u8 (.ofNat 14), .int .u8 (.ofNat 19), .int .u8 (.ofNat 9), .int .u8 (.ofNat 13), .int .u8 (.ofNat 8), .int .u8 (.ofNat 7), .int .u8 (.ofNat 6)])),
    (79, .lcells 3 3 1 (wr .nil 0 [.int .i64 (.ofNat 1), .int .i64 (.ofNat 2), .int .i64 (.ofNat 3)])),
    (80, .cells 3 3 (wr .nil 0 [.int .i64 (.ofNat 1), .int .i64 (.ofNat 0), .int .i64 (.ofNat 3)])),
    (81, .cells 60 11 (wr .nil 0 [.slx 79 0 3 0, .sl 80 0 3 3, .int .i64 (.ofNat 24), .nilp, .ptr 573 0, .ptr 1482 0, .ptr 2712 0, .nils, .slx 5159 0 1 0, .nils, .slx 4659 0 1 0])),
    (371, .lcells 3 5 1 (wr .nil 0 [.int .i64 (.ofNat 2), .int .i64 (.ofNat 3), .int .i64 (.ofNat 4), .int .i64 (.ofNat 5), .int .i64 (.ofNat 6)])),
    (377, .lcells 3 5 1 (wr .nil 0 [.int .i64 (.ofNat 2), .int .i64 (.ofNat 3), .int .i64 (.ofNat 4), .int .i64 (.ofNat 5), .int .i64 (.ofNat 6)])),
    (383, .lcells 3 5 1 (wr .nil 0 [.int .i64 (.ofNat 2), .int .i64 (.ofNat 3), .int .i64 (.ofNat 4), .int .i64 (.ofNat 5), .int .i64 (.ofNat 6)])),
    (385, .lcells 167 6 2 (wr .nil 0 [.int .i64 (.ofNat 1), .slx 371 0 5 0, .int .i64 (.ofNat 2), .slx 377 0 5 0, .int .i64 (.ofNat 3), .slx 383 0 5 0])),
    (400, .lcells 169 15 5 (wr .nil 0 [.int .i64 (.ofNat 1), .int .i64 (.ofNat 2), .int .i64 (.ofNat 0), .int .i64 (.ofNat 14), .int .i64 (.ofNat 51), .int .i64 (.ofNat 1), .int .i64 (.ofNat 3), .int .i64 (.ofNat 0), .int .i64 (.ofNat 2), .int .i64 (.ofNat 2), .int .i64 (.ofNat 2), .int .i64 (.ofNat 3), .int .i64 (.ofNat 0), .int .i64 (.ofNat 14), .int .i64 (.ofNat 51)])),
    (539, .lcells 3 5 1 (wr .nil 0 [.int .i64 (.ofNat 2), .int .i64 (.ofNat 3), .int .i64 (.ofNat 4), .int .i64 (.ofNat 5), .int .i64 (.ofNat 6)])),
    (545, .lcells 3 5 1 (wr .nil 0 [.int .i64 (.ofNat 2), .int .i64 (.ofNat 3), .int .i64 (.ofNat 4), .int .i64 (.ofNat 5), .int .i64 (.ofNat 6)])),
    (551, .lcells 3 5 1 (wr .nil 0 [.int .i64 (.ofNat 2), .int .i64 (.ofNat 3), .int .i64 (.ofNat 4), .int .i64 (.ofNat 5), .int .i64 (.ofNat 6)])),
    (553, .lcells 167 6 2 (wr .nil 0 [.int .i64 (.ofNat 1), .slx 539 0 5 0, .int .i64 (.ofNat 2), .slx 545 0 5 0, .int .i64 (.ofNat 3), .slx 551 0 5 0])),
    (568, .lcells 169 15 5 (wr .nil 0 [.int .i64 (.ofNat 1), .int .i64 (.ofNat 2), .int .i64 (.ofNat 0), .int .i64 (.ofNat 14), .int .i64 (.ofNat 51), .int .i64 (.ofNat 1), .int .i64 (.ofNat 3), .int .i64 (.ofNat 0), .int .i64 (.ofNat 2), .int .i64 (.ofNat 2), .int .i64 (.ofNat 2), .int .i64 (.ofNat 3), .int .i64 (.ofNat 0), .int .i64 (.ofNat 14), .int .i64 (.ofNat 51)])),
    (572, .cells 154 15 (wr .nil 0 [.slx 553 0 3 0, .slx 568 0 3 0, .nils, .nils, .int .u64 (.ofNat 14), .int .u64 (.ofNat 0), .int .u64 (.ofNat 0), .int .u64 (.ofNat 0), .int .u64 (.ofNat 0), .int .u64 (.ofNat 0), .int .u64 (.ofNat 0), .int .u64 (.ofNat 0), .bool true, .slx 5151 0 1 0, .nils])),
    (573, .cells 35 5 (wr .nil 0 [.slx 385 0 3 0, .slx 400 0 3 0, .nils, .nils, .ptr 572 0])),
    (1280, .lcells 3 7 1 (wr .nil 0 [.int .i64 (.ofNat 7), .int .i64 (.ofNat 8), .int .i64 (.ofNat 9), .int .i64 (.ofNat 10), .int .i64 (.ofNat 11), .int .i64 (.ofNat 12), .int .i64 (.ofNat 13)])),
    (1286, .lcells 3 7 1 (wr .nil 0 [.int .i64 (.ofNat 7), .int .i64 (.ofNat 8), .int .i64 (.ofNat 9), .int .i64 (.ofNat 10), .int .i64 (.ofNat 11), .int .i64 (.ofNat 12), .int .i64 (.ofNat 13)])),
    (1292, .lcells 3 7 1 (wr .nil 0 [.int .i64 (.ofNat 7), .int .i64 (.ofNat 8), .int .i64 (.ofNat 9), .int .i64 (.ofNat 10), .int .i64 (.ofNat 11), .int .i64 (.ofNat 12), .int .i64 (.ofNat 13)])),
    (1294, .lcells 167 6 2 (wr .nil 0 [.int .i64 (.ofNat 1), .slx 1280 0 7 0, .int .i64 (.ofNat 2), .slx 1286 0 7 0, .int .i64 (.ofNat 3), .slx 1292 0 7 0])),
    (1309, .lcells 169 15 5 (wr .nil 0 [.int .i64 (.ofNat 1), .int .i64 (.ofNat 2), .int .i64 (.ofNat 0), .int .i64 (.ofNat 14), .int .i64 (.ofNat 51), .int .i64 (.ofNat 1), .int .i64 (.ofNat 3), .int .i64 (.ofNat 0), .int .i64 (.ofNat 2), .int .i64 (.ofNat 2), .int .i64 (.ofNat 2), .int .i64 (.ofNat 3), .int .i64 (.ofNat 0), .int .i64 (.ofNat 14), .int .i64 (.ofNat 51)])),
    (1448, .lcells 3 7 1 (wr .nil 0 [.int .i64 (.ofNat 7), .int .i64 (.ofNat 8), .int .i64 (.ofNat 9), .int .i64 (.ofNat 10), .int .i64 (.ofNat 11), .int .i64 (.ofNat 12), .int .i64 (.ofNat 13)])),
    (1454, .lcells 3 7 1 (wr .nil 0 [.int .i64 (.ofNat 7), .int .i64 (.ofNat 8), .int .i64 (.ofNat 9), .int .i64 (.ofNat 10), .int .i64 (.ofNat 11), .int .i64 (.ofNat 12), .int .i64 (.ofNat 13)])),
    (1460, .lcells 3 7 1 (wr .nil 0 [.int .i64 (.ofNat 7), .int .i64 (.ofNat 8), .int .i64 (.ofNat 9), .int .i64 (.ofNat 10), .int .i64 (.ofNat 11), .int .i64 (.ofNat 12), .int .i64 (.ofNat 13)])),
    (1462, .lcells 167 6 2 (wr .nil 0 [.int .i64 (.ofNat 1), .slx 1448 0 7 0, .int .i64 (.ofNat 2), .slx 1454 0 7 0, .int .i64 (.ofNat 3), .slx 1460 0 7 0])),
    (1477, .lcells 169 15 5 (wr .nil 0 [.int .i64 (.ofNat 1), .int .i64 (.ofNat 2), .int .i64 (.ofNat 0), .int .i64 (.ofNat 14), .int .i64 (.ofNat 51), .int .i64 (.ofNat 1), .int .i64 (.ofNat 3), .int .i64 (.ofNat 0), .int .i64 (.ofNat 2), .int .i64 (.ofNat 2), .int .i64 (.ofNat 2), .int .i64 (.ofNat 3), .int .i64 (.ofNat 0), .int .i64 (.ofNat 14), .int .i64 (.ofNat 51)])),
    (1481, .cells 154 15 (wr .nil 0 [.slx 1462 0 3 0, .slx 1477 0 3 0, .nils, .nils, .int .u64 (.ofNat 14), .int .u64 (.ofNat 0), .int .u64 (.ofNat 0), .int .u64 (.ofNat 0), .int .u64 (.ofNat 0), .int .u64 (.ofNat 0), .int .u64 (.ofNat 0), .int .u64 (.ofNat 0), .bool true, .slx 1870 0 1 0, .nils])),
    (1482, .cells 35 5 (wr .nil 0 [.slx 1294 0 3 0, .slx 1309 0 3 0, .nils, .nils, .ptr 1481 0])),
    (1870, .lcells 237 9 9 (wr .nil 0 [.int .u64 (.ofNat 0), .int .u64 (.ofNat 0), .int .u64 (.ofNat 0), .int .u64 (.ofNat 0), .int .u64 (.ofNat 0), .int .u64 (.ofNat 0), .int .u64 (.ofNat 0), .int .u64 (.ofNat 0), .nils])),
    (2510, .lcells 3 14 1 (wr .nil 0 [.int .i64 (.ofNat 14), .int .i64 (.ofNat 15), .int .i64 (.ofNat 16), .int .i64 (.ofNat 17), .int .i64 (.ofNat 18), .int .i64 (.ofNat 19), .int .i64 (.ofNat 20), .int .i64 (.ofNat 21), .int .i64 (.ofNat 22), .int .i64 (.ofNat 23), .int .i64 (.ofNat 24), .int .i64 (.ofNat 25), .int .i64 (.ofNat 26), .int .i64 (.ofNat 27)])),
    (2516, .lcells 3 14 1 (wr .nil 0 [.int .i64 (.ofNat 14), .int .i64 (.ofNat 15), .int .i64 (.ofNat 16), .int .i64 (.ofNat 17), .int .i64 (.ofNat 18), .int .i64 (.ofNat 19), .int .i64 (.ofNat 20), .int .i64 (.ofNat 21), .int .i64 (.ofNat 22), .int .i64 (.ofNat 23), .int .i64 (.ofNat 24), .int .i64 (.ofNat 25), .int .i64 (.ofNat 26), .int .i64 (.ofNat 27)])),
    (2522, .lcells 3 14 1 (wr .nil 0 [.int .i64 (.ofNat 14), .int .i64 (.ofNat 15), .int .i64 (.ofNat 16), .int .i64 (.ofNat 17), .int .i64 (.ofNat 18), .int .i64 (.ofNat 19), .int .i64 (.ofNat 20), .int .i64 (.ofNat 21), .int .i64 (.ofNat 22), .int .i64 (.ofNat 23), .int .i64 (.ofNat 24), .int .i64 (.ofNat 25), .int .i64 (.ofNat 26), .int .i64 (.ofNat 27)])),
    (2524, .lcells 167 6 2 (wr .nil 0 [.int .i64 (.ofNat 1), .slx 2510 0 14 0, .int .i64 (.ofNat 2), .slx 2516 0 14 0, .int .i64 (.ofNat 3), .slx 2522 0 14 0])),
    (2539, .lcells 169 15 5 (wr .nil 0 [.int .i64 (.ofNat 1), .int .i64 (.ofNat 2), .int .i64 (.ofNat 0), .int .i64 (.ofNat 14), .int .i64 (.ofNat 51), .int .i64 (.ofNat 1), .int .i64 (.ofNat 3), .int .i64 (.ofNat 0), .int .i64 (.ofNat 2), .int .i64 (.ofNat 2), .int .i64 (.ofNat 2), .int .i64 (.ofNat 3), .int .i64 (.ofNat 0), .int .i64 (.ofNat 14), .int .i64 (.ofNat 51)])),
    (2678, .lcells 3 14 1 (wr .nil 0 [.int .i64 (.ofNat 14), .int .i64 (.ofNat 15), .int .i64 (.ofNat 16), .int .i64 (.ofNat 17), .int .i64 (.ofNat 18), .int .i64 (.ofNat 19), .int .i64 (.ofNat 20), .int .i64 (.ofNat 21), .int .i64 (.ofNat 22), .int .i64 (.ofNat 23), .int .i64 (.ofNat 24), .int .i64 (.ofNat 25), .int .i64 (.ofNat 26), .int .i64 (.ofNat 27)])),
    (2684, .lcells 3 14 1 (wr .nil 0 [.int .i64 (.ofNat 14), .int .i64 (.ofNat 15), .int .i64 (.ofNat 16), .int .i64 (.ofNat 17), .int .i64 (.ofNat 18), .int .i64 (.ofNat 19), .int .i64 (.ofNat 20), .int .i64 (.ofNat 21), .int .i64 (.ofNat 22), .int .i64 (.ofNat 23), .int .i64 (.ofNat 24), .int .i64 (.ofNat 25), .int .i64 (.ofNat 26), .int .i64 (.ofNat 27)])),
    (2690, .lcells 3 14 1 (wr .nil 0 [.int .i64 (.ofNat 14), .int .i64 (.ofNat 15), .int .i64 (.ofNat 16), .int .i64 (.ofNat 17), .int .i64 (.ofNat 18), .int .i64 (.ofNat 19), .int .i64 (.ofNat 20), .int .i64 (.ofNat 21), .int .i64 (.ofNat 22), .int .i64 (.ofNat 23), .int .i64 (.ofNat 24), .int .i64 (.ofNat 25), .int .i64 (.ofNat 26), .int .i64 (.ofNat 27)])),
    (2692, .lcells 167 6 2 (wr .nil 0 [.int .i64 (.ofNat 1), .slx 2678 0 14 0, .int .i64 (.ofNat 2), .slx 2684 0 14 0, .int .i64 (.ofNat 3), .slx 2690 0 14 0])),
    (2707, .lcells 169 15 5 (wr .nil 0 [.int .i64 (.ofNat 1), .int .i64 (.ofNat 2), .int .i64 (.ofNat 0), .int .i64 (.ofNat 14), .int .i64 (.ofNat 51), .int .i64 (.ofNat 1), .int .i64 (.ofNat 3), .int .i64 (.ofNat 0), .int .i64 (.ofNat 2), .int .i64 (.ofNat 2), .int .i64 (.ofNat 2), .int .i64 (.ofNat 3), .int .i64 (.ofNat 0), .int .i64 (.ofNat 14), .int .i64 (.ofNat 51)])),
    (2711, .cells 154 15 (wr .nil 0 [.slx 2692 0 3 0, .slx 2707 0 3 0, .nils, .nils, .int .u64 (.ofNat 14), .int .u64 (.ofNat 0), .int .u64 (.ofNat 0), .int .u64 (.ofNat 0), .int .u64 (.ofNat 0), .int .u64 (.ofNat 0), .int .u64 (.ofNat 0), .int .u64 (.ofNat 0), .bool true, .slx 4593 0 1 0, .nils])),
    (2712, .cells 35 5 (wr .nil 0 [.slx 2524 0 3 0, .slx 2539 0 3 0, .nils, .nils, .ptr 2711 0])),
    (4579, .lcells 99 6 2 (wr .nil 0 [.int .i64 (.ofNat 1), .int .i64 (.ofNat 14), .int .i64 (.ofNat 2), .int .i64 (.ofNat 15), .int .i64 (.ofNat 3), .int .i64 (.ofNat 14)])),
    (4593, .lcells 237 9 9 (wr .nil 0 [.int .u64 (.ofNat 14), .int .u64 (.ofNat 0), .int .u64 (.ofNat 0), .int .u64 (.ofNat 0), .int .u64 (.ofNat 0), .int .u64 (.ofNat 0), .int .u64 (.ofNat 0), .int .u64 (.ofNat 0), .slx 4579 0 3 0])),
    (4659, .lcells 99 6 2 (wr .nil 0 [.int .i64 (.ofNat 3), .int .i64 (.ofNat 14), .int .i64 (.ofNat 0), .int .i64 (.ofNat 0), .int .i64 (.ofNat 0), .int .i64 (.ofNat 0)])),
    (5137, .lcells 99 2 2 (wr .nil 0 [.int .i64 (.ofNat 1), .int .i64 (.ofNat 2)])),
    (5151, .lcells 237 9 9 (wr .nil 0 [.int .u64 (.ofNat 2), .int .u64 (.ofNat 0), .int .u64 (.ofNat 0), .int .u64 (.ofNat 0), .int .u64 (.ofNat 0), .int .u64 (.ofNat 0), .int .u64 (.ofNat 0), .int .u64 (.ofNat 0), .slx 5137 0 1 0])),
    (5159, .lcells 99 2 2 (wr .nil 0 [.int .i64 (.ofNat 1), .int .i64 (.ofNat 2)]))], .v (.tup [(false, [.slx 6338 0 3 0]), (false, [.int .i64 (.ofNat 0)])]),
  [(572, .cells 154 15 (wr .nil 0 [.slx 553 0 3 0, .slx 568 0 3 0, .nils, .nils, .int .u64 (.ofNat 14), .int .u64 (.ofNat 0), .int .u64 (.ofNat 0), .int .u64 (.ofNat 0), .int .u64 (.ofNat 0), .int .u64 (.ofNat 0), .int .u64 (.ofNat 0), .int .u64 (.ofNat 0), .bool true, .slx 5823 0 1 0, .nils])),
    (1481, .cells 154 15 (wr .nil 0 [.slx 1462 0 3 0, .slx 1477 0 3 0, .nils, .nils, .int .u64 (.ofNat 14), .int .u64 (.ofNat 0), .int .u64 (.ofNat 0), .int .u64 (.ofNat 0), .int .u64 (.ofNat 0), .int .u64 (.ofNat 0), .int .u64 (.ofNat 0), .int .u64 (.ofNat 0), .bool true, .slx 6287 0 1 0, .nils])),
    (5809, .lcells 99 4 2 (wr .nil 0 [.int .i64 (.ofNat 1), .int .i64 (.ofNat 2), .int .i64 (.ofNat 2), .int .i64 (.ofNat 2)])),
    (5823, .lcells 237 9 9 (wr .nil 0 [.int .u64 (.ofNat 6), .int .u64 (.ofNat 0), .int .u64 (.ofNat 0), .int .u64 (.ofNat 0), .int .u64 (.ofNat 0), .int .u64 (.ofNat 0), .int .u64 (.ofNat 0), .int .u64 (.ofNat 0), .slx 5809 0 2 0])),
    (6273, .lcells 99 2 2 (wr .nil 0 [.int .i64 (.ofNat 2), .int .i64 (.ofNat 7)])),
    (6287, .lcells 237 9 9 (wr .nil 0 [.int .u64 (.ofNat 4), .int .u64 (.ofNat 0), .int .u64 (.ofNat 0), .int .u64 (.ofNat 0), .int .u64 (.ofNat 0), .int .u64 (.ofNat 0), .int .u64 (.ofNat 0), .int .u64 (.ofNat 0), .slx 6273 0 1 0])),
    (6338, .lcells 3 3 1 (wr .nil 0 [.int .i64 (.ofNat 1), .int .i64 (.ofNat 2), .int .i64 (.ofNat 3)]))], 6339⟩

set_option maxRecDepth 10000000 in
theorem rcD_chk : rcD.chk Tryz.prog validHook 1000000 = true := by kernel_rfl
theorem rcD_ok : HookOk Tryz.prog rcD.hook := cut_ok noNum mixed (validHook_ok) rcD_chk

end
end Go.Proofs.YtmnaddlniaklcaaGreatDoor
