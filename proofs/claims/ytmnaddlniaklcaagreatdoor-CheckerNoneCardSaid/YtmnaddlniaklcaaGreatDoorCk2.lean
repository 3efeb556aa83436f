/- The third query of the example, with the run of local.Solve known. -/
import Derived.Test.YtmnaddlniaklcaaGreatDoorCk1
import Derived.KernelRfl
namespace Go.Proofs.YtmnaddlniaklcaaGreatDoor
open Go Ev
noncomputable section

def cutB : Cut := ⟨45, [.p 464 0, .a (.sl 469 0 4 4), .i 100, .v (.c true [.int .i64 (.ofNat 2), .nils, .sl 465 0 3 3, .sl 467 0 2 2, .int .i64 (.ofNat 65)])], 2073,
  [(0, .cells 395 64 (wr .nil 0 [.int .u8 (.ofNat 0), .int .u8 (.ofNat 1), .int .u8 (.ofNat 56), .int .u8 (.ofNat 2), .int .u8 (.ofNat 57), .int .u8 (.ofNat 49), .int .u8 (.ofNat 28), .int .u8 (.ofNat 3), .int .u8 (.ofNat 61), .int .u8 (.ofNat 58), .int .u8 (.ofNat 42), .int .u8 (.ofNat 50), .int .u8 (.ofNat 38), .int .u8 (.ofNat 29), .int .u8 (.ofNat 17), .int .u8 (.ofNat 4), .int .u8 (.ofNat 62), .int .u8 (.ofNat 47), .int .u8 (.ofNat 59), .int .u8 (.ofNat 36), .int .u8 (.ofNat 45), .int .u8 (.ofNat 43), .int .u8 (.ofNat 51), .int .u8 (.ofNat 22), .int .u8 (.ofNat 53), .int .u8 (.ofNat 39), .int .u8 (.ofNat 33), .int .u8 (.ofNat 30), .int .u8 (.ofNat 24), .int .u8 (.ofNat 18), .int .u8 (.ofNat 12), .int .u8 (.ofNat 5), .int .u8 (.ofNat 63), .int .u8 (.ofNat 55), .int .u8 (.ofNat 48), .int .u8 (.ofNat 27), .int .u8 (.ofNat 60), .int .u8 (.ofNat 41), .int .u8 (.ofNat 37), .int .u8 (.ofNat 16), .int .u8 (.ofNat 46), .int .u8 (.ofNat 35), .int .u8 (.ofNat 44), .int .u8 (.ofNat 21), .int .u8 (.ofNat 52), .int .u8 (.ofNat 32), .int .u8 (.ofNat 23), .int .u8 (.ofNat 11), .int .u8 (.ofNat 54), .int .u8 (.ofNat 26), .int .u8 (.ofNat 40), .int .u8 (.ofNat 15), .int .u8 (.ofNat 34), .int .u8 (.ofNat 20), .int .u8 (.ofNat 31), .int .u8 (.ofNat 10), .int .u8 (.ofNat 25), .int .u8 (.ofNat 14), .int .u8 (.ofNat 19), .int .u8 (.ofNat 9), .int .u8 (.ofNat 13), .int .u8 (.ofNat 8), .int .u8 (.ofNat 7), .int .u8 (.ofNat 6)])),
    (208, .lcells 3 2 1 (wr .nil 0 [.int .i64 (.ofNat 14), .int .i64 (.ofNat 15)])),
    (214, .lcells 3 2 1 (wr .nil 0 [.int .i64 (.ofNat 14), .int .i64 (.ofNat 15)])),
    (220, .lcells 3 2 1 (wr .nil 0 [.int .i64 (.ofNat 14), .int .i64 (.ofNat 15)])),
    (226, .lcells 3 3 1 (wr .nil 0 [.int .i64 (.ofNat 14), .int .i64 (.ofNat 15), .int .i64 (.ofNat 16)])),
    (228, .lcells 167 8 2 (wr .nil 0 [.int .i64 (.ofNat 1), .slx 208 0 2 0, .int .i64 (.ofNat 2), .slx 214 0 2 0, .int .i64 (.ofNat 3), .slx 220 0 2 0, .int .i64 (.ofNat 4), .slx 226 0 3 0])),
    (248, .lcells 169 20 5 (wr .nil 0 [.int .i64 (.ofNat 1), .int .i64 (.ofNat 2), .int .i64 (.ofNat 0), .int .i64 (.ofNat 14), .int .i64 (.ofNat 51), .int .i64 (.ofNat 1), .int .i64 (.ofNat 3), .int .i64 (.ofNat 0), .int .i64 (.ofNat 14), .int .i64 (.ofNat 51), .int .i64 (.ofNat 2), .int .i64 (.ofNat 3), .int .i64 (.ofNat 0), .int .i64 (.ofNat 14), .int .i64 (.ofNat 51), .int .i64 (.ofNat 3), .int .i64 (.ofNat 4), .int .i64 (.ofNat 0), .int .i64 (.ofNat 14), .int .i64 (.ofNat 51)])),
    (419, .lcells 3 2 1 (wr .nil 0 [.int .i64 (.ofNat 14), .int .i64 (.ofNat 15)])),
    (425, .lcells 3 2 1 (wr .nil 0 [.int .i64 (.ofNat 14), .int .i64 (.ofNat 15)])),
    (431, .lcells 3 2 1 (wr .nil 0 [.int .i64 (.ofNat 14), .int .i64 (.ofNat 15)])),
    (437, .lcells 3 3 1 (wr .nil 0 [.int .i64 (.ofNat 14), .int .i64 (.ofNat 15), .int .i64 (.ofNat 16)])),
    (439, .lcells 167 8 2 (wr .nil 0 [.int .i64 (.ofNat 1), .slx 419 0 2 0, .int .i64 (.ofNat 2), .slx 425 0 2 0, .int .i64 (.ofNat 3), .slx 431 0 2 0, .int .i64 (.ofNat 4), .slx 437 0 3 0])),
    (459, .lcells 169 20 5 (wr .nil 0 [.int .i64 (.ofNat 1), .int .i64 (.ofNat 2), .int .i64 (.ofNat 0), .int .i64 (.ofNat 14), .int .i64 (.ofNat 51), .int .i64 (.ofNat 1), .int .i64 (.ofNat 3), .int .i64 (.ofNat 0), .int .i64 (.ofNat 14), .int .i64 (.ofNat 51), .int .i64 (.ofNat 2), .int .i64 (.ofNat 3), .int .i64 (.ofNat 0), .int .i64 (.ofNat 14), .int .i64 (.ofNat 51), .int .i64 (.ofNat 3), .int .i64 (.ofNat 4), .int .i64 (.ofNat 0), .int .i64 (.ofNat 14), .int .i64 (.ofNat 51)])),
    (463, .cells 154 15 (wr .nil 0 [.slx 439 0 4 0, .slx 459 0 4 0, .nils, .nils, .int .u64 (.ofNat 30), .int .u64 (.ofNat 0), .int .u64 (.ofNat 0), .int .u64 (.ofNat 0), .int .u64 (.ofNat 0), .int .u64 (.ofNat 0), .int .u64 (.ofNat 0), .int .u64 (.ofNat 0), .bool true, .slx 1107 0 1 0, .nils])),
    (464, .cells 35 5 (wr .nil 0 [.slx 228 0 4 0, .slx 248 0 4 0, .nils, .nils, .ptr 463 0])),
    (465, .cells 3 3 (wr .nil 0 [.int .i64 (.ofNat 1), .int .i64 (.ofNat 2), .int .i64 (.ofNat 3)])),
    (466, .cells 99 2 (wr .nil 0 [.int .i64 (.ofNat 1), .int .i64 (.ofNat 14)])),
    (467, .cells 23 2 (wr .nil 0 [.sl 466 0 1 1, .nils])),
    (469, .cells 3 4 (wr .nil 0 [.int .i64 (.ofNat 1), .int .i64 (.ofNat 2), .int .i64 (.ofNat 3), .int .i64 (.ofNat 4)])),
    (1098, .lcells 99 4 2 (wr .nil 0 [.int .i64 (.ofNat 1), .int .i64 (.ofNat 15), .int .i64 (.ofNat 2), .int .i64 (.ofNat 14)])),
    (1107, .lcells 237 9 9 (wr .nil 0 [.int .u64 (.ofNat 6), .int .u64 (.ofNat 0), .int .u64 (.ofNat 0), .int .u64 (.ofNat 0), .int .u64 (.ofNat 0), .int .u64 (.ofNat 0), .int .u64 (.ofNat 0), .int .u64 (.ofNat 0), .slx 1098 0 2 0]))], .b true,
  [(463, .cells 154 15 (wr .nil 0 [.slx 439 0 4 0, .slx 459 0 4 0, .nils, .nils, .int .u64 (.ofNat 30), .int .u64 (.ofNat 0), .int .u64 (.ofNat 0), .int .u64 (.ofNat 0), .int .u64 (.ofNat 0), .int .u64 (.ofNat 0), .int .u64 (.ofNat 0), .int .u64 (.ofNat 0), .bool true, .slx 1107 0 1 0, .slx 5057 0 1 0])),
    (5039, .lcells 3 3 1 (wr .nil 0 [.int .i64 (.ofNat 1), .int .i64 (.ofNat 2), .int .i64 (.ofNat 3)])),
    (5042, .lcells 99 2 2 (wr .nil 0 [.int .i64 (.ofNat 1), .int .i64 (.ofNat 14)])),
    (5045, .cells 99 0 (wr .nil 0 [])),
    (5047, .lcells 23 2 1 (wr .nil 0 [.slx 5042 0 1 0, .sl 5045 0 0 0])),
    (5057, .lcells 242 10 10 (wr .nil 0 [.int .u64 (.ofNat 14), .int .u64 (.ofNat 0), .int .u64 (.ofNat 0), .int .u64 (.ofNat 0), .int .u64 (.ofNat 0), .int .u64 (.ofNat 0), .int .u64 (.ofNat 0), .int .u64 (.ofNat 0), .slx 5039 0 3 0, .slx 5047 0 2 0]))], 5063⟩

set_option maxRecDepth 10000000 in
theorem cutB_chk : cutB.chk Tryz.prog cutA.hook 1000000 = true := by kernel_rfl
theorem cutB_ok : HookOk Tryz.prog cutB.hook := cut_ok noNum mixed cutA_ok cutB_chk

end
end Go.Proofs.YtmnaddlniaklcaaGreatDoor
