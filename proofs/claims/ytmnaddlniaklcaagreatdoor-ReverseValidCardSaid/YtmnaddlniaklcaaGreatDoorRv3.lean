/- reverse.New of the example of layer 31. -/
import Derived.Test.YtmnaddlniaklcaaGreatDoorTab2
import Derived.KernelRfl
namespace Go.Proofs.YtmnaddlniaklcaaGreatDoor
open Go Ev
noncomputable section

def vcB : Cut := ⟨64, [.p 13 0, .a (.sl 1987 0 2 2), .i 1000, .i 1000, .i 7], 1988,
  [(0, .cells 395 64 (wr .nil 0 [.int .u8 (.ofNat 0), .int .u8 (.ofNat 1), .int .u8 (.ofNat 56), .int .u8 (.ofNat 2), .int .u8 (.ofNat 57), .int .u8 (.ofNat 49), .int .u8 (.ofNat 28), .int .u8 (.ofNat 3), .int .u8 (.ofNat 61), .int .u8 (.ofNat 58), .int .u8 (.ofNat 42), .int .u8 (.ofNat 50), .int .u8 (.ofNat 38), .int .u8 (.ofNat 29), .int .u8 (.ofNat 17), .int .u8 (.ofNat 4), .int .u8 (.ofNat 62), .int .u8 (.ofNat 47), .int .u8 (.ofNat 59), .int .u8 (.ofNat 36), .int .u8 (.ofNat 45), .int .u8 (.ofNat 43), .int .u8 (.ofNat 51), .int .u8 (.ofNat 22), .int .u8 (.ofNat 53), .int .u8 (.ofNat 39), .int .u8 (.ofNat 33), .int .u8 (.ofNat 30), .int .u8 (.ofNat 24), .int .u8 (.ofNat 18), .int .u8 (.ofNat 12), .int .u8 (.ofNat 5), .int .u8 (.ofNat 63), .int .u8 (.ofNat 55), .int .u8 (.ofNat 48), .int .u8 (.ofNat 27), .int .u8 (.ofNat 60), .int .u8 (.ofNat 41), .int .u8 (.ofNat 37), .int .u8 (.ofNat 16), .int .u8 (.ofNat 46), .int .u8 (.ofNat 35), .int .u8 (.ofNat 44), .int .u8 (.ofNat 21), .int .u8 (.ofNat 52), .int .u8 (.ofNat 32), .int .u8 (.ofNat 23), .int .u8 (.ofNat 11), .int .u8 (.ofNat 54), .int .u8 (.ofNat 26), .int .u8 (.ofNat 40), .int .u8 (.ofNat 15), .int .u8 (.ofNat 34), .int .u8 (.ofNat 20), .int .u8 (.ofNat 31), .int .u8 (.ofNat 10), .int .u8 (.ofNat 25), .int .u8 (.ofNat 14), .int .u8 (.ofNat 19), .int .u8 (.ofNat 9), .int .u8 (.ofNat 13), .int .u8 (.ofNat 8), .int .u8 (.ofNat 7), .int .u8 (.ofNat 6)])),
    (1, .cells 405 4 (wr .nil 0 [.int .i64 (.ofNat 0), .int .i64 (.ofNat 250), .int .i64 (.ofNat 600), .int .i64 (.ofNat 1000)])),
    (11, .lcells 3 2 1 (wr .nil 0 [.int .i64 (.ofNat 1), .int .i64 (.ofNat 2)])),
    (12, .cells 3 2 (wr .nil 0 [.int .i64 (.ofNat 0), .int .i64 (.ofNat 0)])),
    (13, .cells 60 11 (wr .nil 0 [.slx 11 0 2 0, .sl 12 0 2 2, .int .i64 (.ofNat 24), .nilp, .ptr 273 0, .ptr 866 0, .ptr 1673 0, .nils, .nils, .nils, .nils])),
    (175, .lcells 3 5 1 (wr .nil 0 [.int .i64 (.ofNat 2), .int .i64 (.ofNat 3), .int .i64 (.ofNat 4), .int .i64 (.ofNat 5), .int .i64 (.ofNat 6)])),
    (181, .lcells 3 5 1 (wr .nil 0 [.int .i64 (.ofNat 2), .int .i64 (.ofNat 3), .int .i64 (.ofNat 4), .int .i64 (.ofNat 5), .int .i64 (.ofNat 6)])),
    (183, .lcells 167 4 2 (wr .nil 0 [.int .i64 (.ofNat 1), .slx 175 0 5 0, .int .i64 (.ofNat 2), .slx 181 0 5 0])),
    (260, .lcells 3 5 1 (wr .nil 0 [.int .i64 (.ofNat 2), .int .i64 (.ofNat 3), .int .i64 (.ofNat 4), .int .i64 (.ofNat 5), .int .i64 (.ofNat 6)])),
    (266, .lcells 3 5 1 (wr .nil 0 [.int .i64 (.ofNat 2), .int .i64 (.ofNat 3), .int .i64 (.ofNat 4), .int .i64 (.ofNat 5), .int .i64 (.ofNat 6)])),
    (268, .lcells 167 4 2 (wr .nil 0 [.int .i64 (.ofNat 1), .slx 260 0 5 0, .int .i64 (.ofNat 2), .slx 266 0 5 0])),
    (272, .cells 154 15 (wr .nil 0 [.slx 268 0 2 0, .nils, .nils, .nils, .int .u64 (.ofNat 6), .int .u64 (.ofNat 0), .int .u64 (.ofNat 0), .int .u64 (.ofNat 0), .int .u64 (.ofNat 0), .int .u64 (.ofNat 0), .int .u64 (.ofNat 0), .int .u64 (.ofNat 0), .bool true, .slx 585 0 1 0, .nils])),
    (273, .cells 35 5 (wr .nil 0 [.slx 183 0 2 0, .nils, .nils, .nils, .ptr 272 0])),
    (585, .lcells 237 9 9 (wr .nil 0 [.int .u64 (.ofNat 0), .int .u64 (.ofNat 0), .int .u64 (.ofNat 0), .int .u64 (.ofNat 0), .int .u64 (.ofNat 0), .int .u64 (.ofNat 0), .int .u64 (.ofNat 0), .int .u64 (.ofNat 0), .nils])),
    (768, .lcells 3 7 1 (wr .nil 0 [.int .i64 (.ofNat 7), .int .i64 (.ofNat 8), .int .i64 (.ofNat 9), .int .i64 (.ofNat 10), .int .i64 (.ofNat 11), .int .i64 (.ofNat 12), .int .i64 (.ofNat 13)])),
    (774, .lcells 3 7 1 (wr .nil 0 [.int .i64 (.ofNat 7), .int .i64 (.ofNat 8), .int .i64 (.ofNat 9), .int .i64 (.ofNat 10), .int .i64 (.ofNat 11), .int .i64 (.ofNat 12), .int .i64 (.ofNat 13)])),
    (776, .lcells 167 4 2 (wr .nil 0 [.int .i64 (.ofNat 1), .slx 768 0 7 0, .int .i64 (.ofNat 2), .slx 774 0 7 0])),
    (853, .lcells 3 7 1 (wr .nil 0 [.int .i64 (.ofNat 7), .int .i64 (.ofNat 8), .int .i64 (.ofNat 9), .int .i64 (.ofNat 10), .int .i64 (.ofNat 11), .int .i64 (.ofNat 12), .int .i64 (.ofNat 13)])),
    (859, .lcells 3 7 1 (wr .nil 0 [.int .i64 (.ofNat 7), .int .i64 (.ofNat 8), .int .i64 (.ofNat 9), .int .i64 (.ofNat 10), .int .i64 (.ofNat 11), .int .i64 (.ofNat 12), .int .i64 (.ofNat 13)])),
    (861, .lcells 167 4 2 (wr .nil 0 [.int .i64 (.ofNat 1), .slx 853 0 7 0, .int .i64 (.ofNat 2), .slx 859 0 7 0])),
    (865, .cells 154 15 (wr .nil 0 [.slx 861 0 2 0, .nils, .nils, .nils, .int .u64 (.ofNat 6), .int .u64 (.ofNat 0), .int .u64 (.ofNat 0), .int .u64 (.ofNat 0), .int .u64 (.ofNat 0), .int .u64 (.ofNat 0), .int .u64 (.ofNat 0), .int .u64 (.ofNat 0), .bool true, .slx 1178 0 1 0, .nils])),
    (866, .cells 35 5 (wr .nil 0 [.slx 776 0 2 0, .nils, .nils, .nils, .ptr 865 0])),
    (1178, .lcells 237 9 9 (wr .nil 0 [.int .u64 (.ofNat 0), .int .u64 (.ofNat 0), .int .u64 (.ofNat 0), .int .u64 (.ofNat 0), .int .u64 (.ofNat 0), .int .u64 (.ofNat 0), .int .u64 (.ofNat 0), .int .u64 (.ofNat 0), .nils])),
    (1575, .lcells 3 14 1 (wr .nil 0 [.int .i64 (.ofNat 14), .int .i64 (.ofNat 15), .int .i64 (.ofNat 16), .int .i64 (.ofNat 17), .int .i64 (.ofNat 18), .int .i64 (.ofNat 19), .int .i64 (.ofNat 20), .int .i64 (.ofNat 21), .int .i64 (.ofNat 22), .int .i64 (.ofNat 23), .int .i64 (.ofNat 24), .int .i64 (.ofNat 25), .int .i64 (.ofNat 26), .int .i64 (.ofNat 27)])),
    (1581, .lcells 3 14 1 (wr .nil 0 [.int .i64 (.ofNat 14), .int .i64 (.ofNat 15), .int .i64 (.ofNat 16), .int .i64 (.ofNat 17), .int .i64 (.ofNat 18), .int .i64 (.ofNat 19), .int .i64 (.ofNat 20), .int .i64 (.ofNat 21), .int .i64 (.ofNat 22), .int .i64 (.ofNat 23), .int .i64 (.ofNat 24), .int .i64 (.ofNat 25), .int .i64 (.ofNat 26), .int .i64 (.ofNat 27)])),
    (1583, .lcells 167 4 2 (wr .nil 0 [.int .i64 (.ofNat 1), .slx 1575 0 14 0, .int .i64 (.ofNat 2), .slx 1581 0 14 0])),
    (1660, .lcells 3 14 1 (wr .nil 0 [.int .i64 (.ofNat 14), .int .i64 (.ofNat 15), .int .i64 (.ofNat 16), .int .i64 (.ofNat 17), .int .i64 (.ofNat 18), .int .i64 (.ofNat 19), .int .i64 (.ofNat 20), .int .i64 (.ofNat 21), .int .i64 (.ofNat 22), .int .i64 (.ofNat 23), .int .i64 (.ofNat 24), .int .i64 (.ofNat 25), .int .i64 (.ofNat 26), .int .i64 (.ofNat 27)])),
    (1666, .lcells 3 14 1 (wr .nil 0 [.int .i64 (.ofNat 14), .int .i64 (.ofNat 15), .int .i64 (.ofNat 16), .int .i64 (.ofNat 17), .int .i64 (.ofNat 18), .int .i64 (.ofNat 19), .int .i64 (.ofNat 20), .int .i64 (.ofNat 21), .int .i64 (.ofNat 22), .int .i64 (.ofNat 23), .int .i64 (.ofNat 24), .int .i64 (.ofNat 25), .int .i64 (.ofNat 26), .int .i64 (.ofNat 27)])),
    (1668, .lcells 167 4 2 (wr .nil 0 [.int .i64 (.ofNat 1), .slx 1660 0 14 0, .int .i64 (.ofNat 2), .slx 1666 0 14 0])),
    (1672, .cells 154 15 (wr .nil 0 [.slx 1668 0 2 0, .nils, .nils, .nils, .int .u64 (.ofNat 6), .int .u64 (.ofNat 0), .int .u64 (.ofNat 0), .int .u64 (.ofNat 0), .int .u64 (.ofNat 0), .int .u64 (.ofNat 0), .int .u64 (.ofNat 0), .int .u64 (.ofNat 0), .bool true, .slx 1985 0 1 0, .nils])),
    (1673, .cells 35 5 (wr .nil 0 [.slx 1583 0 2 0, .nils, .nils, .nils, .ptr 1672 0])),
    (1985, .lcells 237 9 9 (wr .nil 0 [.int .u64 (.ofNat 0), .int .u64 (.ofNat 0), .int .u64 (.ofNat 0), .int .u64 (.ofNat 0), .int .u64 (.ofNat 0), .int .u64 (.ofNat 0), .int .u64 (.ofNat 0), .int .u64 (.ofNat 0), .nils])),
    (1987, .cells 123 6 (wr .nil 0 [.int .i64 (.ofNat 1), .int .i64 (.ofNat 3), .int .i64 (.ofNat 1000000), .int .i64 (.ofNat 2), .int .i64 (.ofNat 3), .int .i64 (.ofNat 500000)]))], .v (.tup [(false, [.ptr 2013 0]), (false, [.int .i64 (.ofNat 0)])]),
  [(2001, .cells 3 2 (wr .nil 0 [.int .i64 (.ofNat 0), .int .i64 (.ofNat 1)])),
    (2003, .lcells 3 2 1 (wr .nil 0 [.int .i64 (.ofNat 1), .int .i64 (.ofNat 2)])),
    (2005, .lcells 3 2 1 (wr .nil 0 [.int .i64 (.ofNat 0), .int .i64 (.ofNat 0)])),
    (2006, .cells 60 11 (wr .nil 0 [.slx 2003 0 2 0, .slx 2005 0 2 0, .int .i64 (.ofNat 24), .nilp, .ptr 2008 0, .ptr 2010 0, .ptr 2012 0, .nils, .nils, .nils, .nils])),
    (2007, .cells 154 15 (wr .nil 0 [.slx 268 0 2 0, .nils, .nils, .nils, .int .u64 (.ofNat 6), .int .u64 (.ofNat 0), .int .u64 (.ofNat 0), .int .u64 (.ofNat 0), .int .u64 (.ofNat 0), .int .u64 (.ofNat 0), .int .u64 (.ofNat 0), .int .u64 (.ofNat 0), .bool true, .slx 585 0 1 0, .nils])),
    (2008, .cells 35 5 (wr .nil 0 [.slx 183 0 2 0, .nils, .nils, .nils, .ptr 2007 0])),
    (2009, .cells 154 15 (wr .nil 0 [.slx 861 0 2 0, .nils, .nils, .nils, .int .u64 (.ofNat 6), .int .u64 (.ofNat 0), .int .u64 (.ofNat 0), .int .u64 (.ofNat 0), .int .u64 (.ofNat 0), .int .u64 (.ofNat 0), .int .u64 (.ofNat 0), .int .u64 (.ofNat 0), .bool true, .slx 1178 0 1 0, .nils])),
    (2010, .cells 35 5 (wr .nil 0 [.slx 776 0 2 0, .nils, .nils, .nils, .ptr 2009 0])),
    (2011, .cells 154 15 (wr .nil 0 [.slx 1668 0 2 0, .nils, .nils, .nils, .int .u64 (.ofNat 6), .int .u64 (.ofNat 0), .int .u64 (.ofNat 0), .int .u64 (.ofNat 0), .int .u64 (.ofNat 0), .int .u64 (.ofNat 0), .int .u64 (.ofNat 0), .int .u64 (.ofNat 0), .bool true, .slx 2798 0 2 0, .nils])),
    (2012, .cells 35 5 (wr .nil 0 [.slx 1583 0 2 0, .nils, .nils, .nils, .ptr 2011 0])),
    (2013, .cells 222 7 (wr .nil 0 [.ptr 2006 0, .int .i64 (.ofNat 1000), .int .i64 (.ofNat 1000), .int .i64 (.ofNat 1000), .int .i64 (.ofNat 0), .sl 2001 0 2 2, .slx 2029 0 2 0])),
    (2029, .lcells 225 14 7 (wr .nil 0 [.int .i64 (.ofNat 1), .int .i64 (.ofNat 3), .int .i64 (.ofNat 1000000), .int .i64 (.ofNat 1), .int .i64 (.ofNat 0), .int .i64 (.ofNat 1000), .int .i64 (.ofNat 1000), .int .i64 (.ofNat 2), .int .i64 (.ofNat 3), .int .i64 (.ofNat 500000), .int .i64 (.ofNat 1), .int .i64 (.ofNat 0), .int .i64 (.ofNat 1000), .int .i64 (.ofNat 500)])),
    (2398, .lcells 99 2 2 (wr .nil 0 [.int .i64 (.ofNat 1), .int .i64 (.ofNat 14)])),
    (2782, .lcells 99 2 2 (wr .nil 0 [.int .i64 (.ofNat 2), .int .i64 (.ofNat 14)])),
    (2798, .lcells 237 18 9 (wr .nil 0 [.int .u64 (.ofNat 2), .int .u64 (.ofNat 0), .int .u64 (.ofNat 0), .int .u64 (.ofNat 0), .int .u64 (.ofNat 0), .int .u64 (.ofNat 0), .int .u64 (.ofNat 0), .int .u64 (.ofNat 0), .slx 2398 0 1 0, .int .u64 (.ofNat 4), .int .u64 (.ofNat 0), .int .u64 (.ofNat 0), .int .u64 (.ofNat 0), .int .u64 (.ofNat 0), .int .u64 (.ofNat 0), .int .u64 (.ofNat 0), .int .u64 (.ofNat 0), .slx 2782 0 1 0]))], 2800⟩

set_option maxRecDepth 10000000 in
theorem vcB_chk : vcB.chk Tryz.prog validHook 1000000 = true := by kernel_rfl
theorem vcB_ok : HookOk Tryz.prog vcB.hook := cut_ok noNum mixed (validHook_ok) vcB_chk

end
end Go.Proofs.YtmnaddlniaklcaaGreatDoor
