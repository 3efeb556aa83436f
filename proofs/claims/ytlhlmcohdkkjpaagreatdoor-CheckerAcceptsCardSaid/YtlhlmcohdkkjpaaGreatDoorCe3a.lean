/- A run of local.Solve in the example of layer 25, by itself. -/
import Derived.Test.YtlhlmcohdkkjpaaGreatDoorTabA
set_option linter.all false
set_option maxRecDepth 10000000
namespace Go.Proofs.YtlhlmcohdkkjpaaGreatDoor
open Go Ev
noncomputable section
def i4 (n:Nat):At:= .int .i64 (.ofNat n)
def u4 (n:Nat):At:= .int .u64 (.ofNat n)
def kcA:Cut:=⟨149,[.v (.c true [.slx 2680 0 3 0,.slx 2697 0 3 0,.nils,.nils]),.a (.nils),.i 1,.i 64],2707,
 [(0,iA),
  (2666,.lcells 3 2 1 (wr .nil 0 [i4 14,i4 15])),
  (2672,.lcells 3 2 1 (wr .nil 0 [i4 14,i4 15])),
  (2678,.lcells 3 2 1 (wr .nil 0 [i4 14,i4 15])),
  (2680,.lcells 75 6 2 (wr .nil 0 [i4 1,.slx 2666 0 2 0,i4 2,.slx 2672 0 2 0,i4 3,.slx 2678 0 2 0])),
  (2697,.lcells 79 15 5 (wr .nil 0 [i4 1,i4 2,i4 0,i4 14,i4 51,i4 1,i4 3,i4 0,i4 14,i4 51,i4 2,i4 3,i4 0,i4 14,i4 51]))],.v (.tup [(false,[.sl 2761 0 3 3]),(false,[i4 64]),(false,[.bool false]),(false,[i4 0])]),
 [(2761,.cells 53 6 (wr .nil 0 [i4 1,i4 14,i4 2,i4 15,i4 3,i4 15]))],4658⟩
theorem TM:kcA.chk Tryz.prog yZ 1000000=true:=by kernel_rfl
theorem qi0:Ey Tryz.prog kcA.rR:=zJ ua mixed (lF _) TM
end
end Go.Proofs.YtlhlmcohdkkjpaaGreatDoor
