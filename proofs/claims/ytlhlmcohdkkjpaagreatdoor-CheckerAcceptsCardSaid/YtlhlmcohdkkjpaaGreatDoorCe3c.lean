/- A run of checker.solve in the second query, by itself. -/
import Derived.Test.YtlhlmcohdkkjpaaGreatDoorCe3a
set_option linter.all false
set_option maxRecDepth 10000000
namespace Go.Proofs.YtlhlmcohdkkjpaaGreatDoor
open Go Ev
noncomputable section
def kcD:Cut:=⟨60,[.v (.c true [.slx 1221 0 4 0,.slx 1241 0 4 0,.nils,.nils]),.a (.nils),.i 0],1243,
 [(0,iA),
  (1201,.lcells 3 2 1 (wr .nil 0 [i4 14,i4 15])),
  (1207,.lcells 3 2 1 (wr .nil 0 [i4 14,i4 15])),
  (1213,.lcells 3 2 1 (wr .nil 0 [i4 14,i4 15])),
  (1219,.lcells 3 3 1 (wr .nil 0 [i4 14,i4 15,i4 16])),
  (1221,.lcells 75 8 2 (wr .nil 0 [i4 1,.slx 1201 0 2 0,i4 2,.slx 1207 0 2 0,i4 3,.slx 1213 0 2 0,i4 4,.slx 1219 0 3 0])),
  (1241,.lcells 79 20 5 (wr .nil 0 [i4 1,i4 2,i4 0,i4 14,i4 51,i4 1,i4 3,i4 0,i4 14,i4 51,i4 2,i4 3,i4 0,i4 14,i4 51,i4 3,i4 4,i4 0,i4 14,i4 51]))],.v (.tup [(true,[i4 0,.nils,.nils,.nils,i4 0]),(false,[i4 0])]),
 [],2042⟩
theorem TK:kcD.chk Tryz.prog yZ 1000000=true:=by kernel_rfl
theorem qh8:Ey Tryz.prog kcD.rR:=zJ ua mixed (lF _) TK
end
end Go.Proofs.YtlhlmcohdkkjpaaGreatDoor
