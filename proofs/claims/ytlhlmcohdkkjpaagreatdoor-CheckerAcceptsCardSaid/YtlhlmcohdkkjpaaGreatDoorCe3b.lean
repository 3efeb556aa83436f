/- The third query of the example, with the run of local.Solve known. -/
import Derived.Test.YtlhlmcohdkkjpaaGreatDoorCe3a
set_option linter.all false
set_option maxRecDepth 10000000
namespace Go.Proofs.YtlhlmcohdkkjpaaGreatDoor
open Go Ev
noncomputable section
def kcB:Cut:=⟨34,[.p 439 0,.a (.sl 444 0 4 4),.a (.nils),.i 100],2049,
 [(0,iA),
  (183,.lcells 3 2 1 (wr .nil 0 [i4 14,i4 15])),
  (189,.lcells 3 2 1 (wr .nil 0 [i4 14,i4 15])),
  (195,.lcells 3 2 1 (wr .nil 0 [i4 14,i4 15])),
  (201,.lcells 3 3 1 (wr .nil 0 [i4 14,i4 15,i4 16])),
  (203,.lcells 75 8 2 (wr .nil 0 [i4 1,.slx 183 0 2 0,i4 2,.slx 189 0 2 0,i4 3,.slx 195 0 2 0,i4 4,.slx 201 0 3 0])),
  (223,.lcells 79 20 5 (wr .nil 0 [i4 1,i4 2,i4 0,i4 14,i4 51,i4 1,i4 3,i4 0,i4 14,i4 51,i4 2,i4 3,i4 0,i4 14,i4 51,i4 3,i4 4,i4 0,i4 14,i4 51])),
  (394,.lcells 3 2 1 (wr .nil 0 [i4 14,i4 15])),
  (400,.lcells 3 2 1 (wr .nil 0 [i4 14,i4 15])),
  (406,.lcells 3 2 1 (wr .nil 0 [i4 14,i4 15])),
  (412,.lcells 3 3 1 (wr .nil 0 [i4 14,i4 15,i4 16])),
  (414,.lcells 75 8 2 (wr .nil 0 [i4 1,.slx 394 0 2 0,i4 2,.slx 400 0 2 0,i4 3,.slx 406 0 2 0,i4 4,.slx 412 0 3 0])),
  (434,.lcells 79 20 5 (wr .nil 0 [i4 1,i4 2,i4 0,i4 14,i4 51,i4 1,i4 3,i4 0,i4 14,i4 51,i4 2,i4 3,i4 0,i4 14,i4 51,i4 3,i4 4,i4 0,i4 14,i4 51])),
  (438,.cells 127 15 (wr .nil 0 [.slx 414 0 4 0,.slx 434 0 4 0,.nils,.nils,u4 30,u4 0,u4 0,u4 0,u4 0,u4 0,u4 0,u4 0,.bool true,.slx 1082 0 1 0,.nils])),
  (439,.cells 94 5 (wr .nil 0 [.slx 203 0 4 0,.slx 223 0 4 0,.nils,.nils,.ptr 438 0])),
  (444,.cells 3 4 (wr .nil 0 [i4 1,i4 2,i4 3,i4 4])),
  (1073,.lcells 53 4 2 (wr .nil 0 [i4 1,i4 15,i4 2,i4 14])),
  (1082,.lcells 191 9 9 (wr .nil 0 [u4 6,u4 0,u4 0,u4 0,u4 0,u4 0,u4 0,u4 0,.slx 1073 0 2 0]))],.v (.tup [(true,[i4 2,.nils,.sl 2567 0 3 3,.slx 4988 0 2 0,i4 65]),(false,[i4 0])]),
 [(438,.cells 127 15 (wr .nil 0 [.slx 414 0 4 0,.slx 434 0 4 0,.nils,.nils,u4 30,u4 0,u4 0,u4 0,u4 0,u4 0,u4 0,u4 0,.bool true,.slx 1082 0 1 0,.slx 5032 0 1 0])),
  (2567,.cells 3 3 (wr .nil 0 [i4 1,i4 2,i4 3])),
  (4983,.lcells 53 2 2 (wr .nil 0 [i4 1,i4 14])),
  (4986,.cells 53 0 (wr .nil 0 [])),
  (4988,.lcells 32 2 1 (wr .nil 0 [.slx 4983 0 1 0,.sl 4986 0 0 0])),
  (5014,.lcells 3 3 1 (wr .nil 0 [i4 1,i4 2,i4 3])),
  (5017,.lcells 53 2 2 (wr .nil 0 [i4 1,i4 14])),
  (5020,.cells 53 0 (wr .nil 0 [])),
  (5022,.lcells 32 2 1 (wr .nil 0 [.slx 5017 0 1 0,.sl 5020 0 0 0])),
  (5032,.lcells 196 10 10 (wr .nil 0 [u4 14,u4 0,u4 0,u4 0,u4 0,u4 0,u4 0,u4 0,.slx 5014 0 3 0,.slx 5022 0 2 0]))],5033⟩
theorem TL:kcB.chk Tryz.prog kcA.rR 1000000=true:=by kernel_rfl
theorem qh9:Ey Tryz.prog kcB.rR:=zJ ua mixed qi0 TL
end
end Go.Proofs.YtlhlmcohdkkjpaaGreatDoor
