/- The example of layer 25 is as the chapter says, in every world that holds the table. -/
import Derived.Test.YtlhlmcohdkkjpaaGreatDoorCe4
import Derived.Test.YtlhlmcohdkkjpaaGreatDoorCe3b
import Derived.Test.YtlhlmcohdkkjpaaGreatDoorCe3c
set_option linter.all false
set_option maxRecDepth 10000000
namespace Go.Proofs.YtlhlmcohdkkjpaaGreatDoor
open Go.RowKit
theorem vZ:GY ((Ev.XA Tryz.prog (Ev.yX kcB.rR kcD.rR) 1000000).c 5 [] H0 2)=true:=by kernel_rfl
theorem wC {W:World}(hT:QD W):Calls Tryz.prog 5 #[] W (fun e W'=>e= .returned (.bool true)∧z6 [] W W'):=
 (qh6 (Ev.su qh9 qh8) (xs:= []) rfl vZ (vs:= []) trivial (by omega) (by simp) hT).mono fun _ _ ⟨he,hb⟩=>⟨he,z6.uF hb⟩
end Go.Proofs.YtlhlmcohdkkjpaaGreatDoor
