/- The run of RepackNone: whatever the input, the interpreter answers true. -/
import Derived.Test.YtmnaddlniaklcaaGreatDoorRp2
import Derived.Test.YtmnaddlniaklcaaGreatDoorRp3
import Derived.Test.YtmnaddlniaklcaaGreatDoorRp4
import Derived.KernelRfl
namespace Go.Proofs.YtmnaddlniaklcaaGreatDoor.repackNone
open Go.ChangeShapes Go.WideShapes Go.ChangeAt Go.RowKit
set_option linter.unusedVariables false

set_option maxRecDepth 10000000 in
theorem run : okLaw ((Ev.evQ Tryz.prog (Ev.orHook rcB.hook (Ev.orHook rcC.hook (Ev.orHook rcD.hook validHook))) 1000000).c 4 [.a (.opq 0), .a (.opq 1), .a (.opq 2)] H0 3) = true := by kernel_rfl

theorem law {W : World} (hT : Tab W) (v0 v1 v2 : Value) (h0 : v0.oneCell' = true) (h1 : v1.oneCell' = true) (h2 : v2.oneCell' = true) : Calls Tryz.prog 4 #[v0, v1, v2] W (fun e W' => e = .returned (.bool true) ∧ Below W.heap.size W W') :=
  law_of ((Ev.orHook_ok rcB_ok (Ev.orHook_ok rcC_ok (Ev.orHook_ok rcD_ok validHook_ok)))) (xs := [.one (.opq 0), .one (.opq 1), .one (.opq 2)]) rfl run (vs := [v0, v1, v2])
    ⟨Ev.one_conc.2 (by simp [Ev.At.conc, env0, h0]), Ev.one_conc.2 (by simp [Ev.At.conc, env0, h1]), Ev.one_conc.2 (by simp [Ev.At.conc, env0, h2]), trivial⟩ (by omega) (by simp) hT

end Go.Proofs.YtmnaddlniaklcaaGreatDoor.repackNone
