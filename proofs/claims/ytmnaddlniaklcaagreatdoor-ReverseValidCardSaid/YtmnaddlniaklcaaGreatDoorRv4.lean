/- The example of layer 31 is as the chapter says, in every world. -/
import Derived.Test.YtmnaddlniaklcaaGreatDoorRv2
import Derived.Test.YtmnaddlniaklcaaGreatDoorRv3
import Derived.KernelRfl
namespace Go.Proofs.YtmnaddlniaklcaaGreatDoor
open Go Ev

set_option maxRecDepth 10000000 in
theorem known31_run : okLaw2 ((evQ Tryz.prog (orHook vcA.hook (orHook vcB.hook validHook)) 1000000).c 25 [] H2 3) = true := by kernel_rfl
theorem known31_any {W : World} (hT : Tabs W) : Calls Tryz.prog 25 #[] W (fun e W' => e = .returned (.bool true) ∧ Touch [] W W') :=
  law_of2 ((orHook_ok vcA_ok (orHook_ok vcB_ok validHook_ok))) known31_run (by omega) hT
end Go.Proofs.YtmnaddlniaklcaaGreatDoor
