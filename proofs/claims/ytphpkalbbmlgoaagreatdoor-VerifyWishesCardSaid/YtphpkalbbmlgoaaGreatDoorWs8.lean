/- The example of layer 45 is as the chapter says, in every world that holds the tables. -/
import Derived.Test.YtphpkalbbmlgoaaGreatDoorTabA
import Derived.Test.YtphpkalbbmlgoaaGreatDoorKw2
import Derived.Test.YtphpkalbbmlgoaaGreatDoorKw4
import Derived.Test.YtphpkalbbmlgoaaGreatDoorKw5
import Derived.Test.YtphpkalbbmlgoaaGreatDoorKw6
import Derived.Test.YtphpkalbbmlgoaaGreatDoorHkR
import Derived.Test.YtphpkalbbmlgoaaGreatDoorHkA
import Derived.KernelRfl
namespace Go.Proofs.YtphpkalbbmlgoaaGreatDoor
open Go.RowKit
set_option maxRecDepth 10000000 in
theorem known45_run : okLaw tabs ((Ev.evQ Tryz.prog (Ev.orHook kwB.hook (Ev.orHook kwD.hook (Ev.orHook kwG.hook (Ev.orHook kwH.hook (Ev.orHook countHook validHook))))) 1000000).c 5 [] (HT tabs) 6) = true := by kernel_rfl

theorem known45_any {W : World} (hT : TabsG W tabs) : Calls Tryz.prog 5 #[] W (fun e W' => e = .returned (.bool true) ∧ Touch [] W W') :=
  law_of tabs_lt ((Ev.orHook_ok kwB_ok (Ev.orHook_ok kwD_ok (Ev.orHook_ok kwG_ok (Ev.orHook_ok kwH_ok (Ev.orHook_ok countHook_ok validHook_ok)))))) (xs := []) rfl known45_run (vs := []) trivial (of_decide_eq_true (by kernel_rfl)) (by simp) hT

end Go.Proofs.YtphpkalbbmlgoaaGreatDoor
