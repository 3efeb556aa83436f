/- The run of VerifyNone: whatever the input, the interpreter answers true. -/
import Derived.Test.YtphpkalbbmlgoaaGreatDoorTabs
import Derived.Test.YtphpkalbbmlgoaaGreatDoorVn2
import Derived.Test.YtphpkalbbmlgoaaGreatDoorVn4
import Derived.Test.YtphpkalbbmlgoaaGreatDoorVn6
import Derived.Test.YtphpkalbbmlgoaaGreatDoorVn7
import Derived.Test.YtphpkalbbmlgoaaGreatDoorVn8
import Derived.Test.YtphpkalbbmlgoaaGreatDoorHkR
import Derived.Test.YtphpkalbbmlgoaaGreatDoorHkB
import Derived.KernelRfl
namespace Go.Proofs.YtphpkalbbmlgoaaGreatDoor.verifyNone
open Go.ChangeShapes Go.WideShapes Go.ChangeAt Go.RowKit
set_option linter.unusedVariables false

set_option maxRecDepth 10000000 in
theorem run : okLaw tabs ((Ev.evQ Tryz.prog (Ev.orHook vnB.hook (Ev.orHook vnD.hook (Ev.orHook vnF.hook (Ev.orHook vnG.hook (Ev.orHook vnH.hook (Ev.orHook countHook validHook)))))) 1000000).c 4 [.a (.opq 0)] (HT tabs) 6) = true := by kernel_rfl

theorem law {W : World} (hT : TabsG W tabs) (v0 : Value) (h0 : v0.oneCell' = true) : Calls Tryz.prog 4 #[v0] W (fun e W' => e = .returned (.bool true) ∧ Touch [] W W') :=
  law_of tabs_lt ((Ev.orHook_ok vnB_ok (Ev.orHook_ok vnD_ok (Ev.orHook_ok vnF_ok (Ev.orHook_ok vnG_ok (Ev.orHook_ok vnH_ok (Ev.orHook_ok countHook_ok validHook_ok))))))) (xs := [.one (.opq 0)]) rfl run (vs := [v0])
    ⟨Ev.one_conc.2 (by simp [Ev.At.conc, envG, h0]), trivial⟩ (of_decide_eq_true (by kernel_rfl)) (by simp) hT

end Go.Proofs.YtphpkalbbmlgoaaGreatDoor.verifyNone
