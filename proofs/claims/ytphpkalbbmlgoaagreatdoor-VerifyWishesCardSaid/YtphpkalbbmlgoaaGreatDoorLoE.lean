/- The rows of all types fit. -/
import Derived.Test.YtphpkalbbmlgoaaGreatDoorLoA
import Derived.Test.YtphpkalbbmlgoaaGreatDoorLoB
import Derived.Test.YtphpkalbbmlgoaaGreatDoorLoC
import Derived.Test.YtphpkalbbmlgoaaGreatDoorLoD
import Derived.Test.YtphpkalbbmlgoaaGreatDoorRows
import Derived.KernelRfl
import Derived.OpenShut
namespace Go.Proofs.YtphpkalbbmlgoaaGreatDoor
open Go
theorem lo_size : Tryz.prog.types.size = 923 := by kernel_rfl

theorem lo_g : Tryz.prog.globals.all (fun g => decide (g.type < Tryz.prog.types.size)) = true := by kernel_rfl

theorem lo_f : Tryz.prog.funcs.all (fun f => f.params.all fun t => decide (t < Tryz.prog.types.size)) = true := by
  rw [lo_size]
  kernel_rfl

theorem lo_t (t : Nat) (h : t < 923) : rowFine Tryz.prog t = true := by
  by_cases h0 : t < 332
  · exact List.all_eq_true.1 lo_a t (List.mem_range'_1.2 ⟨by omega, by omega⟩)
  by_cases h1 : t < 553
  · exact List.all_eq_true.1 lo_b t (List.mem_range'_1.2 ⟨by omega, by omega⟩)
  by_cases h2 : t < 747
  · exact List.all_eq_true.1 lo_c t (List.mem_range'_1.2 ⟨by omega, by omega⟩)
  by_cases h3 : t < 923
  · exact List.all_eq_true.1 lo_d t (List.mem_range'_1.2 ⟨by omega, by omega⟩)
  omega

theorem laid_out : laidOutB Tryz.prog = true := by
  unfold laidOutB
  rw [Bool.and_eq_true, Bool.and_eq_true]
  exact ⟨⟨List.all_eq_true.2 (fun t ht => lo_t t (by have := List.mem_range.1 ht; rw [lo_size] at this; exact this)), lo_g⟩, lo_f⟩

end Go.Proofs.YtphpkalbbmlgoaaGreatDoor

namespace Go.Proofs.YtphpkalbbmlgoaaGreatDoor
open Go
theorem mixed : Tryz.prog.follows .mixedOrders = true := by kernel_rfl

end Go.Proofs.YtphpkalbbmlgoaaGreatDoor

namespace Go.Proofs.YtphpkalbbmlgoaaGreatDoor
open Go
theorem own_knob : ownKnob Tryz.prog.godebug = none := by kernel_rfl

theorem noNumB : Tryz.prog.funcs.toList.all (fun fn => !(fn.name == "runtime.NumGoroutine")) = true := by kernel_rfl

end Go.Proofs.YtphpkalbbmlgoaaGreatDoor
