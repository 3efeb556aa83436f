/- The others do not either: no row of the seat goes. -/
import Derived.Test.YtphpkalbbmlgoaaGreatDoorGoA
import Derived.Test.YtphpkalbbmlgoaaGreatDoorRows
import Derived.KernelRfl
import Derived.SevenTiedAt
namespace Go.Proofs.YtphpkalbbmlgoaaGreatDoor
open Go
set_option maxRecDepth 10000000 in
theorem go_b : (List.range' 400 334).all (fun g => !((Tryz.prog.funcs[g]?).any Func.goes)) = true := by kernel_rfl

theorem go_size : Tryz.prog.funcs.size = 734 := by kernel_rfl

theorem go_at (g : Nat) : (Tryz.prog.funcs[g]?).any Func.goes = false := by
  by_cases h1 : g < 400
  · have := List.all_eq_true.1 go_a g (List.mem_range'_1.2 ⟨by omega, by omega⟩)
    simpa using this
  · by_cases h2 : g < 734
    · have := List.all_eq_true.1 go_b g (List.mem_range'_1.2 ⟨by omega, by omega⟩)
      simpa using this
    · rw [Array.getElem?_eq_none (by rw [go_size]; omega)]
      rfl

theorem goes_no (f : FuncId) : Tryz.prog.goes f = false := by
  unfold Program.goes
  have h1 : ((Tryz.prog.closure f).any fun g => (Tryz.prog.funcs[g]?).any Func.goes) = false := List.any_eq_false.2 (fun g _ => by rw [go_at]; simp)
  have h2 : Tryz.prog.funcs.any Func.goes = false := by
    rw [Array.any_eq_false]
    intro i hi
    have := go_at i
    rw [Array.getElem?_eq_getElem hi] at this
    simpa using this
  rw [h1, h2, Bool.and_false]
  rfl

theorem goesBy_no {c : OpenClaim} (hs : c.start = .entering) : c.goesBy Tryz.prog = false := by
  have h : ∀ o : Option FuncId, o.any Tryz.prog.goes = false := fun o => by
    cases o with
    | none => rfl
    | some f => rw [Option.any_some]; exact goes_no f
  unfold OpenClaim.goesBy Program.goesAt Program.goesFrom
  rw [hs, h]
  rfl

end Go.Proofs.YtphpkalbbmlgoaaGreatDoor
