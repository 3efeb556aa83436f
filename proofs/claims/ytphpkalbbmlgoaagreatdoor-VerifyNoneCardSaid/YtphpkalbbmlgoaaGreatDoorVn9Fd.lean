/- Closed facts of the row VerifyNone, by the closure of its function. -/
import Derived.Test.YtphpkalbbmlgoaaGreatDoorCl1
namespace Go.Proofs.YtphpkalbbmlgoaaGreatDoor.verifyNone
open Go
set_option maxRecDepth 10000000
theorem unf : Tryz.prog.unfollowed 4 = true := by
  unfold Program.unfollowed
  rw [cloNone_is]
  exact List.any_eq_true.2 ⟨333, by simpa using (show cloNone.contains 333 = true by kernel_rfl), by kernel_rfl⟩

theorem f_verifyNone_10 : (Rows.verifyNoneRow.inPlace == Tryz.pinned.checked.prog.inPlace 4) = true := by
  show (Rows.verifyNoneRow.inPlace == Tryz.prog.inPlace 4) = true
  unfold Program.inPlace
  rw [cloNone_is]
  kernel_rfl

theorem f_verifyNone_11 : (Rows.verifyNoneRow.unfollowed == Tryz.pinned.checked.prog.unfollowed 4) = true := by
  show (Rows.verifyNoneRow.unfollowed == Tryz.prog.unfollowed 4) = true
  rw [unf]
  kernel_rfl

theorem f_verifyNone_12 : (Rows.verifyNoneRow.recurses == Tryz.pinned.checked.prog.recurses 4) = true := by
  show (Rows.verifyNoneRow.recurses == Tryz.prog.recurses 4) = true
  unfold Program.recurses
  rw [unf, Bool.true_or]
  kernel_rfl

theorem f_verifyNone_13 : (Rows.verifyNoneRow.named == Tryz.pinned.checked.prog.varsNamed 4) = true := by
  show (Rows.verifyNoneRow.named == Tryz.prog.varsNamed 4) = true
  unfold Program.varsNamed
  rw [cloNone_is, show (fun g => ((Tryz.prog.funcs[g]?).bind (·.body)).elim [] Code.globalsNamed) = (fun g => clG.getD g []) from funext (fun g => (cl_at g).2)]
  kernel_rfl

end Go.Proofs.YtphpkalbbmlgoaaGreatDoor.verifyNone
