/- Closed facts of the row VerifyWishes, by the closure of its function. -/
import Derived.Test.YtphpkalbbmlgoaaGreatDoorCl1
namespace Go.Proofs.YtphpkalbbmlgoaaGreatDoor.verifyWishes
open Go
set_option maxRecDepth 10000000
theorem unf : Tryz.prog.unfollowed 3 = true := by
  unfold Program.unfollowed
  rw [cloWish_is]
  exact List.any_eq_true.2 ⟨6, by simpa using (show cloWish.contains 6 = true by kernel_rfl), by kernel_rfl⟩

theorem f_verifyWishes_10 : (Rows.verifyWishesRow.inPlace == Tryz.pinned.checked.prog.inPlace 3) = true := by
  show (Rows.verifyWishesRow.inPlace == Tryz.prog.inPlace 3) = true
  unfold Program.inPlace
  rw [cloWish_is]
  kernel_rfl

theorem f_verifyWishes_11 : (Rows.verifyWishesRow.unfollowed == Tryz.pinned.checked.prog.unfollowed 3) = true := by
  show (Rows.verifyWishesRow.unfollowed == Tryz.prog.unfollowed 3) = true
  rw [unf]
  kernel_rfl

theorem f_verifyWishes_12 : (Rows.verifyWishesRow.recurses == Tryz.pinned.checked.prog.recurses 3) = true := by
  show (Rows.verifyWishesRow.recurses == Tryz.prog.recurses 3) = true
  unfold Program.recurses
  rw [unf, Bool.true_or]
  kernel_rfl

theorem f_verifyWishes_13 : (Rows.verifyWishesRow.named == Tryz.pinned.checked.prog.varsNamed 3) = true := by
  show (Rows.verifyWishesRow.named == Tryz.prog.varsNamed 3) = true
  unfold Program.varsNamed
  rw [cloWish_is, show (fun g => ((Tryz.prog.funcs[g]?).bind (·.body)).elim [] Code.globalsNamed) = (fun g => clG.getD g []) from funext (fun g => (cl_at g).2)]
  kernel_rfl

end Go.Proofs.YtphpkalbbmlgoaaGreatDoor.verifyWishes
