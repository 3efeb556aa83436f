/- The table of math/bits as the contracts read it, out of the row's laid table. -/
import Derived.Test.YtlhlmcohdkkjpaaGreatDoorTabA
import Derived.Test.YtlhlmcohdkkjpaaGreatDoorZD
set_option linter.all false
namespace Go.Proofs.YtlhlmcohdkkjpaaGreatDoor
open Go.RowKit
theorem LV: ∀j,j<64→bQ[j]? =some ((Lib.deBruijn64tab.getD j 0:Nat):Int):=by decide
variable{W:World}
theorem QD.z7 {W':World}(h:QD W)(t:z6 [] W W'):QD W':=by
 obtain⟨C,h1,h2,h3⟩:=h;have Z:0<W.heap.size:=(Mu.1 h1).1;exact⟨C,(t.block 0 Z (by simp)).trans h1,h2,h3⟩
theorem KO (h:QD W):Y1 W:=by
 obtain⟨C,h1,h2,h3⟩:=h;intro j hj;have h4:=h3 j _ (LV j hj);show W.cell? ⟨0,j,none⟩=_;unfold World.cell?;simp[h1,h4]
end Go.Proofs.YtlhlmcohdkkjpaaGreatDoor
