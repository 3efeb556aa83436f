/- The law ReverseValid, in every world that holds the two tables. -/
import Derived.Test.YtmnaddlniaklcaaGreatDoorRvM
import Derived.Test.YtmnaddlniaklcaaGreatDoorRv4
namespace Go.Proofs.YtmnaddlniaklcaaGreatDoor
open Go.RowKit
set_option linter.unusedSimpArgs false
set_option maxRecDepth 100000 in
set_option maxHeartbeats 8000000 in
theorem reverse_law (v : Value) (l : List Tx) (w : World) (hw : Tabs w) (hv : Trips w v l) : Calls Tryz.prog 5 #[v] w fun r w' => r = .returned (.bool true) ∧ Touch [] w w' := by
  obtain ⟨A, cap, rfl⟩ := hv.form
  by_cases hl : 40 < l.length
  · have hl' : (40 : Int) < (l.length : Int) := by omega
    go_enter Tryz.func5, Tryz.ntmps5
    go_wp2_with fail
    refine (known31_any hw).mono ?_
    rintro r w1 ⟨rfl, ht1⟩
    go_wp2_with fail
    go_ret
    exact ⟨rfl, ht1⟩
  have hl' : ¬ (40 : Int) < (l.length : Int) := by omega
  have H1 := Lib.hid (revValid_any _ l w hv (by omega))
  have H2' := Lib.hid (fun (w' : World) (h : Touch [] w w') => refValid31_any _ l w' (hv.touch0 h) (by omega))
  generalize eOk l = x at *
  cases x
  all_goals
    go_enter Tryz.func5, Tryz.ntmps5
    go_wp2_with fail
    refine H1.out.mono ?_
    rintro r w1 ⟨rfl, ht1⟩
    go_wp2_with fail
    refine (H2'.out w1 ht1).mono ?_
    rintro r w2 ⟨rfl, ht2⟩
    go_wp2_with fail
    refine (known31_any (hw.touch (ht1.then0 ht2))).mono ?_
    rintro r w3 ⟨rfl, ht3⟩
    go_wp2_with fail
    go_ret
    exact ⟨rfl, (ht1.then0 ht2).then0 ht3⟩
end Go.Proofs.YtmnaddlniaklcaaGreatDoor
