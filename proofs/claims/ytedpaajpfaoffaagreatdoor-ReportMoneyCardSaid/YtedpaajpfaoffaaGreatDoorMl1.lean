/- The law ReportMoney, once known() is answered. -/
import Derived.Test.YtedpaajpfaoffaaGreatDoorMg5
namespace Go.Proofs.YtedpaajpfaoffaaGreatDoor
open Go.RowKit
set_option linter.unusedSimpArgs false

set_option maxRecDepth 100000 in
set_option maxHeartbeats 4000000 in
theorem reportMoney_law (n : Int) (l : List UInt8) (w : World) (h0 : -9223372036854775808 ≤ n) (h1 : n ≤ 9223372036854775807) (hl : l.length ≤ maxLen) (hm : MF w)
    (HK0 : ∀ w1, Touch [] w w1 → Calls Tryz.prog 7 #[] w1 fun e w2 => e = .returned (.bool true) ∧ Touch [] w1 w2) :
    Calls Tryz.prog 3 #[.int .i64 n, .string ⟨l.toArray⟩] w fun e w' => e = .returned (.bool true) ∧ Touch [] w w' := by
  have HK := Lib.hid HK0
  clear HK0
  have hsz := tx_size l
  unfold maxLen at hl
  by_cases h60 : 60 < l.length
  · have h60' : (60 : Int) < (l.length : Int) := by omega
    clear hm
    go_enter Tryz.func3, Tryz.ntmps3
    go_wp2_with fail
    refine (HK.out w (Touch.refl _ _)).mono ?_
    rintro r w1 ⟨rfl, ht⟩
    go_wp2_with fail
    go_ret
    exact ⟨rfl, ht⟩
  · have h60' : ¬ (60 : Int) < (l.length : Int) := by omega
    have H1 := Lib.hid (parseMoney_any l w (by omega) hm)
    have H2 := Lib.hid (fun w1 => amount_any l w1 (by omega))
    have H3 := Lib.hid (fun w1 (t : Touch [] w w1) => money_any n w1 h0 h1 (hm.touch t).tab)
    have H4 := Lib.hid (fun w1 => refMoney_any n w1 h0 h1)
    rw [readings l] at H1
    unfold AmPost at H2
    clear hm
    generalize amountOf l = p at *
    obtain ⟨m, k⟩ := p
    generalize moneyL n = t at *
    go_enter Tryz.func3, Tryz.ntmps3
    go_wp2_with fail
    refine H1.out.mono ?_
    rintro r w1 ⟨rfl, ht1⟩
    go_wp2_with fail
    refine (H2.out w1).mono ?_
    rintro r w2 ⟨rfl, ht2⟩
    have ht2' := ht1.then0 ht2
    go_wp2_with fail
    refine (H3.out w2 ht2').mono ?_
    rintro r w3 ⟨rfl, ht3⟩
    have ht3' := ht2'.then0 ht3
    go_wp2_with fail
    refine (H4.out w3).mono ?_
    rintro r w4 ⟨rfl, ht4⟩
    have ht4' := ht3'.then0 ht4
    go_wp2_with fail
    refine (HK.out w4 ht4').mono ?_
    rintro r w5 ⟨rfl, ht5⟩
    go_wp2_with fail
    go_ret
    exact ⟨rfl, ht4'.then0 ht5⟩
end Go.Proofs.YtedpaajpfaoffaaGreatDoor
