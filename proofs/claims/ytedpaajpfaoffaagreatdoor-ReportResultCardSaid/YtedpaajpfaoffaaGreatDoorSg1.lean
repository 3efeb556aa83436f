/- The law ReportResult, in a world that holds the tables. -/
import Derived.Test.YtedpaajpfaoffaaGreatDoorKo2
namespace Go.Proofs.YtedpaajpfaoffaaGreatDoor
open Go.RowKit
set_option linter.unusedSimpArgs false
set_option linter.unusedVariables false

set_option maxRecDepth 100000 in
set_option maxHeartbeats 4000000 in
theorem reportResult_law (l : List UInt8) (v : Value) (w : World) (hv : Bytes w v l) (hm : MN w) :
    Calls Tryz.prog 5 #[v] w fun r w' => r = .returned (.bool true) ∧ Touch [] w w' := by
  have HK := Lib.hid (fun (W : World) (t : Touch [] w W) => known_hand W (hm.touch t))
  have HRES := Lib.hid (fun (u : Value) (W : World) (t : Touch [] w W) (hl : l.length ≤ 1000) (hu : Bytes W u l) => by
    obtain ⟨mx, hmx⟩ := (hm.touch t).mf.max
    exact result_any l u W mx hu (hm.touch t).rn (hm.touch t).big hmx hl)
  have HREF := Lib.hid (fun (W : World) (t : Touch [] w W) (hl : l.length ≤ 1000) => refResult_any l v W (hv.touch0 t) hl)
  have HV := Lib.hid hv
  obtain ⟨A, cap, rfl, hcap1, hcap2, -⟩ := id hv
  clear hm hv
  by_cases hl : l.length ≤ 400
  · have hl' : ¬ (400 : Int) < (l.length : Int) := by omega
    go_enter Tryz.func5, Tryz.ntmps5
    go_wp2_with (at_builtin; go_must (refine app_reads elem_u8 (Own.nil w _ 1) HV.out (B_ones l) (by simp; omega) (by unfold maxLen; simp; omega) ?_); intro v2 w2 ho2 ht2 hf2)
    have hb2 : Bytes w2 v2 l := by
      have : Own w2 5 1 v2 l.length (l.map B) := by simpa using ho2
      exact this.reads
    have HT2 : Hid (Touch [] w w2) := Lib.hid ht2
    clear ho2 ht2 hf2
    with_reducible refine (HRES.out v2 w2 HT2.out (by omega) hb2).mono ?_
    rintro r w3 ⟨u3, rfl, hs3, ht3⟩
    dsimp only
    have HS3 := Lib.hid hs3
    have HT3 := Lib.hid (HT2.out.then0 ht3)
    clear hs3 ht3 hb2
    go_wp2_with fail
    with_reducible refine (HREF.out w3 HT3.out (by omega)).mono ?_
    rintro r w4 ⟨u4, rfl, hs4, ht4⟩
    dsimp only
    have HS4 := Lib.hid hs4
    have HT4 := Lib.hid (HT3.out.then0 ht4)
    have HS34 := Lib.hid (show StrsAt w4 u3 ((resL l).getD []) from HS3.out.stay ht4)
    clear hs4 ht4
    generalize resE (resL l) = er at *
    generalize (resL l).getD [] = xs at *
    go_wp2_with fail
    with_reducible refine (same_any u3 u4 xs xs w4 HS34.out HS4.out).mono ?_
    rintro r w5 ⟨rfl, ht5⟩
    rw [decide_eq_true (rfl : xs = xs)]
    have HT5 := Lib.hid (HT4.out.then0 ht5)
    clear ht5
    go_wp2_with fail
    all_goals (try rw [show (er == er) = true from beq_self_eq_true er])
    with_reducible refine (HK.out w5 HT5.out).mono ?_
    rintro r w6 ⟨rfl, ht6⟩
    dsimp only
    go_wp2_with fail
    go_ret
    exact ⟨rfl, HT5.out.then0 ht6⟩
  · have hl' : (400 : Int) < (l.length : Int) := by omega
    go_enter Tryz.func5, Tryz.ntmps5
    go_wp2_with fail
    with_reducible refine (HK.out w (Touch.refl _ _)).mono ?_
    rintro r w6 ⟨rfl, ht6⟩
    dsimp only
    go_wp2_with fail
    go_ret
    exact ⟨rfl, ht6⟩

end Go.Proofs.YtedpaajpfaoffaaGreatDoor
