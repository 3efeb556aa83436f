/- The door of VerifyWishes: a world that holds the tables; the tables out of the row. -/
import Derived.Test.YtphpkalbbmlgoaaGreatDoorRows
import Derived.Test.YtphpkalbbmlgoaaGreatDoorTabA
import Derived.SevenTiedAt
namespace Go.Proofs.YtphpkalbbmlgoaaGreatDoor.verifyWishes
open Go.ChangeShapes Go.WideShapes Go.ChangeAt Go.RowKit Go.WideMaps Go.WideElems
set_option linter.unusedVariables false
set_option maxRecDepth 10000000
set_option maxHeartbeats 16000000
abbrev laidR {H : Type} : List (String × DataW H) := [("math/bits.deBruijn64tab", Rows.laid_math_bits_deBruijn64tab), ("bandplan/score.worths", Rows.laid_bandplan_score_worths), ("bandplan/blake.initial", Rows.laid_bandplan_blake_initial), ("bandplan/blake.order", Rows.laid_bandplan_blake_order)]

theorem door_met (os : Os) (args : Array Value) : laidMetH Tryz.prog laidR ((World.doorLaid Tryz.prog 400 os).forCall (fun _ _ => 0) ⟨#[], args, []⟩).memory :=
  laidMetH_of_parts3 (fuel := 8) (laidMet_of_run' 8 (by as_aux_lemma => kernel_rfl) (by as_aux_lemma => kernel_rfl)) (by as_aux_lemma => kernel_rfl) (by as_aux_lemma => kernel_rfl)

theorem tabs_of {W : World} (h : laidMetH Tryz.prog laidR W) (hs : W.ShapedOpen Tryz.prog) : TabsG W tabs := by
  rw [MakeChecks.laidMetH_plain _ _ _ (by kernel_rfl)] at h
  obtain ⟨ps, r0, _, _⟩ := h
  obtain ⟨g0, t0, cs0, f0, p0, q0, hg0, ht0, hv0, hd0, r1, _⟩ := r0
  obtain rfl := Option.some.inj (tBitsDebruijn64Tab_g.symm.trans hg0)
  obtain rfl := Option.some.inj (tBitsDebruijn64Tab_t.symm.trans ht0)
  obtain ⟨g1, t1, cs1, f1, p1, q1, hg1, ht1, hv1, hd1, r2, _⟩ := r1
  obtain rfl := Option.some.inj (tScoreWorths_g.symm.trans hg1)
  obtain rfl := Option.some.inj (tScoreWorths_t.symm.trans ht1)
  obtain ⟨g2, t2, cs2, f2, p2, q2, hg2, ht2, hv2, hd2, r3, _⟩ := r2
  obtain rfl := Option.some.inj (tBlakeInitial_g.symm.trans hg2)
  obtain rfl := Option.some.inj (tBlakeInitial_t.symm.trans ht2)
  obtain ⟨g3, t3, cs3, f3, p3, q3, hg3, ht3, hv3, hd3, r4, _⟩ := r3
  obtain rfl := Option.some.inj (tBlakeOrder_g.symm.trans hg3)
  obtain rfl := Option.some.inj (tBlakeOrder_t.symm.trans ht3)
  intro x hx
  simp only [tabs, List.mem_cons, List.not_mem_nil, or_false] at hx
  rcases hx with rfl | rfl | rfl | rfl
  · exact tBlakeInitial_of hs hv2 hd2
  · exact tScoreWorths_of hs hv1 hd1
  · exact tBlakeOrder_of hs hv3 hd3
  · exact tBitsDebruijn64Tab_of hs hv0 hd0

end Go.Proofs.YtphpkalbbmlgoaaGreatDoor.verifyWishes
