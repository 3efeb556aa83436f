/- What the listed variable gives the walks. -/
import Derived.Test.YtpbknnkobhjjcaaDoorRows
import Derived.Test.YtpbknnkobhjjcaaDoorOcOpen
import Derived.LaidMore
import Derived.Stop.Joined
namespace Go.Proofs.YtpbknnkobhjjcaaDoor
open Go.ChangeShapes Go.WideShapes Go.ChangeAt Go.RowKit Go.WideMaps Go.WideElems

abbrev laid1 {H : Type} : List (String × DataW H) := [("bandplan/score.worths", Rows.laid_bandplan_score_worths)]
theorem gWorths : Tryd.prog.globalNamed "bandplan/score.worths" = some 0 := by kernel_rfl
theorem tWorths : (Tryd.prog.globals[0]?).map (·.type) = some 81 := by kernel_rfl
/-- The door's own heap meets the condition. -/
theorem door_met (os : Os) (args : Array Value) : laidMetH Tryd.prog laid1 ((World.doorLaid Tryd.prog 400 os).forCall (fun _ _ => 0) ⟨#[], args, []⟩).memory :=
  laidMetH_of_parts3 (fuel := 8) (laidMet_of_run' 8 (by kernel_rfl) (by kernel_rfl)) (by kernel_rfl) (by kernel_rfl)
theorem worths_of {W : World} (h : laidMetH Tryd.prog laid1 W) : Worths W := by
  rw [MakeChecks.laidMetH_plain _ _ _ (by kernel_rfl)] at h
  obtain ⟨ps, ⟨g0, t0, cs0, f0, p0, q0, hg0, ht0, hv0, hd0, _, _⟩, _, _⟩ := h
  obtain rfl := Option.some.inj (gWorths.symm.trans hg0)
  obtain rfl := Option.some.inj (tWorths.symm.trans ht0)
  obtain ⟨xs, m1, rfl, hx1, hlen, hn3, hel⟩ := DataW.trod_array Tryd.underlying81 hd0
  have c3 : Tryd.prog.cellsOf 3 = 1 := by kernel_rfl
  simp only [Prod.mk.injEq, DataW.agg.injEq, Rows.laid_bandplan_score_worths] at hx1
  have hat : ∀ (j : Nat) (n : Int), j < 4 → (xs[j]?).map (·.1) = some (.lit (.int .i64 n)) → W.cell? ⟨0, j, none⟩ = some (.int .i64 n) := by
    intro j n hj hn
    have h0 := hel j hj
    have hjx : j < xs.length := by omega
    have hxj : xs[j]? = some xs[j] := List.getElem?_eq_getElem hjx
    rw [hxj] at h0 hn
    obtain ⟨k, e1, e2, _⟩ := DataW.trod_int Tryd.underlying3 h0
    rw [c3, Nat.mul_one] at e1
    have hk : k = n := by
      rw [e2] at hn
      simpa using hn
    subst hk
    have hc := World.var?_cell hg0 hv0 j
    rw [hc]
    have h1 : cs0.toList[j]? = some (.int .i64 k) := by
      have h2 : (List.take 1 (List.drop j cs0.toList))[0]? = some (.int .i64 k) := by rw [e1]; rfl
      rw [List.getElem?_take_of_lt (by omega), List.getElem?_drop, Nat.add_zero] at h2
      exact h2
    rw [← Array.getElem?_toList]
    exact h1
  have hm : ∀ j : Nat, (xs[j]?).map (fun x => x.1) = ([DataW.lit (Lit.int IntKind.i64 0), DataW.lit (Lit.int IntKind.i64 250), DataW.lit (Lit.int IntKind.i64 600), DataW.lit (Lit.int IntKind.i64 1000)] : List (DataW Unit))[j]? := fun j => by
    rw [hx1.1, List.getElem?_map]
  have h0 := hat 0 0 (by omega) (by rw [hm]; rfl)
  exact ⟨World.block_lt_of_cell? W _ h0, h0, hat 1 250 (by omega) (by rw [hm]; rfl), hat 2 600 (by omega) (by rw [hm]; rfl), hat 3 1000 (by omega) (by rw [hm]; rfl)⟩
end Go.Proofs.YtpbknnkobhjjcaaDoor
