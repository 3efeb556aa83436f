/- Part of ReportRatio. -/
import Derived.Test.YtedpaajpfaoffaaGreatDoorKn52
import Derived.Test.YtedpaajpfaoffaaGreatDoorMh2
import Derived.Test.YtedpaajpfaoffaaGreatDoorMl1
namespace Go.Proofs.YtedpaajpfaoffaaGreatDoor
open Go.ChangeShapes Go.WideShapes Go.ChangeAt Go.RowKit Go.WideMaps Go.WideElems
theorem law_at {T : List TabD} (hlt : ∀ x ∈ T, x.b < nG) {hk : Ev.Hook} (hh : Ev.HookOk Tryz.prog hk) {n f : Nat} {args : List Ev.FV} {xs : List Ev.V} {nx : Nat} (hxs : Ev.VsOf args = some xs) {H' : Ev.Tr Ev.AObj} {nx' : Nat} (he : (Ev.evQ Tryz.prog hk n).c f args (HT T) nx = .ok (.b true) H' nx') (hok : ∀ x ∈ T, H'.get x.b = some (tabO x)) {vs : List Value}
    (hvl : Ev.VL (envG vs) xs vs) (hnx : nG ≤ nx) (hargs : vs.length ≤ nx) {W : World} (hT : TabsG W T) : Calls Tryz.prog f ⟨vs⟩ W (fun e W' => e = .returned (.bool true) ∧ Touch [] W W') := by
  obtain ⟨x, hx, _, d, hc⟩ := (Ev.evQ_ok noNum mixed hh n).c _ _ _ _ _ _ _ he xs hxs
  cases hx
  refine (hc (envG vs) (HT T).get W vs (preG hT hlt vs hnx hargs) hvl (globG vs)).mono ?_
  rintro e W' ⟨cv, η', rfl, hv, s⟩
  have hcv : cv = .bool true := by
    have := Ev.one_conc.1 hv
    simp only [Ev.At.conc] at this
    exact (Option.some.inj this).symm
  subst hcv
  refine ⟨rfl, s.fr.os, s.fr.tape, s.fr.output, s.fr.size, fun k hk _ => ?_⟩
  by_cases h0 : ∃ x ∈ T, x.b = k
  · obtain ⟨x, hx, rfl⟩ := h0
    have hov : Ev.ovr (HT T).get (HT T).get H'.get nx nx' x.b = some (tabO x) := by
      rw [Ev.ovr_in (.inl (HT_some hx)), hok x hx]
    obtain ⟨B, co, hB, hco, hrel⟩ := s.rh.live x.b (tabO x) hov
    have hB0 : η'.blk x.b = some (x.b, 0) := (s.le.blk x.b (x.b, 0) (by simp [envG, hlt x hx])).1
    rw [hB0] at hB; cases hB
    exact relG_same (hT x hx) hco hrel
  · refine s.fr.keep k hk (fun hi => ?_)
    obtain ⟨b, B, hb, hB, rfl⟩ := hi
    cases ho : (HT T).get b with
    | none => exact hb ho
    | some o =>
      obtain ⟨x, hx, rfl, _⟩ := HT_get ho
      have hB0 : (envG vs).blk x.b = some (x.b, 0) := by simp [envG, hlt x hx]
      rw [hB0] at hB; cases hB
      exact h0 ⟨x, hx, rfl⟩
theorem hook52_ok : Ev.HookOk Tryz.prog hook52 := Ev.orHook_ok resHook_ok (Ev.orHook_ok groupHook_ok (Ev.orHook_ok replHook_ok joinHook_ok))
theorem tK52_lt (m : Int) : ∀ x ∈ tMaxD m :: tK52, x.b < nG := by
  intro x hx
  simp only [tK52, List.mem_cons, List.not_mem_nil, or_false] at hx
  rcases hx with rfl | rfl | rfl | rfl | rfl | rfl | rfl
  · exact of_decide_eq_true (show decide (6 < nG) = true by kernel_rfl)
  · exact of_decide_eq_true (by kernel_rfl)
  · exact of_decide_eq_true (by kernel_rfl)
  · exact of_decide_eq_true (by kernel_rfl)
  · exact of_decide_eq_true (by kernel_rfl)
  · exact of_decide_eq_true (by kernel_rfl)
  · exact of_decide_eq_true (by kernel_rfl)
theorem nG_11 : nG = 11 := by kernel_rfl
theorem known52_any {m : Int} {W : World} (hT : TabsG W (tMaxD m :: tK52)) : Calls Tryz.prog 7 #[] W (fun e W' => e = .returned (.bool true) ∧ Touch [] W W') := by
  have hr := congrFun run52 m
  unfold obs52 at hr
  split at hr
  case h_2 => cases hr
  rename_i b H' nx' he
  have hr := Option.some.inj hr
  injection hr with h1 h2
  rw [Bool.and_eq_true] at h1
  obtain ⟨rfl, h1⟩ := h1
  refine law_at (tK52_lt m) hook52_ok (xs := []) rfl he ?_ (vs := []) trivial (by rw [nG_11]; exact Nat.le_refl _) (by simp) hT
  intro x hx
  rcases List.mem_cons.1 hx with rfl | hx
  · exact h2
  · exact okT_of h1 x hx
end Go.Proofs.YtedpaajpfaoffaaGreatDoor
