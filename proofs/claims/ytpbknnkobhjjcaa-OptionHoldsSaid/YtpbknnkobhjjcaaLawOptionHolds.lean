/- The law OptionHolds: for every input it returns true, and the arguments read as before. -/
import Derived.Test.YtpbknnkobhjjcaaRows
import Derived.Test.YtpbknnkobhjjcaaHold2
import Derived.Test.YtpbknnkobhjjcaaOpen
import Derived.Test.YtpbknnkobhjjcaaOpen4
namespace Go.Proofs.Ytpbknnkobhjjcaa.optionHolds
open Go.ChangeShapes Go.WideShapes Go.ChangeAt Go.RowKit
set_option linter.unusedVariables false

theorem law (W : World) (v0 : Value) (x0 : Bx) (o0 : IsBid W v0 x0) (v1 : Value) (x1 : Int) (o1 : IsI v1 x1) (v2 : Value) (x2 : Int) (o2 : IsI v2 x2) (v3 : Value) (x3 : List Int) (o3 : IsL W v3 x3) (v4 : Value) (x4 : List UInt8) (o4 : IsY W v4 x4) : Calls Try.prog 17 #[v0, v1, v2, v3, v4] W fun e w' => e = .returned (.bool true) ∧ Touch [] W w' := by
  obtain ⟨rfl, hf1⟩ := o1
  obtain ⟨rfl, hf2⟩ := o2
  exact optHolds_walk v0 x0 x1 x2 v3 x3 v4 x4 W o0 hf1 hf2 o3 o4

set_option maxRecDepth 100000 in
theorem lifted (os : Os) (started : os.Started) (H : Type) (enc : TypeId × Value → H) :
    ReturnsInHanded {} Try.checked os 17 .any (Rows.optionHoldsSpec.pre6 enc Try.prog Try.f17 Rows.optionHoldsRow.domain false) (Rows.optionHoldsSpec.post enc Try.prog Try.f17 false true false false) := by
  refine returnsInHanded_of_change (C := Try.checked) own_knob started (by kernel_rfl) Try.func17
    (ChangeSpec.witness6 (enc := enc) (C := Try.checked) false ⟨#[], #[.agg #[.int .i64 0, .int .i64 0, .slice none 0 0], .int .i64 0, .int .i64 0, .slice none 0 0, .slice none 0 0], []⟩ 8 (by kernel_rfl) (by kernel_rfl) (by kernel_rfl) (by kernel_rfl)) ?_
  intro W base args ds gs before hval0 hW hcnd _
  have hval : ∀ (j : Nat) t v, Try.f17.params[j]? = some t → args[j]? = some v → Value.okWide Try.prog W .any base t v := hval0
  have hW' := hW
  obtain ⟨p, q, hA0, hV, rfl, hfz, hnd⟩ := hW
  have hA : DataW.TrodAll enc Try.prog W 0 (fun _ => true) true Try.f17.params.toList args.toList ds p := hA0
  rw [Try.params17] at hA hval
  obtain ⟨v0, vs0, d0, ds0, p0, q0, hargs, rfl, rfl, h0, r0⟩ := trodAll_cons hA
  obtain ⟨v1, vs1, d1, ds1, p1, q1, rfl, rfl, rfl, h1, r1⟩ := trodAll_cons r0
  obtain ⟨v2, vs2, d2, ds2, p2, q2, rfl, rfl, rfl, h2, r2⟩ := trodAll_cons r1
  obtain ⟨v3, vs3, d3, ds3, p3, q3, rfl, rfl, rfl, h3, r3⟩ := trodAll_cons r2
  obtain ⟨v4, vs4, d4, ds4, p4, q4, rfl, rfl, rfl, h4, r4⟩ := trodAll_cons r3
  obtain ⟨rfl, rfl, rfl⟩ := trodAll_nil r4
  obtain rfl : args = #[v0, v1, v2, v3, v4] := by cases args; simp_all
  obtain ⟨rfl, rfl⟩ := trodVars_none hV
  have k0 := h0
  have lt0 : ∀ x ∈ p0, x.block < W.heap.size := by obtain ⟨m, hm⟩ := k0; exact DataW.trod_lt m _ _ _ hm
  have k1 := h1
  have lt1 : ∀ x ∈ p1, x.block < W.heap.size := by obtain ⟨m, hm⟩ := k1; exact DataW.trod_lt m _ _ _ hm
  have k2 := h2
  have lt2 : ∀ x ∈ p2, x.block < W.heap.size := by obtain ⟨m, hm⟩ := k2; exact DataW.trod_lt m _ _ _ hm
  have k3 := h3
  have lt3 : ∀ x ∈ p3, x.block < W.heap.size := by obtain ⟨m, hm⟩ := k3; exact DataW.trod_lt m _ _ _ hm
  have k4 := h4
  have lt4 : ∀ x ∈ p4, x.block < W.heap.size := by obtain ⟨m, hm⟩ := k4; exact DataW.trod_lt m _ _ _ hm
  obtain ⟨x0, o0⟩ := open_bid (hval 0 91 v0 rfl rfl) h0
  obtain ⟨x1, o1⟩ := open_i (hval 1 3 v1 rfl rfl) h1
  obtain ⟨x2, o2⟩ := open_i (hval 2 3 v2 rfl rfl) h2
  obtain ⟨x3, o3⟩ := open_is (hval 3 33 v3 rfl rfl) h3
  obtain ⟨x4, o4⟩ := open_y (hval 4 28 v4 rfl rfl) h4
  clear hA0 hval0
  refine (law W v0 x0 o0 v1 x1 o1 v2 x2 o2 v3 x3 o3 v4 x4 o4).mono fun e W' ⟨he, bel⟩ => ?_
  subst he
  exact ⟨_, rfl, _, _, _, [], _, [], hW', trodAll_mk1 (shut_bool Try.underlying4 _), (trodAll_cons_mk (Below.trod laid_out (by kernel_rfl) (of_decide_eq_true (by kernel_rfl)) k0 bel.to_below lt0) (trodAll_cons_mk (Below.trod laid_out (by kernel_rfl) (of_decide_eq_true (by kernel_rfl)) k1 bel.to_below lt1) (trodAll_cons_mk (Below.trod laid_out (by kernel_rfl) (of_decide_eq_true (by kernel_rfl)) k2 bel.to_below lt2) (trodAll_cons_mk (Below.trod laid_out (by kernel_rfl) (of_decide_eq_true (by kernel_rfl)) k3 bel.to_below lt3) (trodAll_cons_mk (Below.trod laid_out (by kernel_rfl) (of_decide_eq_true (by kernel_rfl)) k4 bel.to_below lt4) trodAll_mk0))))), rfl, bel.to_below.frame _, fun h => by cases h⟩

theorem proved : Rows.OptionHoldsSaid :=
  OpenClaim.holds_of_wide 17 Try.f17 rfl rfl rfl rfl rfl rfl rfl ⟨rfl, rfl, rfl, rfl, rfl⟩ rfl rfl rfl rfl rfl (by kernel_rfl) Try.func17 (by kernel_rfl)
    (of_decide_eq_true (by kernel_rfl)) (by unfold Func.isWrapper; first | (rw [if_pos (by decide +kernel)]; kernel_rfl) | (rw [if_neg (by decide +kernel)]; exact ⟨rfl, rfl⟩))
    (fun os started H enc _ => lifted os started H enc)
#print axioms proved
end Go.Proofs.Ytpbknnkobhjjcaa.optionHolds
