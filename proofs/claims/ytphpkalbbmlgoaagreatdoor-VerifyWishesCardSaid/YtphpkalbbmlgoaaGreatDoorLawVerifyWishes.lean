/- The law VerifyWishes: for every input it returns true, and the arguments read as before; the tables are tied to the program's text. -/
import Derived.Test.YtphpkalbbmlgoaaGreatDoorRows
import Derived.Test.YtphpkalbbmlgoaaGreatDoorCards
import Derived.Test.YtphpkalbbmlgoaaGreatDoorTi
import Derived.Test.YtphpkalbbmlgoaaGreatDoorWs7
import Derived.Test.YtphpkalbbmlgoaaGreatDoorWs8
import Derived.Test.YtphpkalbbmlgoaaGreatDoorWs9F
import Derived.Test.YtphpkalbbmlgoaaGreatDoorWs9D
import Derived.Test.YtphpkalbbmlgoaaGreatDoorGoB
import Derived.SevenTiedAt
namespace Go.Proofs.YtphpkalbbmlgoaaGreatDoor.verifyWishes
open Go.ChangeShapes Go.WideShapes Go.ChangeAt Go.RowKit Go.WideMaps Go.WideElems
set_option linter.unusedVariables false

set_option maxRecDepth 10000000 in
set_option maxHeartbeats 16000000 in
theorem lifted (os : Os) (started : os.Started) (H : Type) (enc : TypeId × Value → H) :
    ReturnsInHanded {} Tryz.checked os 3 .any (fun w args => (Rows.verifyWishesSpec.pre enc Tryz.prog Tryz.f3 [] false w args ∧ laidMetH Tryz.prog laidR w) ∧ sizedMet enc Tryz.prog Tryz.f3 (OpenSpec.ofChange Rows.verifyWishesSpec) false w args)
      (Rows.verifyWishesSpec.post enc Tryz.prog Tryz.f3 false true false false) := by
  refine handed (X := fun w _ => laidMetH Tryz.prog laidR w) (fun _ _ _ hh h => h.of_heap hh) started (by as_aux_lemma => kernel_rfl) Tryz.func3
    (ChangeSpec.witness_shaped (enc := enc) (C := Tryz.checked) (os := os) (X := fun w _ => laidMetH Tryz.prog laidR w) false (World.doorLaid Tryz.prog 400 os) #[.slice none 0 0, .int .i64 0, .slice none 0 0] 8 rfl (World.shaped_of_RefB (by as_aux_lemma => kernel_rfl) (by as_aux_lemma => kernel_rfl)) (by as_aux_lemma => kernel_rfl) (by as_aux_lemma => kernel_rfl) (by as_aux_lemma => kernel_rfl) (door_met os _)) ?_
  intro W base args ds gs before hval0 hW hL hS
  have hval : ∀ (j : Nat) t v, Tryz.f3.params[j]? = some t → args[j]? = some v → Value.okWide Tryz.prog W .any base t v := hval0
  have hW' := hW
  obtain ⟨p, q, hA0, hV, rfl, hfz, hnd⟩ := hW
  have hA : DataW.TrodAll enc Tryz.prog W 0 (fun _ => true) true Tryz.f3.params.toList args.toList ds p := hA0
  rw [Tryz.params3] at hA hval
  obtain ⟨v0, vs0, d0, ds0, p0, q0, hargs, rfl, rfl, h0, r0⟩ := trodAll_cons hA
  obtain ⟨v1, vs1, d1, ds1, p1, q1, rfl, rfl, rfl, h1, r1⟩ := trodAll_cons r0
  obtain ⟨v2, vs2, d2, ds2, p2, q2, rfl, rfl, rfl, h2, r2⟩ := trodAll_cons r1
  obtain ⟨rfl, rfl, rfl⟩ := trodAll_nil r2
  obtain rfl : args = #[v0, v1, v2] := by cases args; simp_all
  obtain ⟨rfl, rfl⟩ := trodVars_none hV
  have k0 := h0
  have lt0 : ∀ x ∈ p0, x.block < W.heap.size := by obtain ⟨m, hm⟩ := k0; exact DataW.trod_lt m _ _ _ hm
  have k1 := h1
  have lt1 : ∀ x ∈ p1, x.block < W.heap.size := by obtain ⟨m, hm⟩ := k1; exact DataW.trod_lt m _ _ _ hm
  have k2 := h2
  have lt2 : ∀ x ∈ p2, x.block < W.heap.size := by obtain ⟨m, hm⟩ := k2; exact DataW.trod_lt m _ _ _ hm
  obtain ⟨x0, o0⟩ := open_wishes (hval 0 22 v0 rfl rfl) h0
  obtain ⟨x1, rfl, f1⟩ := open_i (hval 1 3 v1 rfl rfl) h1
  obtain ⟨x2, o2⟩ := open_y (hval 2 23 v2 rfl rfl) h2
  refine (wishes_law v0 v2 x0 x1 x2 W o0 o2 f1 (Lib.hid (fun W1 t1 => known45_any ((tabs_of hL hS).touch t1)))).mono fun e W' ⟨he, tch⟩ => ?_
  have bel := tch.to_below
  subst he
  exact ⟨_, rfl, _, _, _, [], _, [], hW', trodAll_mk1 (shut_bool Tryz.underlying4 _), (trodAll_cons_mk (Below.trod laid_out (show Tryz.prog.readableRec _ = true from rr_sapiAreaWish) (of_decide_eq_true (by as_aux_lemma => kernel_rfl)) k0 bel lt0) (trodAll_cons_mk (Below.trod laid_out (show Tryz.prog.readableRec _ = true from rr_int) (of_decide_eq_true (by as_aux_lemma => kernel_rfl)) k1 bel lt1) (trodAll_cons_mk (Below.trod laid_out (show Tryz.prog.readableRec _ = true from rr_suint8) (of_decide_eq_true (by as_aux_lemma => kernel_rfl)) k2 bel lt2) trodAll_mk0))), rfl, bel.frame _, fun h => by cases h⟩

set_option maxHeartbeats 16000000 in
theorem proved_row : Rows.VerifyWishesSaid :=
  OpenClaim.holds_of_wide 3 Tryz.f3 rfl rfl rfl rfl rfl rfl rfl ⟨rfl, rfl, rfl, rfl, rfl⟩ rfl rfl rfl rfl rfl (by as_aux_lemma => kernel_rfl) Tryz.func3 closed
    (of_decide_eq_true (by as_aux_lemma => kernel_rfl)) (by unfold Func.isWrapper; first | (rw [if_pos (by decide +kernel)]; kernel_rfl) | (rw [if_neg (by decide +kernel)]; exact ⟨rfl, rfl⟩))
    (fun os started H enc _ => lifted os started H enc)
set_option maxHeartbeats 16000000 in
theorem proved : Rows.VerifyWishesCardSaid :=
  Claim7.holds_tied_plain_at .later [] [.data, .data, .data, .data] true (true, "11c8ffbfcaa4b40c3f4426032707a32948c425fb401cfc7a90c1007fd0a9d11f") true
    proved_row (fun _ h => by cases h) (by as_aux_lemma => kernel_rfl) (fun _ h => by cases h) verifyWishes_row_tie rfl ⟨rfl, rfl⟩ (by as_aux_lemma => kernel_rfl) rfl
    (fun f fn hf hfn => by
      obtain rfl : f = 3 := Option.some.inj ((show Tryz.prog.funcNamed "bandplan/bandplanlaw45.VerifyWishes" = some 3 by kernel_rfl).symm.trans hf) |>.symm
      obtain rfl : fn = Tryz.f3 := (Option.some.inj (Tryz.func3.symm.trans hfn)).symm
      exact ⟨by as_aux_lemma => kernel_rfl, fun j t ht => by
        rw [Tryz.params3] at ht
        match j, ht with
        | 0, ht => cases ht; exact (show Tryz.prog.wantsStandIn 22 = false by as_aux_lemma => kernel_rfl)
        | 1, ht => cases ht; exact (show Tryz.prog.wantsStandIn 3 = false by as_aux_lemma => kernel_rfl)
        | 2, ht => cases ht; exact (show Tryz.prog.wantsStandIn 23 = false by as_aux_lemma => kernel_rfl)
        | n + 3, ht => simp at ht⟩)
    (show false = Rows.verifyWishesRow.goesBy Tryz.prog from (goesBy_no rfl).symm)
#print axioms proved
end Go.Proofs.YtphpkalbbmlgoaaGreatDoor.verifyWishes
