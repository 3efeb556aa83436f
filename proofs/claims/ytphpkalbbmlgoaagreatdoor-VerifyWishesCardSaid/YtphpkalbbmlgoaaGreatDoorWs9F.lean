/- The closed facts of the row VerifyWishes, one by one; those that run through the types by their books. -/
import Derived.Test.YtphpkalbbmlgoaaGreatDoorRows
import Derived.Test.YtphpkalbbmlgoaaGreatDoorBk
import Derived.Test.YtphpkalbbmlgoaaGreatDoorLoE
import Derived.Test.YtphpkalbbmlgoaaGreatDoorWs9Fa
import Derived.Test.YtphpkalbbmlgoaaGreatDoorWs9Fb
import Derived.Test.YtphpkalbbmlgoaaGreatDoorWs9Fc
import Derived.Test.YtphpkalbbmlgoaaGreatDoorWs9Fd
namespace Go.Proofs.YtphpkalbbmlgoaaGreatDoor.verifyWishes
open Go
set_option maxRecDepth 10000000 in
set_option maxHeartbeats 16000000 in
theorem closed : joinedFacts Tryz.pinned.checked.prog 3 Tryz.f3 Rows.verifyWishesSpec Rows.verifyWishesRow = true := by
  have hp : Tryz.f3.params = #[22, 3, 23] := by kernel_rfl
  have hr : Tryz.f3.resultTypes = #[4] := by kernel_rfl
  have hv : Rows.verifyWishesSpec.plain.varTypes Tryz.pinned.checked.prog = [] := by kernel_rfl
  unfold joinedFacts
  simp only [Bool.and_eq_true]
  and_intros
  · as_aux_lemma => kernel_rfl
  · exact laid_out
  · exact f_verifyWishes_3
  · rw [hp]
    simp only [List.all_toArray, List.all_cons, List.all_nil, Bool.and_true, rr_sapiAreaWish, rr_int, rr_suint8]
  · as_aux_lemma => kernel_rfl
  · as_aux_lemma => kernel_rfl
  · as_aux_lemma => kernel_rfl
  · as_aux_lemma => kernel_rfl
  · as_aux_lemma => kernel_rfl
  · exact f_verifyWishes_10
  · exact f_verifyWishes_11
  · exact f_verifyWishes_12
  · exact f_verifyWishes_13
  · refine eq_any (L' := [22, 3, 23]) (by as_aux_lemma => kernel_rfl) (by rw [hp, hv]; rfl) ?_
    simp only [List.any_cons, List.any_nil, Bool.or_false, mp_sapiAreaWish, mp_int, mp_suint8]
  · refine eq_any (L' := [22, 3, 23]) (by as_aux_lemma => kernel_rfl) (by rw [hp, hv]; rfl) ?_
    simp only [List.any_cons, List.any_nil, Bool.or_false, if_sapiAreaWish, if_int, if_suint8]
  · as_aux_lemma => kernel_rfl
  · refine eq_any (L' := [22, 3, 23]) (by as_aux_lemma => kernel_rfl) (by rw [hp, hv]; rfl) ?_
    simp only [List.any_cons, List.any_nil, Bool.or_false, lp_sapiAreaWish, lp_int, lp_suint8]
  · refine eq_any (L' := [22, 3, 23, 4]) (by as_aux_lemma => kernel_rfl) (by rw [hp, hv, hr]; rfl) ?_
    simp only [List.any_cons, List.any_nil, Bool.or_false, wk_sapiAreaWish, wk_int, wk_suint8, wk_bool]
  · as_aux_lemma => kernel_rfl
  · rw [hr]
    simp only [List.all_toArray, List.all_cons, List.all_nil, Bool.and_true, Bool.true_and, rr_bool]
    as_aux_lemma => kernel_rfl
  · refine eq_any (L' := [4]) (by as_aux_lemma => kernel_rfl) (by rw [hr]) ?_
    simp only [List.any_cons, List.any_nil, Bool.or_false, if_bool]
  · refine eq_any (L' := [4]) (by as_aux_lemma => kernel_rfl) (by rw [hr]) ?_
    simp only [List.any_cons, List.any_nil, Bool.or_false, lp_bool]
  · exact f_verifyWishes_23
  · as_aux_lemma => kernel_rfl
  · exact f_verifyWishes_25
  · exact f_verifyWishes_26
  · exact f_verifyWishes_27
  · exact f_verifyWishes_28
  · as_aux_lemma => kernel_rfl
  · as_aux_lemma => kernel_rfl
  · refine eq_any (L' := [22, 3, 23, 4]) (by as_aux_lemma => kernel_rfl) (by rw [hp, hv, hr]; rfl) ?_
    simp only [List.any_cons, List.any_nil, Bool.or_false, vl_sapiAreaWish, vl_int, vl_suint8, vl_bool]
  · refine fits_of (T := [22, 3, 23, 4, 735, 778, 734, 801]) rfl (by rw [hp, hv, hr]; as_aux_lemma => kernel_rfl) ?_
    simp only [List.all_cons, List.all_nil, Bool.and_true, own_of vl_sapiAreaWish, own_of vl_int, own_of vl_suint8, own_of vl_bool, own_of vl_a64uint8, own_of vl_a4int, own_of vl_a8uint32, own_of vl_a10a16uint8]

end Go.Proofs.YtphpkalbbmlgoaaGreatDoor.verifyWishes
