/- The closed facts of the row VerifyNone, one by one; those that run through the types by their books. -/
import Derived.Test.YtphpkalbbmlgoaaGreatDoorRows
import Derived.Test.YtphpkalbbmlgoaaGreatDoorBk
import Derived.Test.YtphpkalbbmlgoaaGreatDoorLo1
import Derived.Test.YtphpkalbbmlgoaaGreatDoorVn9Fa
import Derived.Test.YtphpkalbbmlgoaaGreatDoorVn9Fb
import Derived.Test.YtphpkalbbmlgoaaGreatDoorVn9Fc
import Derived.Test.YtphpkalbbmlgoaaGreatDoorVn9Fd
namespace Go.Proofs.YtphpkalbbmlgoaaGreatDoor.verifyNone
open Go
set_option maxRecDepth 10000000 in
set_option maxHeartbeats 16000000 in
theorem closed : joinedFacts Tryz.pinned.checked.prog 4 Tryz.f4 Rows.verifyNoneSpec Rows.verifyNoneRow = true := by
  have hp : Tryz.f4.params = #[3] := by kernel_rfl
  have hr : Tryz.f4.resultTypes = #[4] := by kernel_rfl
  have hv : Rows.verifyNoneSpec.plain.varTypes Tryz.pinned.checked.prog = [] := by kernel_rfl
  unfold joinedFacts
  simp only [Bool.and_eq_true]
  and_intros
  · as_aux_lemma => kernel_rfl
  · exact laid_out
  · exact f_verifyNone_3
  · rw [hp]
    simp only [List.all_toArray, List.all_cons, List.all_nil, Bool.and_true, rr_int]
  · as_aux_lemma => kernel_rfl
  · as_aux_lemma => kernel_rfl
  · as_aux_lemma => kernel_rfl
  · as_aux_lemma => kernel_rfl
  · as_aux_lemma => kernel_rfl
  · exact f_verifyNone_10
  · exact f_verifyNone_11
  · exact f_verifyNone_12
  · exact f_verifyNone_13
  · refine eq_any (L' := [3]) (by as_aux_lemma => kernel_rfl) (by rw [hp, hv]; rfl) ?_
    simp only [List.any_cons, List.any_nil, Bool.or_false, mp_int]
  · refine eq_any (L' := [3]) (by as_aux_lemma => kernel_rfl) (by rw [hp, hv]; rfl) ?_
    simp only [List.any_cons, List.any_nil, Bool.or_false, if_int]
  · as_aux_lemma => kernel_rfl
  · refine eq_any (L' := [3]) (by as_aux_lemma => kernel_rfl) (by rw [hp, hv]; rfl) ?_
    simp only [List.any_cons, List.any_nil, Bool.or_false, lp_int]
  · refine eq_any (L' := [3, 4]) (by as_aux_lemma => kernel_rfl) (by rw [hp, hv, hr]; rfl) ?_
    simp only [List.any_cons, List.any_nil, Bool.or_false, wk_int, wk_bool]
  · as_aux_lemma => kernel_rfl
  · rw [hr]
    simp only [List.all_toArray, List.all_cons, List.all_nil, Bool.and_true, Bool.true_and, rr_bool]
    as_aux_lemma => kernel_rfl
  · refine eq_any (L' := [4]) (by as_aux_lemma => kernel_rfl) (by rw [hr]) ?_
    simp only [List.any_cons, List.any_nil, Bool.or_false, if_bool]
  · refine eq_any (L' := [4]) (by as_aux_lemma => kernel_rfl) (by rw [hr]) ?_
    simp only [List.any_cons, List.any_nil, Bool.or_false, lp_bool]
  · exact f_verifyNone_23
  · as_aux_lemma => kernel_rfl
  · exact f_verifyNone_25
  · exact f_verifyNone_26
  · exact f_verifyNone_27
  · exact f_verifyNone_28
  · as_aux_lemma => kernel_rfl
  · as_aux_lemma => kernel_rfl
  · refine eq_any (L' := [3, 4]) (by as_aux_lemma => kernel_rfl) (by rw [hp, hv, hr]; rfl) ?_
    simp only [List.any_cons, List.any_nil, Bool.or_false, vl_int, vl_bool]
  · refine fits_of (T := [3, 4, 735, 778, 734, 801]) rfl (by rw [hp, hv, hr]; as_aux_lemma => kernel_rfl) ?_
    simp only [List.all_cons, List.all_nil, Bool.and_true, own_of vl_int, own_of vl_bool, own_of vl_a64uint8, own_of vl_a4int, own_of vl_a8uint32, own_of vl_a10a16uint8]

end Go.Proofs.YtphpkalbbmlgoaaGreatDoor.verifyNone
