/- The law OptionDecode: its walk. -/
import Derived.Test.YtpbknnkobhjjcaaDec6
namespace Go.Proofs.Ytpbknnkobhjjcaa
open Go.RowKit
set_option linter.unusedSimpArgs false

set_option maxRecDepth 100000 in
set_option maxHeartbeats 8000000 in
theorem optDecode_walk (v : Value) (L : List UInt8) (w : World) (hv : Bytes w v L) : Calls Try.prog 16 #[v] w fun r w' => r = .returned (.bool true) ∧ Touch [] w w' := by
  obtain ⟨A, cap, hvf, -⟩ := id hv
  by_cases hl : 1000 < L.length
  · have hl' : (1000 : Int) < (L.length : Int) := by omega
    subst hvf
    go_enter Try.func16, Try.ntmps16
    go_wp2_with fail
    refine (known30_any _).mono ?_
    rintro r wk ⟨rfl, htk⟩
    go_wp2_with fail
    go_ret
    exact ⟨rfl, htk⟩
  have hl' : ¬ (1000 : Int) < (L.length : Int) := by omega
  have HE := Lib.hid (decode_any v L w hv (by omega))
  have HRE := Lib.hid (fun (W : World) (h : Touch [] w W) => rdecode_any v L W (Reads.touch0 hv h) (by omega))
  subst hvf
  generalize decOf L = d at *
  go_enter Try.func16, Try.ntmps16
  go_wp2_with fail
  refine HE.out.mono ?_
  rintro r w1 ⟨v1, xs, rfl, hb1, he1, ht1⟩
  go_wp2_with fail
  refine (HRE.out _ ht1).mono ?_
  rintro r w2 ⟨v2, ys, rfl, hb2, he2, ht2⟩
  have HSB := Lib.hid (samebids_eq v1 v2 xs ys w2 (hb1.touch0 ht2) hb2 (he1.trans he2.symm))
  have htt := ht1.then0 ht2
  clear hb1 hb2 he1 he2 ht1 ht2
  go_wp2_with fail
  refine HSB.out.mono ?_
  rintro r w3 ⟨rfl, ht3⟩
  go_wp2_with fail
  refine (known30_any _).mono ?_
  rintro r wk ⟨rfl, htk⟩
  go_wp2_with fail
  go_ret
  exact ⟨rfl, (htt.then0 ht3).then0 htk⟩
end Go.Proofs.Ytpbknnkobhjjcaa
