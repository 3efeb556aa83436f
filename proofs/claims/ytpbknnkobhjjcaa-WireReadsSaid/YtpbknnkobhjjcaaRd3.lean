/- Byte strings as the specification of layer 6 reads them. -/
import Derived.Test.YtpbknnkobhjjcaaRd2
namespace Go.Proofs.Ytpbknnkobhjjcaa
open Go.RowKit
set_option linter.unusedSimpArgs false

def B6Post (res : Except Int (List UInt8 × Nat)) (w : World) (r : Ending) (w' : World) : Prop := (match res with
  | .ok x => ∃ v, r = .returned (.tuple #[v, .int .i64 (x.2 : Int), .int .i64 0]) ∧ Bytes w v x.1
  | .error k => r = .returned (.tuple #[.slice none 0 0, .int .i64 0, .int .i64 k])) ∧ w = w'
set_option maxRecDepth 100000 in
set_option maxHeartbeats 4000000 in
theorem bytes6_any (v : Value) (l : List UInt8) (limit : Int) (w : World) (hv : Bytes w v l) (hl : l.length ≤ 100000) : Calls Try.prog 48 #[v, .int .i64 limit] w (B6Post (pPart l limit 0) w) := by
  have HU := Lib.hid (count6_any v l limit w hv hl)
  obtain ⟨A, cap, hvf, hcap, hmax, -⟩ := id hv
  unfold maxLen at hmax
  unfold pPart
  cases hg : pCount l limit 0 with
  | error k =>
    have hk := pCount_err hg
    have bk : (k == 0) = false := by simpa using hk
    have bk2 : (k != 0) = true := by simpa using hk
    rw [hg] at HU
    unfold R6Post iv at HU
    simp only at HU
    clear hg hk hv
    subst hvf
    go_enter Try.func48, Try.ntmps48
    go_wp2_with fail
    refine HU.out.mono ?_
    rintro r w' ⟨rfl, rfl⟩
    go_wp2_with fail
    go_ret3
    exact ⟨rfl, rfl⟩
  | ok x =>
    obtain ⟨x1, x2, x3, x4, x5⟩ := pCount_ok hg
    rw [hg] at HU
    unfold R6Post iv at HU
    simp only at HU
    clear hg
    obtain ⟨c, a⟩ := x
    simp only at HU x1 x2 x3 x4 x5 ⊢
    obtain ⟨m, rfl⟩ : ∃ m : Nat, c = (m : Int) := ⟨c.toNat, by omega⟩
    simp only [Int.toNat_natCast]
    by_cases h5 : l.length - a < m
    · rw [if_pos h5]
      have h5' : (l.length : Int) - (a : Int) < (m : Int) := by omega
      clear hv
      subst hvf
      go_enter Try.func48, Try.ntmps48
      go_wp2_with fail
      refine HU.out.mono ?_
      rintro r w' ⟨rfl, rfl⟩
      go_wp2_with fail
      go_ret3
      exact ⟨rfl, rfl⟩
    · rw [if_neg h5]
      have h5' : ¬ (l.length : Int) - (a : Int) < (m : Int) := by omega
      subst hvf
      have hv1 := Reads.part hv a (a + m) (by omega) (by omega)
      rw [show a + m - a = m by omega] at hv1
      have hv3 : Bytes w (sliced A a (a + m) cap 1) ((l.drop a).take m) := by
        unfold Bytes
        rw [List.map_take, List.map_drop, show (List.take m (List.drop a l)).length = m by simp; omega]
        exact hv1
      have HV3 := Lib.hid hv3
      have h5'' : decide ((l.length : Int) - (a : Int) < (m : Int)) = false := by simp; omega
      have h10 : IntKind.i64.wrap ((l.length : Int) - (a : Int)) = (l.length : Int) - (a : Int) := IntWalk.i64_in _ (by omega)
      have hcm : a + m ≤ cap := by omega
      have hcm2 : a + m ≤ 100000 := by omega
      clear hv hv1 hv3 h5' x1 x2 x3 x4 x5
      by_cases hca : cap = a
      · subst hca
        go_enter Try.func48, Try.ntmps48
        go_wp2_with fail
        refine HU.out.mono ?_
        rintro r w' ⟨rfl, rfl⟩
        go_wp2_with fail
        go_ret3
        refine ⟨⟨_, rfl, ?_⟩, rfl⟩
        have h3 := HV3.out
        unfold sliced at h3
        simp only [Nat.mul_one, if_true, Nat.sub_self] at h3
        exact h3
      · have HCA := Lib.hid hca
        have hca2 : (cap == a) = false := by simpa using hca
        go_enter Try.func48, Try.ntmps48
        go_wp2_with fail
        refine HU.out.mono ?_
        rintro r w' ⟨rfl, rfl⟩
        go_wp2_with fail
        go_ret3
        refine ⟨⟨_, rfl, ?_⟩, rfl⟩
        have h3 := HV3.out
        unfold sliced at h3
        simp only [Nat.mul_one, if_neg HCA.out] at h3
        exact h3
end Go.Proofs.Ytpbknnkobhjjcaa
