/- Numbers, counts and truth values as the specification of layer 6 reads them. -/
import Derived.Test.YtpbknnkobhjjcaaRd1
namespace Go.Proofs.Ytpbknnkobhjjcaa
open Go.RowKit
set_option linter.unusedSimpArgs false

def R6Post {α : Type} (f : α → Value) (z : Value) (res : Except Int (α × Nat)) (w : World) (r : Ending) (w' : World) : Prop := (match res with
  | .ok x => r = .returned (.tuple #[f x.1, .int .i64 (x.2 : Int), .int .i64 0])
  | .error k => r = .returned (.tuple #[z, .int .i64 0, .int .i64 k])) ∧ w = w'
def iv (n : Int) : Value := .int .i64 n
set_option maxRecDepth 100000 in
set_option maxHeartbeats 4000000 in
theorem uint6_any (v : Value) (l : List UInt8) (w : World) (hv : Bytes w v l) (hl : l.length ≤ 100000) : Calls Try.prog 44 #[v] w (R6Post iv (iv 0) (pUint l 0) w) := by
  have HU := Lib.hid (ungroup9_any v l w hv hl)
  obtain ⟨A, cap, hvf, -⟩ := id hv
  clear hv
  subst hvf
  unfold pUint
  cases hg : pGroup l 9 0 0 0 with
  | error k =>
    rw [hg] at HU
    unfold Ug6Post at HU
    simp only at HU
    clear hg
    go_enter Try.func44, Try.ntmps44
    go_wp2_with fail
    refine HU.out.mono ?_
    rintro r w' ⟨rfl, rfl⟩
    go_wp2_with fail
    go_ret3
    exact ⟨rfl, rfl⟩
  | ok x =>
    have hb := pGroup9 hg
    rw [hg] at HU
    unfold Ug6Post at HU
    simp only at HU
    clear hg
    have hb1 : (x.1 : Int) < 9223372036854775808 := by omega
    have hw : wrap64 (x.1 : Int) = (x.1 : Int) := by unfold wrap64; omega
    obtain ⟨m, a⟩ := x
    simp only at HU hb1 hw ⊢
    have HW := Lib.hid hw
    clear hb hb1 hw
    go_enter Try.func44, Try.ntmps44
    go_wp2_with fail
    refine HU.out.mono ?_
    rintro r w' ⟨rfl, rfl⟩
    go_wp2_with fail
    go_ret3
    rw [HW.out]
    exact ⟨rfl, rfl⟩
set_option maxRecDepth 100000 in
set_option maxHeartbeats 4000000 in
theorem unfold6_any (u : Nat) (w : World) (hu : u < 18446744073709551616) : Calls Try.prog 98 #[.int .u64 u] w fun r w' => r = .returned (iv (unfold' u)) ∧ w = w' := by
  unfold iv unfold'
  by_cases h : u % 2 = 1
  · rw [if_pos h]
    have h1 : ((u : Int) % 2 == 0) = false := by simp; omega
    have hw : wrap64 ((u : Int) / 2) = (u : Int) / 2 := by unfold wrap64; omega
    have hf : - ((u : Int) / 2) - 1 = -((u / 2 : Nat) : Int) - 1 := by omega
    go_enter Try.func98, Try.ntmps98
    go_wp2_with fail
    go_ret
    exact ⟨rfl, rfl⟩
  · rw [if_neg h]
    have h1 : ((u : Int) % 2 == 0) = true := by simp; omega
    have hw : wrap64 ((u : Int) / 2) = (u : Int) / 2 := by unfold wrap64; omega
    go_enter Try.func98, Try.ntmps98
    go_wp2_with fail
    go_ret
    rw [show ((u / 2 : Nat) : Int) = (u : Int) / 2 by omega]
    exact ⟨rfl, rfl⟩
set_option maxRecDepth 100000 in
set_option maxHeartbeats 4000000 in
theorem int6_any (v : Value) (l : List UInt8) (w : World) (hv : Bytes w v l) (hl : l.length ≤ 100000) : Calls Try.prog 45 #[v] w (R6Post iv (iv 0) (pInt l 0) w) := by
  have HU := Lib.hid (ungroup10_any v l w hv hl)
  obtain ⟨A, cap, hvf, -⟩ := id hv
  clear hv
  subst hvf
  unfold pInt
  cases hg : pGroup l 10 0 0 0 with
  | error k =>
    have hk := pGroup_err l _ _ _ _ _ hg
    have bk : (k == 0) = false := by simpa using hk
    have bk2 : (k != 0) = true := by simpa using hk
    rw [hg] at HU
    unfold Ug6Post at HU
    simp only at HU
    clear hg hk
    go_enter Try.func45, Try.ntmps45
    go_wp2_with fail
    refine HU.out.mono ?_
    rintro r w' ⟨rfl, rfl⟩
    go_wp2_with fail
    go_ret3
    exact ⟨rfl, rfl⟩
  | ok x =>
    have hb := pGroup10 hg
    rw [hg] at HU
    unfold Ug6Post at HU
    simp only at HU
    clear hg
    obtain ⟨m, a⟩ := x
    have HUF := Lib.hid (fun (W : World) => unfold6_any m W hb.1)
    simp only at HU ⊢
    clear hb
    show Calls _ _ _ _ (R6Post iv (iv 0) (.ok (unfold' m, a)) w)
    generalize unfold' m = u at *
    go_enter Try.func45, Try.ntmps45
    go_wp2_with fail
    refine HU.out.mono ?_
    rintro r w' ⟨rfl, rfl⟩
    go_wp2_with fail
    refine (HUF.out _).mono ?_
    rintro r w' ⟨rfl, rfl⟩
    go_wp2_with fail
    go_ret3
    exact ⟨rfl, rfl⟩
set_option maxRecDepth 100000 in
set_option maxHeartbeats 4000000 in
theorem bool6_any (v : Value) (l : List UInt8) (w : World) (hv : Bytes w v l) : Calls Try.prog 46 #[v] w (R6Post (fun b : Bool => .bool b) (.bool false) (pBool l 0) w) := by
  obtain ⟨A, cap, hvf, hq1, hq2, -, h4⟩ := id hv
  unfold maxLen at hq2
  cases l with
  | nil =>
    subst hvf
    clear hv h4
    show Calls _ _ #[.slice A 0 cap] _ _
    go_enter Try.func46, Try.ntmps46
    go_wp2_with fail
    go_ret3
    exact ⟨rfl, rfl⟩
  | cons c l =>
    obtain ⟨b, off, rfl, -, hc⟩ := h4 (by simp)
    have hc0 := hc 0 (.int .u8 (c.toNat : Int)) (by simp [B])
    subst hvf
    have hln : (((c :: l).length : Int) == 0) = false := by simp; omega
    have hl2 : (0 : Int) < ((c :: l).length : Int) := by simp
    unfold pBool
    simp only [List.getElem?_cons_zero]
    clear hv hc h4
    generalize (c :: l).length = n at *
    have hbyte : c.toNat < 256 := UInt8.toNat_lt _
    generalize c.toNat = x at *
    simp only [Nat.add_zero] at hc0
    by_cases hx : 1 < x
    · rw [if_pos hx]
      have hx' : (1 : Int) < (x : Int) := by omega
      go_enter Try.func46, Try.ntmps46
      go_wp2_with fail
      go_ret3
      exact ⟨rfl, rfl⟩
    · rw [if_neg hx]
      have hx' : ¬ (1 : Int) < (x : Int) := by omega
      have HB : Hid (((x : Int) == 1) = (x == 1)) := Lib.hid (by rw [Bool.eq_iff_iff]; simp; omega)
      go_enter Try.func46, Try.ntmps46
      go_wp2_with fail
      go_ret3
      refine ⟨?_, rfl⟩
      show _ = Ending.returned (.tuple #[.bool (x == 1), _, _])
      rw [← HB.out]
      rfl
set_option maxRecDepth 100000 in
set_option maxHeartbeats 4000000 in
theorem count6_any (v : Value) (l : List UInt8) (limit : Int) (w : World) (hv : Bytes w v l) (hl : l.length ≤ 100000) : Calls Try.prog 47 #[v, .int .i64 limit] w (R6Post iv (iv 0) (pCount l limit 0) w) := by
  have HU := Lib.hid (uint6_any v l w hv hl)
  obtain ⟨A, cap, hvf, -⟩ := id hv
  clear hv
  subst hvf
  unfold pCount
  unfold pUint at HU
  cases hg : pGroup l 9 0 0 0 with
  | error k =>
    have hk := pGroup_err l _ _ _ _ _ hg
    have bk : (k == 0) = false := by simpa using hk
    have bk2 : (k != 0) = true := by simpa using hk
    rw [hg] at HU
    unfold R6Post iv at HU
    simp only [Except.map] at HU
    clear hg hk
    go_enter Try.func47, Try.ntmps47
    go_wp2_with fail
    refine HU.out.mono ?_
    rintro r w' ⟨rfl, rfl⟩
    go_wp2_with fail
    go_ret3
    exact ⟨rfl, rfl⟩
  | ok x =>
    rw [hg] at HU
    unfold R6Post iv at HU
    simp only [Except.map] at HU
    clear hg
    obtain ⟨m, a⟩ := x
    simp only at HU ⊢
    by_cases h0 : limit < 0
    · rw [if_pos h0]
      go_enter Try.func47, Try.ntmps47
      go_wp2_with fail
      refine HU.out.mono ?_
      rintro r w' ⟨rfl, rfl⟩
      go_wp2_with fail
      go_ret3
      exact ⟨rfl, rfl⟩
    · rw [if_neg h0]
      by_cases h1 : limit < (m : Int)
      · rw [if_pos h1]
        go_enter Try.func47, Try.ntmps47
        go_wp2_with fail
        refine HU.out.mono ?_
        rintro r w' ⟨rfl, rfl⟩
        go_wp2_with fail
        go_ret3
        exact ⟨rfl, rfl⟩
      · rw [if_neg h1]
        go_enter Try.func47, Try.ntmps47
        go_wp2_with fail
        refine HU.out.mono ?_
        rintro r w' ⟨rfl, rfl⟩
        go_wp2_with fail
        go_ret3
        exact ⟨rfl, rfl⟩
theorem pGroup_drop (l : List UInt8) (a : Nat) : ∀ (f i n j : Nat), pGroup l f i n (a + j) = (pGroup (l.drop a) f i n j).map fun x => (x.1, a + x.2)
  | 0, i, n, j => rfl
  | f + 1, i, n, j => by
    unfold pGroup
    rw [List.getElem?_drop]
    cases l[a + j]? with
    | none => rfl
    | some b =>
      simp only
      split
      · rfl
      · split
        · split <;> rfl
        · exact pGroup_drop l a f (i + 1) _ (j + 1)
end Go.Proofs.Ytpbknnkobhjjcaa
