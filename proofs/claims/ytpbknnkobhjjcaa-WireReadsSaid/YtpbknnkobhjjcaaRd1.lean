/- Numbers as the specification of layer 6 reads them. -/
import Derived.Test.YtpbknnkobhjjcaaCanon
namespace Go.Proofs.Ytpbknnkobhjjcaa
open Go.RowKit
set_option linter.unusedSimpArgs false

/-- What Ungroup returns: the number, how many bytes it took, the error. -/
def Ug6Post (res : Except Int (Nat × Nat)) (w : World) (r : Ending) (w' : World) : Prop := (match res with
  | .ok x => r = .returned (.tuple #[.int .u64 (x.1 : Int), .int .i64 (x.2 : Int), .int .i64 0])
  | .error k => r = .returned (.tuple #[.int .u64 0, .int .i64 0, .int .i64 k])) ∧ w = w'
theorem Ug6Post.err {res : Except Int (Nat × Nat)} {k : Int} {w : World} (h : res = .error k) : Ug6Post res w (.returned (.tuple #[.int .u64 0, .int .i64 0, .int .i64 k])) w := by subst h; exact ⟨rfl, rfl⟩
theorem Ug6Post.ok {res : Except Int (Nat × Nat)} {m a' : Nat} {w : World} (h : res = .ok (m, a')) : Ug6Post res w (.returned (.tuple #[.int .u64 (m : Int), .int .i64 (a' : Int), .int .i64 0])) w := by subst h; exact ⟨rfl, rfl⟩
def Ug6Rel (l : List UInt8) (m : Nat) (res : Except Int (Nat × Nat)) (tn ti : Value) : Prop := ∃ i n : Nat, i < m ∧ i ≤ l.length ∧ tn = .int .u64 n ∧ ti = .int .i64 i ∧ n < 2 ^ (7 * i) ∧ res = pGroup l (m - i) i n i

set_option maxRecDepth 100000 in
set_option maxHeartbeats 4000000 in
theorem ungroup9_any (v : Value) (l : List UInt8) (w : World) (hv : Bytes w v l) (hl : l.length ≤ 100000) : Calls Try.prog 97 #[v, .int .i64 9, .int .u64 9223372036854775807] w (Ug6Post (pGroup l 9 0 0 0) w) := by
  have hst : Ug6Rel l 9 (pGroup l 9 0 0 0) (.int .u64 0) (.int .i64 0) := ⟨0, 0, by omega, by omega, rfl, rfl, by simp, rfl⟩
  have HER := Lib.hid (fun (k : Int) (h : pGroup l 9 0 0 0 = .error k) => Ug6Post.err (w := w) h)
  have HOK := Lib.hid (fun (m a' : Nat) (h : pGroup l 9 0 0 0 = .ok (m, a')) => Ug6Post.ok (w := w) h)
  generalize hP : Ug6Post (pGroup l 9 0 0 0) w = Post at *
  generalize pGroup l 9 0 0 0 = res at *
  clear hP
  obtain ⟨A, cap, hvf, hq1, hq2, -⟩ := id hv
  unfold maxLen at hq2
  have hcell : ∀ j (hj : j < l.length), ∃ b off, A = some ⟨b, off, none⟩ ∧ w.cell? ⟨b, off + j, none⟩ = some (.int .u8 (l[j].toNat : Int)) := fun j hj => by
    obtain ⟨A', cap', e, _, _, _, h4⟩ := id hv
    rw [hvf] at e
    injection e with e1 _ _
    subst e1
    obtain ⟨b, off, rfl, _, hc⟩ := h4 (by omega)
    exact ⟨b, off, rfl, hc j _ (by simp [B, hj])⟩
  have HCL := Lib.hid hcell
  clear hcell hv
  subst hvf
  go_enter Try.func97, Try.ntmps97
  go_wp2_with fail
  go_loop [9, 10] (fun tn ti => Ug6Rel l 9 res tn ti) (fun _ ti => 9 - (intOf ti).toNat)
  case atStart => exact hst
  case round =>
    clear hst
    obtain ⟨i, n, hi, hil, rfl, rfl, hn, hres⟩ := hrel
    have HN := Lib.hid hn
    have HR := Lib.hid hres
    clear hn hres
    by_cases hal : i < l.length
    case neg =>
      have hal' : ((i : Int) == (l.length : Int)) = true := by simp; omega
      go_wp2_with fail
      go_ret3
      exact HER.out 4 (by rw [HR.out, pg_short hi hal])
    have hal' : ((i : Int) == (l.length : Int)) = false := by simp; omega
    have hal2 : (i : Int) < (l.length : Int) := by omega
    obtain ⟨b, off, rfl, hc⟩ := HCL.out i hal
    have HSH := Lib.hid (pg_zero (l := l) (n := n) (a := i) hi hal)
    have HLA := Lib.hid (pg_last (l := l) (n := n) (a := i) hi hal)
    have HMO := Lib.hid (pg_more (l := l) (n := n) (a := i) hi hal)
    have HBI := Lib.hid (pg_big (l := l) (n := n) (a := i) hi hal)
    have hbyte : l[i].toNat < 256 := UInt8.toNat_lt _
    generalize l[i].toNat = x at *
    by_cases hlast : i = 8
    · subst hlast
      by_cases hx0 : x = 0
      · have bx : ((x : Int) == 0) = true := by simp [hx0]
        go_wp2_with fail
        go_ret3
        exact HER.out 6 (by rw [HR.out, HSH.out (by omega) hx0])
      have bx : ((x : Int) == 0) = false := by simpa using hx0
      by_cases hxt : 127 < x
      · have hxt' : (127 : Int) < (x : Int) := by omega
        have HE6 : Hid (res = .error 6) := Lib.hid (by
          rw [HR.out]
          by_cases h9 : 8 = 9 ∧ 1 < x % 128
          · exact HBI.out h9.1 h9.2
          · rw [HMO.out h9 (by omega)]; rfl)
        go_wp2_with fail
        go_ret3
        exact HER.out 6 HE6.out
      · have hxt' : ¬ (127 : Int) < (x : Int) := by omega
        have HE1 : Hid (bits .or .u64 (n : Int) ((x : Int) * 72057594037927936) = ((n + x % 128 * 2 ^ (7 * 8) : Nat) : Int)) := Lib.hid (by
          have hm : x % 128 = x := by omega
          rw [hm]
          have := orshift 8 n x (by omega) HN.out (by omega)
          rw [← this, IntKind.wrap_u64]
          congr 1
          omega)
        have HF1 : Hid (Post (.returned (.tuple #[.int .u64 (bits .or .u64 (n : Int) ((x : Int) * 72057594037927936)), .int .i64 ((9 : Nat) : Int), .int .i64 0])) w) := Lib.hid (by
          rw [HE1.out]
          exact HOK.out _ _ (by rw [HR.out, HLA.out (by omega) (by omega) (by omega)]))
        go_wp2_with fail
        go_ret3
        exact HF1.out
    have hlast' : ((i : Int) == 8) = false := by simp; omega
    have HO : Hid (bits .or .u64 (n : Int) (IntKind.u64.wrap ((x : Int) % 128 * 2 ^ (7 * i))) = ((n + x % 128 * 2 ^ (7 * i) : Nat) : Int)) := Lib.hid (by
      have := orshift i n (x % 128) (by omega) HN.out (by omega)
      rwa [show ((x % 128 : Nat) : Int) = (x : Int) % 128 by omega] at this)
    have HLT : Hid (n + x % 128 * 2 ^ (7 * i) < 2 ^ (7 * (i + 1))) := Lib.hid (by
      have h1 := HN.out
      rw [two_pow7]
      have h2 : x % 128 * 2 ^ (7 * i) ≤ 127 * 2 ^ (7 * i) := Nat.mul_le_mul_right _ (by omega)
      omega)
    have HFI : Hid (x < 128 → ¬ (x = 0 ∧ 0 < i) → Post (.returned (.tuple #[.int .u64 (bits .or .u64 (n : Int) (IntKind.u64.wrap ((x : Int) % 128 * 2 ^ (7 * i)))), .int .i64 ((i : Int) + 1), .int .i64 0])) w) := Lib.hid (fun h1 h2 => by
      rw [HO.out]
      exact HOK.out _ _ (by rw [HR.out, HLA.out (by omega) h2 h1]))
    by_cases hx : x < 128
    · have hx' : (x : Int) < 128 := by omega
      by_cases hi0 : 0 < i
      · by_cases hx0 : x = 0
        · have bx : ((x : Int) == 0) = true := by simp [hx0]
          go_wp2_with fail
          go_ret3
          exact HER.out 6 (by rw [HR.out, HSH.out hi0 hx0])
        · have bx : ((x : Int) == 0) = false := by simpa using hx0
          go_wp2_with fail
          go_ret3
          exact HFI.out hx (by omega)
      · have hi0' : decide (0 < i) = false := by simpa using hi0
        go_wp2_with fail
        go_ret3
        exact HFI.out hx (by omega)
    · have hx' : ¬ (x : Int) < 128 := by omega
      go_wp2_with fail
      go_round
      case rel =>
        rw [HO.out]
        exact ⟨i + 1, n + x % 128 * 2 ^ (7 * i), by omega, by omega, rfl, by go_num, HLT.out, by rw [HR.out, HMO.out (by omega) (by omega)]⟩
      case measure => simp [intOf]; omega

set_option maxRecDepth 100000 in
set_option maxHeartbeats 4000000 in
theorem ungroup10_any (v : Value) (l : List UInt8) (w : World) (hv : Bytes w v l) (hl : l.length ≤ 100000) : Calls Try.prog 97 #[v, .int .i64 10, .int .u64 18446744073709551615] w (Ug6Post (pGroup l 10 0 0 0) w) := by
  have hst : Ug6Rel l 10 (pGroup l 10 0 0 0) (.int .u64 0) (.int .i64 0) := ⟨0, 0, by omega, by omega, rfl, rfl, by simp, rfl⟩
  have HER := Lib.hid (fun (k : Int) (h : pGroup l 10 0 0 0 = .error k) => Ug6Post.err (w := w) h)
  have HOK := Lib.hid (fun (m a' : Nat) (h : pGroup l 10 0 0 0 = .ok (m, a')) => Ug6Post.ok (w := w) h)
  generalize hP : Ug6Post (pGroup l 10 0 0 0) w = Post at *
  generalize pGroup l 10 0 0 0 = res at *
  clear hP
  obtain ⟨A, cap, hvf, hq1, hq2, -⟩ := id hv
  unfold maxLen at hq2
  have hcell : ∀ j (hj : j < l.length), ∃ b off, A = some ⟨b, off, none⟩ ∧ w.cell? ⟨b, off + j, none⟩ = some (.int .u8 (l[j].toNat : Int)) := fun j hj => by
    obtain ⟨A', cap', e, _, _, _, h4⟩ := id hv
    rw [hvf] at e
    injection e with e1 _ _
    subst e1
    obtain ⟨b, off, rfl, _, hc⟩ := h4 (by omega)
    exact ⟨b, off, rfl, hc j _ (by simp [B, hj])⟩
  have HCL := Lib.hid hcell
  clear hcell hv
  subst hvf
  go_enter Try.func97, Try.ntmps97
  go_wp2_with fail
  go_loop [9, 10] (fun tn ti => Ug6Rel l 10 res tn ti) (fun _ ti => 10 - (intOf ti).toNat)
  case atStart => exact hst
  case round =>
    clear hst
    obtain ⟨i, n, hi, hil, rfl, rfl, hn, hres⟩ := hrel
    have HN := Lib.hid hn
    have HR := Lib.hid hres
    clear hn hres
    by_cases hal : i < l.length
    case neg =>
      have hal' : ((i : Int) == (l.length : Int)) = true := by simp; omega
      go_wp2_with fail
      go_ret3
      exact HER.out 4 (by rw [HR.out, pg_short hi hal])
    have hal' : ((i : Int) == (l.length : Int)) = false := by simp; omega
    have hal2 : (i : Int) < (l.length : Int) := by omega
    obtain ⟨b, off, rfl, hc⟩ := HCL.out i hal
    have HSH := Lib.hid (pg_zero (l := l) (n := n) (a := i) hi hal)
    have HLA := Lib.hid (pg_last (l := l) (n := n) (a := i) hi hal)
    have HMO := Lib.hid (pg_more (l := l) (n := n) (a := i) hi hal)
    have HBI := Lib.hid (pg_big (l := l) (n := n) (a := i) hi hal)
    have hbyte : l[i].toNat < 256 := UInt8.toNat_lt _
    generalize l[i].toNat = x at *
    by_cases hlast : i = 9
    · subst hlast
      by_cases hx0 : x = 0
      · have bx : ((x : Int) == 0) = true := by simp [hx0]
        go_wp2_with fail
        go_ret3
        exact HER.out 6 (by rw [HR.out, HSH.out (by omega) hx0])
      have bx : ((x : Int) == 0) = false := by simpa using hx0
      by_cases hxt : 1 < x
      · have hxt' : (1 : Int) < (x : Int) := by omega
        have HE6 : Hid (res = .error 6) := Lib.hid (by
          rw [HR.out]
          by_cases h9 : 9 = 9 ∧ 1 < x % 128
          · exact HBI.out h9.1 h9.2
          · rw [HMO.out h9 (by omega)]; rfl)
        go_wp2_with fail
        go_ret3
        exact HER.out 6 HE6.out
      · have hxt' : ¬ (1 : Int) < (x : Int) := by omega
        have HE1 : Hid (bits .or .u64 (n : Int) ((x : Int) * 9223372036854775808) = ((n + x % 128 * 2 ^ (7 * 9) : Nat) : Int)) := Lib.hid (by
          have hm : x % 128 = x := by omega
          rw [hm]
          exact orshift9 n x HN.out (by omega))
        have HF1 : Hid (Post (.returned (.tuple #[.int .u64 (bits .or .u64 (n : Int) ((x : Int) * 9223372036854775808)), .int .i64 ((10 : Nat) : Int), .int .i64 0])) w) := Lib.hid (by
          rw [HE1.out]
          exact HOK.out _ _ (by rw [HR.out, HLA.out (by omega) (by omega) (by omega)]))
        go_wp2_with fail
        go_ret3
        exact HF1.out
    have hlast' : ((i : Int) == 9) = false := by simp; omega
    have HO : Hid (bits .or .u64 (n : Int) (IntKind.u64.wrap ((x : Int) % 128 * 2 ^ (7 * i))) = ((n + x % 128 * 2 ^ (7 * i) : Nat) : Int)) := Lib.hid (by
      have := orshift i n (x % 128) (by omega) HN.out (by omega)
      rwa [show ((x % 128 : Nat) : Int) = (x : Int) % 128 by omega] at this)
    have HLT : Hid (n + x % 128 * 2 ^ (7 * i) < 2 ^ (7 * (i + 1))) := Lib.hid (by
      have h1 := HN.out
      rw [two_pow7]
      have h2 : x % 128 * 2 ^ (7 * i) ≤ 127 * 2 ^ (7 * i) := Nat.mul_le_mul_right _ (by omega)
      omega)
    have HFI : Hid (x < 128 → ¬ (x = 0 ∧ 0 < i) → Post (.returned (.tuple #[.int .u64 (bits .or .u64 (n : Int) (IntKind.u64.wrap ((x : Int) % 128 * 2 ^ (7 * i)))), .int .i64 ((i : Int) + 1), .int .i64 0])) w) := Lib.hid (fun h1 h2 => by
      rw [HO.out]
      exact HOK.out _ _ (by rw [HR.out, HLA.out (by omega) h2 h1]))
    by_cases hx : x < 128
    · have hx' : (x : Int) < 128 := by omega
      by_cases hi0 : 0 < i
      · by_cases hx0 : x = 0
        · have bx : ((x : Int) == 0) = true := by simp [hx0]
          go_wp2_with fail
          go_ret3
          exact HER.out 6 (by rw [HR.out, HSH.out hi0 hx0])
        · have bx : ((x : Int) == 0) = false := by simpa using hx0
          go_wp2_with fail
          go_ret3
          exact HFI.out hx (by omega)
      · have hi0' : decide (0 < i) = false := by simpa using hi0
        go_wp2_with fail
        go_ret3
        exact HFI.out hx (by omega)
    · have hx' : ¬ (x : Int) < 128 := by omega
      go_wp2_with fail
      go_round
      case rel =>
        rw [HO.out]
        exact ⟨i + 1, n + x % 128 * 2 ^ (7 * i), by omega, by omega, rfl, by go_num, HLT.out, by rw [HR.out, HMO.out (by omega) (by omega)]⟩
      case measure => simp [intOf]; omega
end Go.Proofs.Ytpbknnkobhjjcaa
