/- What is written is read again: plain facts. -/
import Derived.Test.YtpbknnkobhjjcaaRef6
namespace Go.Proofs.Ytpbknnkobhjjcaa
open Go.RowKit

theorem toNat_ofNat (m : Nat) (h : m < 256) : (UInt8.ofNat m).toNat = m := by rw [UInt8.toNat_ofNat']; omega

theorem at_of_drop {l : List UInt8} {a : Nat} {b : UInt8} {t : List UInt8} (h : l.drop a = b :: t) : l[a]? = some b ∧ l.drop (a + 1) = t := by
  refine ⟨?_, ?_⟩
  · have := List.getElem?_drop (xs := l) (i := a) (j := 0)
    rw [h] at this
    simpa using this.symm
  · rw [show l.drop (a + 1) = (l.drop a).drop 1 by rw [List.drop_drop]]
    rw [h]
    rfl

theorem pGroup_grpF (l rest : List UInt8) : ∀ (f k i n m a : Nat), l.drop a = grpF f m ++ rest → m < 128 ^ (f + 1) → (grpF f m).length ≤ k → i ≤ 9 → (0 < i → 0 < m) → n + m * 2 ^ (7 * i) < 18446744073709551616 →
    pGroup l k i n a = .ok (n + m * 2 ^ (7 * i), a + (grpF f m).length) := by
  intro f
  have last : ∀ (k i n m a : Nat), l.drop a = [UInt8.ofNat m] ++ rest → m < 128 → 1 ≤ k → i ≤ 9 → (0 < i → 0 < m) → n + m * 2 ^ (7 * i) < 18446744073709551616 → pGroup l k i n a = .ok (n + m * 2 ^ (7 * i), a + 1) := by
    intro k i n m a hd hm hk hi h0 hb
    obtain ⟨k, rfl⟩ : ∃ j, k = j + 1 := ⟨k - 1, by omega⟩
    obtain ⟨h1, _⟩ := at_of_drop hd
    unfold pGroup
    rw [h1]
    simp only [toNat_ofNat m (by omega)]
    have e : m % 128 = m := by omega
    have h9 : ¬ (i = 9 ∧ 1 < m) := by
      rintro ⟨rfl, h2⟩
      omega
    rw [e, if_neg h9, if_pos hm, if_neg (by omega)]
  induction f with
  | zero =>
    intro k i n m a hd hm hk hi h0 hb
    have := last k i n m a (by simpa [grpF] using hd) (by simpa using hm) (by simpa [grpF] using hk) hi h0 hb
    simpa [grpF] using this
  | succ f ih =>
    intro k i n m a hd hm hk hi h0 hb
    by_cases h128 : m < 128
    · have e : grpF (f + 1) m = [UInt8.ofNat m] := by rw [grpF, if_pos h128]
      rw [e] at hd hk ⊢
      exact last k i n m a hd h128 (by simpa using hk) hi h0 hb
    · have e : grpF (f + 1) m = UInt8.ofNat (m % 128 + 128) :: grpF f (m / 128) := by rw [grpF, if_neg h128]
      rw [e] at hd hk ⊢
      have hi8 : i ≤ 8 := by
        rcases Nat.lt_or_ge i 9 with h | h
        · omega
        · have : i = 9 := by omega
          subst this
          omega
      obtain ⟨k, rfl⟩ : ∃ j, k = j + 1 := ⟨k - 1, by simp at hk; omega⟩
      obtain ⟨h1, h2⟩ := at_of_drop hd
      unfold pGroup
      rw [h1]
      simp only [toNat_ofNat (m % 128 + 128) (by omega)]
      have e1 : (m % 128 + 128) % 128 = m % 128 := by omega
      rw [e1, if_neg (by omega), if_neg (by omega)]
      have h7 := two_pow7 i
      have e2 : n + m % 128 * 2 ^ (7 * i) + m / 128 * 2 ^ (7 * (i + 1)) = n + m * 2 ^ (7 * i) := by
        rw [h7]
        have e3 : m = m / 128 * 128 + m % 128 := by omega
        generalize 2 ^ (7 * i) = x at *
        conv => rhs; rw [e3]
        rw [Nat.add_mul, ← Nat.mul_assoc]
        omega
      rw [ih k (i + 1) (n + m % 128 * 2 ^ (7 * i)) (m / 128) (a + 1) h2 (by rw [Nat.pow_succ] at hm; omega) (by simp at hk; omega) (by omega) (fun _ => by omega) (by rw [e2]; exact hb), e2]
      simp only [List.length_cons]
      congr 2
      omega

/-- How long a group encoding is. -/
theorem grpF_le (f : Nat) : ∀ (m j : Nat), m < 128 ^ (j + 1) → (grpF f m).length ≤ j + 1 := by
  induction f with
  | zero => intro m j _; simp [grpF]
  | succ f ih =>
    intro m j h
    rw [grpF]
    split
    · simp
    · cases j with
      | zero => rw [Nat.zero_add, Nat.pow_one] at h; omega
      | succ j =>
        have := ih (m / 128) j (by rw [Nat.pow_succ] at h; omega)
        simp
        omega

theorem pGroup10_grp {l rest : List UInt8} {a m : Nat} (h : l.drop a = grp m ++ rest) (hm : m < 18446744073709551616) : pGroup l 10 0 0 a = .ok (m, a + (grp m).length) := by
  have := pGroup_grpF l rest 9 10 0 0 m a h (by omega) (grp_len m) (by omega) (by omega) (by simpa using hm)
  simpa [grp] using this
theorem pGroup9_grp {l rest : List UInt8} {a m : Nat} (h : l.drop a = grp m ++ rest) (hm : m < 9223372036854775808) : pGroup l 9 0 0 a = .ok (m, a + (grp m).length) := by
  have := pGroup_grpF l rest 9 9 0 0 m a h (by omega) (grpF_le 9 m 8 (by omega)) (by omega) (by omega) (by simp; omega)
  simpa [grp] using this
theorem unfold_fold (n : Int) : unfold' (fold n) = n := by
  unfold unfold' fold
  by_cases h : n < 0
  · rw [if_pos h, if_pos (by omega)]
    omega
  · rw [if_neg h, if_neg (by omega)]
    omega
theorem pInt_grp {l rest : List UInt8} {a : Nat} {n : Int} (h : l.drop a = grp (fold n) ++ rest) (hn : Fits n) : pInt l a = .ok (n, a + (grp (fold n)).length) := by
  unfold pInt
  rw [pGroup10_grp h (fold_lt n hn.1 hn.2)]
  show Except.ok _ = _
  simp only [unfold_fold]
theorem pUint_grp {l rest : List UInt8} {a : Nat} {n : Int} (h : l.drop a = grp n.toNat ++ rest) (h0 : 0 ≤ n) (hn : Fits n) : pUint l a = .ok (n, a + (grp n.toNat).length) := by
  obtain ⟨h1, h2⟩ := hn
  unfold pUint
  rw [pGroup9_grp h (by omega)]
  show Except.ok _ = _
  simp only
  congr 2
  omega
end Go.Proofs.Ytpbknnkobhjjcaa
