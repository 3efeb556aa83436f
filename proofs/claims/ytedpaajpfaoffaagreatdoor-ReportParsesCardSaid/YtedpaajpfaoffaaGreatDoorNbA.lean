/- Numbers from 0 on as words in a base, the lowest first, and as digits, the highest first. No program in sight. -/
import Derived.WalkKit
set_option linter.all false
namespace Go.Proofs.YtedpaajpfaoffaaGreatDoor
def nv (B : Nat) : List Nat → Nat
 | [] => 0
 | x :: xs => x + B * nv B xs
def Below_ (B : Nat) (xs : List Nat) : Prop := ∀ x ∈ xs, x < B
def Canon (xs : List Nat) : Prop := ∀ h : xs ≠ [], xs.getLast h ≠ 0
def wordsF (B : Nat) : Nat → Nat → List Nat
 | 0, _ => []
 | f + 1, n => if n = 0 then [] else n % B :: wordsF B f (n / B)
def wordsOf (B n : Nat) : List Nat := wordsF B n n
section
variable {B : Nat}
theorem nv_append (xs ys : List Nat) : nv B (xs ++ ys) = nv B xs + B ^ xs.length * nv B ys := by
 induction xs with
 | nil => simp [nv]
 | cons x xs ih =>
  simp only [List.cons_append, nv, ih, List.length_cons, Nat.pow_succ]
  rw [Nat.mul_add, ← Nat.mul_assoc, Nat.mul_comm B (B ^ xs.length), Nat.add_assoc]
theorem nv_lt {xs : List Nat} (h : Below_ B xs) : nv B xs < B ^ xs.length := by
 induction xs with
 | nil => simp [nv]
 | cons x xs ih =>
  have h1 := h x (by simp)
  have h2 := ih (fun y hy => h y (by simp [hy]))
  simp only [nv, List.length_cons, Nat.pow_succ]
  have h3 : B * (nv B xs + 1) ≤ B * B ^ xs.length := Nat.mul_le_mul_left B h2
  rw [Nat.mul_add, Nat.mul_one] at h3
  rw [Nat.mul_comm (B ^ xs.length) B]
  omega
theorem nv_zeros (n : Nat) : nv B (List.replicate n 0) = 0 := by
 induction n with
 | zero => rfl
 | succ n ih => simp [List.replicate_succ, nv, ih]
theorem wordsF_enough (hB : 2 ≤ B) : ∀ (f n : Nat), n ≤ f → wordsF B f n = wordsF B n n := by
 intro f
 induction f using Nat.strongRecOn with
 | ind f ih =>
  intro n hn
  cases f with
  | zero =>
   have : n = 0 := by omega
   subst this
   rfl
  | succ f =>
   cases n with
   | zero => simp [wordsF]
   | succ n =>
    simp only [wordsF]
    rw [if_neg (by omega), if_neg (by omega)]
    have hd : (n + 1) / B ≤ n := by
     have := Nat.div_le_div_left hB (by omega : 0 < 2) (a := n + 1)
     omega
    rw [ih f (by omega) ((n + 1) / B) (by omega)]
    by_cases hnf : n = f
    ·subst hnf
     rw [ih n (by omega) ((n + 1) / B) hd]
    ·rw [ih n (by omega) ((n + 1) / B) hd]
theorem words_zero : wordsOf B 0 = [] := rfl
theorem words_pos (hB : 2 ≤ B) {n : Nat} (hn : 0 < n) : wordsOf B n = n % B :: wordsOf B (n / B) := by
 unfold wordsOf
 obtain ⟨m, rfl⟩ : ∃ m, n = m + 1 := ⟨n - 1, by omega⟩
 simp only [wordsF]
 rw [if_neg (by omega)]
 have hd : (m + 1) / B ≤ m := by
  have := Nat.div_le_div_left hB (by omega : 0 < 2) (a := m + 1)
  omega
 rw [wordsF_enough hB m _ hd]
theorem nv_words (hB : 2 ≤ B) (n : Nat) : nv B (wordsOf B n) = n := by
 induction n using Nat.strongRecOn with
 | ind n ih =>
  rcases Nat.eq_zero_or_pos n with rfl | hn
  ·rfl
  ·rw [words_pos hB hn]
   simp only [nv]
   rw [ih (n / B) (Nat.div_lt_self hn (by omega))]
   exact Nat.mod_add_div n B
theorem words_below (hB : 2 ≤ B) (n : Nat) : Below_ B (wordsOf B n) := by
 induction n using Nat.strongRecOn with
 | ind n ih =>
  rcases Nat.eq_zero_or_pos n with rfl | hn
  ·intro x hx; cases hx
  ·rw [words_pos hB hn]
   intro x hx
   rcases List.mem_cons.1 hx with rfl | hx
   ·exact Nat.mod_lt _ (by omega)
   ·exact ih (n / B) (Nat.div_lt_self hn (by omega)) x hx
theorem words_nv (hB : 2 ≤ B) {xs : List Nat} (hb : Below_ B xs) (hc : Canon xs) : wordsOf B (nv B xs) = xs := by
 induction xs with
 | nil => rfl
 | cons x xs ih =>
  have hx := hb x (by simp)
  have hb' : Below_ B xs := fun y hy => hb y (by simp [hy])
  have hc' : Canon xs := fun h => by
   have := hc (by simp)
   rwa [List.getLast_cons h] at this
  have hpos : 0 < nv B (x :: xs) := by
   simp only [nv]
   cases xs with
   | nil =>
    have := hc (by simp)
    simp at this
    simp [nv]
    omega
   | cons y ys =>
    have h1 := ih hb' hc'
    have h2 : 0 < nv B (y :: ys) := by
     rcases Nat.eq_zero_or_pos (nv B (y :: ys)) with h | h
     ·rw [h] at h1; cases h1
     ·exact h
    have : 0 < B * nv B (y :: ys) := Nat.mul_pos (by omega) h2
    omega
  rw [words_pos hB hpos]
  simp only [nv]
  rw [Nat.add_mul_mod_self_left, Nat.mod_eq_of_lt hx, Nat.add_mul_div_left _ _ (by omega : 0 < B), Nat.div_eq_of_lt hx, Nat.zero_add, ih hb' hc']
theorem words_canon (hB : 2 ≤ B) (n : Nat) : Canon (wordsOf B n) := by
 induction n using Nat.strongRecOn with
 | ind n ih =>
  rcases Nat.eq_zero_or_pos n with rfl | hn
  ·intro h; exact absurd rfl h
  ·intro h
   have e := words_pos hB hn
   have h1 := ih (n / B) (Nat.div_lt_self hn (by omega))
   by_cases h0 : wordsOf B (n / B) = []
   ·have hz : n / B = 0 := by
     rcases Nat.eq_zero_or_pos (n / B) with h2 | h2
     ·exact h2
     ·rw [words_pos hB h2] at h0; cases h0
    have : (wordsOf B n).getLast h = n % B := by
     simp only [e, h0, List.getLast_singleton]
    rw [this]
    have := Nat.mod_add_div n B
    rw [hz] at this
    omega
   ·have : (wordsOf B n).getLast h = (wordsOf B (n / B)).getLast h0 := by
     simp only [e, List.getLast_cons h0]
    rw [this]
    exact h1 h0
theorem words_len_lt (hB : 2 ≤ B) {xs ys : List Nat} (hx : Below_ B xs) (hy : Canon ys) (hb : Below_ B ys) (h : xs.length < ys.length) : nv B xs < nv B ys := by
 have h1 := nv_lt hx
 have hne : ys ≠ [] := fun e => by subst e; simp at h
 have h2 := hy hne
 have e : ys = ys.dropLast ++ [ys.getLast hne] := (List.dropLast_concat_getLast hne).symm
 have h3 : B ^ ys.dropLast.length ≤ nv B ys := by
  rw [e, nv_append]
  simp only [nv, Nat.mul_zero, Nat.add_zero, List.dropLast_concat]
  have : B ^ ys.dropLast.length * 1 ≤ B ^ ys.dropLast.length * ys.getLast hne := Nat.mul_le_mul_left _ (by omega)
  omega
 have h4 : B ^ xs.length ≤ B ^ ys.dropLast.length := Nat.pow_le_pow_right (by omega) (by simp; omega)
 omega
end
def dv (ds : List Nat) : Nat := nv 256 ds.reverse
end Go.Proofs.YtedpaajpfaoffaaGreatDoor
namespace Go.Proofs.YtedpaajpfaoffaaGreatDoor
section
variable {B : Nat}
theorem nv_snoc (xs : List Nat) (x : Nat) : nv B (xs ++ [x]) = nv B xs + B ^ xs.length * x := by rw [nv_append]; simp [nv]
theorem nv_take_succ {xs : List Nat} {i : Nat} (hi : i < xs.length) : nv B (xs.take (i + 1)) = nv B (xs.take i) + B ^ i * xs[i] := by
 rw [List.take_succ_eq_append_getElem hi, nv_snoc, List.length_take, Nat.min_eq_left (by omega)]
theorem nv_drop {xs : List Nat} {i : Nat} (hi : i < xs.length) : nv B (xs.drop i) = xs[i] + B * nv B (xs.drop (i + 1)) := by rw [List.drop_eq_getElem_cons hi]; rfl
theorem nv_split (xs : List Nat) (i : Nat) (hi : i ≤ xs.length) : nv B xs = nv B (xs.take i) + B ^ i * nv B (xs.drop i) := by
 have h := nv_append (B := B) (xs.take i) (xs.drop i)
 rw [List.take_append_drop, List.length_take, Nat.min_eq_left hi] at h
 exact h
theorem below_take {xs : List Nat} (h : Below_ B xs) (i : Nat) : Below_ B (xs.take i) := fun x hx => h x (List.mem_of_mem_take hx)
theorem below_drop {xs : List Nat} (h : Below_ B xs) (i : Nat) : Below_ B (xs.drop i) := fun x hx => h x (List.mem_of_mem_drop hx)
theorem below_snoc {xs : List Nat} {x : Nat} (h : Below_ B xs) (hx : x < B) : Below_ B (xs ++ [x]) := fun y hy => by
 rcases List.mem_append.1 hy with hy | hy
 ·exact h y hy
 ·rw [List.mem_singleton.1 hy]; exact hx
theorem put_step {s : List Nat} {i c t N M : Nat} (hs : s.length = i) (h : nv B s + B ^ i * c = N) (ht : B ^ i * t = B ^ i * c + M) : nv B (s ++ [t % B]) + B ^ (i + 1) * (t / B) = N + M := by
 rw [nv_snoc, hs, Nat.pow_succ, Nat.mul_assoc, Nat.add_assoc, ← Nat.mul_add, Nat.mod_add_div, ht]
 omega
theorem nv_set {xs : List Nat} {k v : Nat} (hk : k < xs.length) : nv B (xs.set k v) + B ^ k * xs[k] = nv B xs + B ^ k * v := by
 induction xs generalizing k with
 | nil => simp at hk
 | cons x xs ih =>
  cases k with
  | zero => simp [nv]; omega
  | succ k =>
   have hk' : k < xs.length := by simpa using hk
   have h := ih hk'
   simp only [List.set_cons_succ, nv, List.getElem_cons_succ, Nat.pow_succ]
   have e1 : B ^ k * B * xs[k] = B * (B ^ k * xs[k]) := by rw [Nat.mul_comm (B ^ k) B, Nat.mul_assoc]
   have e2 : B ^ k * B * v = B * (B ^ k * v) := by rw [Nat.mul_comm (B ^ k) B, Nat.mul_assoc]
   rw [e1, e2, Nat.add_assoc, ← Nat.mul_add, h, Nat.mul_add]
   omega
theorem below_set {xs : List Nat} {k v : Nat} (h : Below_ B xs) (hv : v < B) : Below_ B (xs.set k v) := fun x hx => by
 rcases List.mem_or_eq_of_mem_set hx with hx | hx
 ·exact h x hx
 ·rw [hx]; exact hv
theorem nv_lt_at {xs ys : List Nat} (hlen : xs.length = ys.length) (hb : Below_ B xs) {i : Nat} (hi : i < xs.length) (hd : xs.drop (i + 1) = ys.drop (i + 1)) (hlt : xs[i] < ys[i]'(by omega)) : nv B xs < nv B ys := by
 rw [nv_split xs i (by omega), nv_split ys i (by omega), nv_drop hi, nv_drop (show i < ys.length by omega), hd]
 have h1 := nv_lt (below_take hb i)
 rw [List.length_take, Nat.min_eq_left (by omega)] at h1
 have h2 : B ^ i * (xs[i] + 1) ≤ B ^ i * ys[i]'(by omega) := Nat.mul_le_mul_left _ hlt
 rw [Nat.mul_add, Nat.mul_add]
 rw [Nat.mul_add, Nat.mul_one] at h2
 generalize B ^ i * (B * nv B (ys.drop (i + 1))) = z
 omega
theorem trim_words (hB : 2 ≤ B) {xs : List Nat} {k : Nat} (hb : Below_ B xs) (hn : nv B (xs.take k) = nv B xs) (hc : Canon (xs.take k)) : xs.take k = wordsOf B (nv B xs) := by
 rw [← hn, words_nv hB (below_take hb k) hc]
theorem trim_step {xs : List Nat} {k : Nat} (hk : k < xs.length) (hz : xs[k] = 0) : nv B (xs.take (k + 1)) = nv B (xs.take k) := by rw [nv_take_succ hk, hz]; simp
theorem canon_take {xs : List Nat} {k : Nat} (hk : k < xs.length) (hz : xs[k] ≠ 0) : Canon (xs.take (k + 1)) := fun h => by
 have e : xs.take (k + 1) = xs.take k ++ [xs[k]] := List.take_succ_eq_append_getElem hk
 have : (xs.take (k + 1)).getLast h = xs[k] := by simp only [e, List.getLast_concat]
 rw [this]
 exact hz
end
end Go.Proofs.YtedpaajpfaoffaaGreatDoor
namespace Go.Proofs.YtedpaajpfaoffaaGreatDoor
structure Est (B high v2 u2 b vlow ulow top Q q r : Nat) : Prop where
 hB : 2 ≤ B
 hh : 1 ≤ high
 hv2 : v2 < B
 hu2 : u2 < B
 hvl : vlow < b
 hul : ulow < b
 hq : Q = ((top * B + u2) * b + ulow) / ((high * B + v2) * b + vlow)
 hQ : Q < B
 ht : top = q * high + r
 hle : Q ≤ q
 hmost : q ≤ B + 1
 hend : q = B + 1 → r + high < B
section
variable {B high v2 u2 b vlow ulow top Q q r : Nat}
theorem Est.pos (h : Est B high v2 u2 b vlow ulow top Q q r) : 0 < (high * B + v2) * b + vlow := by
 have h1 := h.hvl
 have h2 := h.hh
 have h3 := h.hB
 have : 1 ≤ high * B := Nat.le_trans (by omega : 1 ≤ 1 * B) (Nat.mul_le_mul_right B h2)
 have : 0 < (high * B + v2) * b := Nat.mul_pos (by omega) (by omega)
 omega
theorem Est.big (h : Est B high v2 u2 b vlow ulow top Q q r) (hc : B ≤ q ∨ r * B + u2 < q * v2) : Q < q := by
 rcases hc with hc | hc
 ·have := h.hQ; omega
 ·rw [h.hq, Nat.div_lt_iff_lt_mul h.pos]
  have e1 : (top * B + u2) + 1 ≤ q * (high * B + v2) := by
   rw [h.ht, Nat.add_mul, Nat.mul_add, Nat.mul_assoc]
   omega
  have e2 : ((top * B + u2) + 1) * b ≤ q * (high * B + v2) * b := Nat.mul_le_mul_right b e1
  rw [Nat.add_mul, Nat.one_mul, Nat.mul_assoc] at e2
  have h1 := h.hul
  have e3 : q * ((high * B + v2) * b) ≤ q * ((high * B + v2) * b + vlow) := Nat.mul_le_mul_left q (Nat.le_add_right _ _)
  omega
theorem Est.down (h : Est B high v2 u2 b vlow ulow top Q q r) (hc : B ≤ q ∨ r * B + u2 < q * v2) : Est B high v2 u2 b vlow ulow top Q (q - 1) (r + high) ∧ 1 ≤ q ∧ q - 1 ≤ B := by
 have hb := h.big hc
 have hm := h.hmost
 refine ⟨⟨h.hB, h.hh, h.hv2, h.hu2, h.hvl, h.hul, h.hq, h.hQ, ?_, by omega, by omega, fun e => by omega⟩, by omega, by omega⟩
 obtain ⟨p, rfl⟩ : ∃ p, q = p + 1 := ⟨q - 1, by omega⟩
 rw [h.ht, Nat.add_mul, Nat.one_mul, Nat.add_sub_cancel]
 omega
theorem Est.broke (h : Est B high v2 u2 b vlow ulow top Q q r) (hc : B ≤ q ∨ r * B + u2 < q * v2) (hr : B ≤ r + high) : q - 1 < B ∧ (q - 1) * v2 ≤ (r + high) * B + u2 := by
 have hm := h.hmost
 have hq : q ≤ B := by
  rcases Nat.lt_or_ge B q with h1 | h1
  ·have := h.hend (by omega); omega
  ·exact h1
 have hb := h.big hc
 refine ⟨by omega, ?_⟩
 have h1 : (q - 1) * v2 ≤ B * B := Nat.mul_le_mul (by omega) (by have := h.hv2; omega)
 have h2 : B * B ≤ (r + high) * B := Nat.mul_le_mul_right B hr
 omega
theorem Est.done (h : Est B high v2 u2 b vlow ulow top Q q r) (h1 : q < B) (h2 : q * v2 ≤ r * B + u2) : Q ≤ q ∧ q ≤ Q + 1 := by
 refine ⟨h.hle, ?_⟩
 rcases Nat.eq_zero_or_pos q with h0 | h0
 ·omega
 obtain ⟨p, rfl⟩ : ∃ p, q = p + 1 := ⟨q - 1, by omega⟩
 have hp := h.pos
 have key : p * ((high * B + v2) * b + vlow) ≤ (top * B + u2) * b + ulow := by
  have e1 : (p + 1) * (high * B + v2) ≤ top * B + u2 := by
   have a1 : (p + 1) * (high * B + v2) = (p + 1) * high * B + (p + 1) * v2 := by rw [Nat.mul_add, Nat.mul_assoc]
   have a2 : top * B = (p + 1) * high * B + r * B := by rw [h.ht, Nat.add_mul]
   omega
  have e2 : (p + 1) * (high * B + v2) * b ≤ (top * B + u2) * b := Nat.mul_le_mul_right b e1
  have e3 : (p + 1) * vlow ≤ B * b := Nat.mul_le_mul (by omega) (by have := h.hvl; omega)
  have e4 : B * b ≤ (high * B + v2) * b := Nat.mul_le_mul_right b (by
   have := Nat.mul_le_mul_right B h.hh
   omega)
  have e5 : (p + 1) * ((high * B + v2) * b + vlow) = (p + 1) * (high * B + v2) * b + (p + 1) * vlow := by rw [Nat.mul_add, Nat.mul_assoc]
  rw [Nat.add_mul, Nat.one_mul] at e5
  generalize p * ((high * B + v2) * b + vlow) = z at *
  generalize (p + 1) * (high * B + v2) * b = y at *
  generalize (p + 1) * vlow = x at *
  omega
 have := (Nat.le_div_iff_mul_le hp).2 key
 rw [← h.hq] at this
 omega
end
end Go.Proofs.YtedpaajpfaoffaaGreatDoor
