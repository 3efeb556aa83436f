/- Numbers and their digits: the digits of a number in base 256, the number of bits, decimal digits. No program in sight. -/
import Derived.Test.YtedpaajpfaoffaaGreatDoorNwC
import Derived.Test.YtedpaajpfaoffaaGreatDoorMnA
import Derived.Deep.RegionHeld3
import Derived.IntWalk
import Derived.StillTailTactics
import Derived.Deep.LoopGhost
set_option linter.all false
set_option maxHeartbeats 4000000
set_option maxRecDepth 100000
namespace Go.Proofs.YtedpaajpfaoffaaGreatDoor
section
variable {B : Nat}
theorem words_get (hB : 2 ≤ B) : ∀ (k N : Nat) (h : k < (wordsOf B N).length), (wordsOf B N)[k] = N / B ^ k % B
 | 0, N, h => by
  have hN : 0 < N := by
   rcases Nat.eq_zero_or_pos N with h0 | h0
   ·subst h0; rw [words_zero] at h; simp at h
   ·exact h0
  have e := words_pos hB hN
  simp only [e, List.getElem_cons_zero, Nat.pow_zero, Nat.div_one]
 | k + 1, N, h => by
  have hN : 0 < N := by
   rcases Nat.eq_zero_or_pos N with h0 | h0
   ·subst h0; rw [words_zero] at h; simp at h
   ·exact h0
  have e := words_pos hB hN
  have h2 : k < (wordsOf B (N / B)).length := by rw [e] at h; simpa using h
  simp only [e, List.getElem_cons_succ]
  rw [words_get hB k (N / B) h2, Nat.div_div_eq_div_mul, Nat.pow_succ, Nat.mul_comm B]
theorem pow_le_of_len (hB : 2 ≤ B) : ∀ (k N : Nat), k < (wordsOf B N).length → B ^ k ≤ N
 | k, N, h => by
  have hN : 0 < N := by
   rcases Nat.eq_zero_or_pos N with h0 | h0
   ·subst h0; rw [words_zero] at h; simp at h
   ·exact h0
  cases k with
  | zero => rw [Nat.pow_zero]; exact hN
  | succ k =>
   have e := words_pos hB hN
   have h2 : k < (wordsOf B (N / B)).length := by rw [e] at h; simpa using h
   have := pow_le_of_len hB k (N / B) h2
   rw [Nat.le_div_iff_mul_le (by omega)] at this
   rwa [Nat.pow_succ]
theorem lt_pow_of_len (hB : 2 ≤ B) {k N : Nat} (h : (wordsOf B N).length ≤ k) : N < B ^ k := by
 have h1 := nv_lt (words_below hB N)
 rw [nv_words hB] at h1
 exact Nat.lt_of_lt_of_le h1 (Nat.pow_le_pow_right (by omega) h)
theorem len_le (hB : 2 ≤ B) {k N : Nat} : (wordsOf B N).length ≤ k ↔ N < B ^ k := by
 refine ⟨lt_pow_of_len hB, fun h => ?_⟩
 rcases Nat.lt_or_ge k (wordsOf B N).length with h1 | h1
 ·have := pow_le_of_len hB k N h1; omega
 ·exact h1
theorem words_nil_iff (hB : 2 ≤ B) {N : Nat} : (wordsOf B N).length = 0 ↔ N = 0 := by
 have := len_le hB (k := 0) (N := N)
 simp only [Nat.pow_zero] at this
 omega
end
theorem two256 : 2 ≤ 256 := by omega
def dg (N : Nat) : List Nat := (wordsOf 256 N).reverse
theorem dg_zero : dg 0 = [] := rfl
theorem dv_dg (N : Nat) : dv (dg N) = N := by unfold dv dg; rw [List.reverse_reverse]; exact nv_words two256 N
theorem dg_below (N : Nat) : Below_ 256 (dg N) := fun x hx => words_below two256 N x (List.mem_reverse.1 hx)
theorem dg_len {k N : Nat} : (dg N).length ≤ k ↔ N < 256 ^ k := by unfold dg; rw [List.length_reverse]; exact len_le two256
theorem dg_nil_iff {N : Nat} : dg N = [] ↔ N = 0 := by
 rw [← List.length_eq_zero_iff]
 unfold dg
 rw [List.length_reverse]
 exact words_nil_iff two256
theorem dg_len_pos {N : Nat} : 0 < (dg N).length ↔ 0 < N := by
 have := dg_nil_iff (N := N)
 rw [← List.length_eq_zero_iff] at this
 omega
theorem dg_get {N j : Nat} (h : j < (dg N).length) : (dg N)[j] = N / 256 ^ ((dg N).length - 1 - j) % 256 := by
 unfold dg at h ⊢
 rw [List.getElem_reverse, words_get two256]
 simp
theorem dg_dv {ds : List Nat} (hb : Below_ 256 ds) (h : ∀ d l, ds = d :: l → d ≠ 0) : dg (dv ds) = ds := by
 unfold dg dv
 rw [words_nv two256 (fun x hx => hb x (List.mem_reverse.1 hx)), List.reverse_reverse]
 intro hne
 cases ds with
 | nil => exact absurd rfl hne
 | cons d l =>
  have := h d l rfl
  simpa using this
theorem dg_of_get {N : Nat} {zs : List Nat} (hl : zs.length = (dg N).length) (h : ∀ j (hj : j < zs.length), zs[j] = N / 256 ^ (zs.length - 1 - j) % 256) : zs = dg N := by
 apply List.ext_getElem hl
 intro i h1 h2
 rw [h i h1, dg_get h2, hl]
theorem dg_head {N : Nat} (h : 0 < N) : ∃ d l, dg N = d :: l ∧ d ≠ 0 := by
 have hne : wordsOf 256 N ≠ [] := fun e => by
  have := (words_nil_iff two256 (N := N)).1 (by rw [e]; rfl)
  omega
 have hc := words_canon two256 N hne
 unfold dg
 cases hr : (wordsOf 256 N).reverse with
 | nil => exact absurd (List.reverse_eq_nil_iff.1 hr) hne
 | cons d l =>
  refine ⟨d, l, rfl, ?_⟩
  have e : wordsOf 256 N = l.reverse ++ [d] := by
   have := congrArg List.reverse hr
   simpa using this
  have : (wordsOf 256 N).getLast hne = d := by simp only [e]; simp
  rwa [this] at hc
def SizeOf_ (s N : Nat) : Prop := N < 2 ^ s ∧ (0 < s → 2 ^ (s - 1) ≤ N)
theorem size_zero : SizeOf_ 0 0 := ⟨by simp, fun h => by omega⟩
theorem size_le {s N k : Nat} (h : SizeOf_ s N) : s ≤ k ↔ N < 2 ^ k := by
 constructor
 ·intro hs
  exact Nat.lt_of_lt_of_le h.1 (Nat.pow_le_pow_right (by omega) hs)
 ·intro hN
  rcases Nat.lt_or_ge k s with h1 | h1
  ·have h2 := h.2 (by omega)
   have h3 : 2 ^ k ≤ 2 ^ (s - 1) := Nat.pow_le_pow_right (by omega) (by omega)
   omega
  ·exact h1
theorem size_digits {s N : Nat} (h : SizeOf_ s N) : (dg N).length = (s + 7) / 8 := by
 have h1 : (dg N).length ≤ (s + 7) / 8 := by
  rw [dg_len, show (256 : Nat) = 2 ^ 8 from rfl, ← Nat.pow_mul]
  exact (size_le h).1 (by omega)
 rcases Nat.eq_zero_or_pos s with h0 | h0
 ·omega
 ·rcases Nat.lt_or_ge (dg N).length ((s + 7) / 8) with h2 | h2
  ·have h3 : (dg N).length ≤ (s + 7) / 8 - 1 := by omega
   rw [dg_len, show (256 : Nat) = 2 ^ 8 from rfl, ← Nat.pow_mul] at h3
   have := (size_le h).2 h3
   omega
  ·omega
theorem size_top {a m : Nat} (hl : (wordsOf B32 a).length = m + 1) : (wordsOf B32 a)[m]'(by omega) ≠ 0 ∧ (wordsOf B32 a)[m]'(by omega) < 4294967296 ∧ SizeOf_ (32 * m + Lib.bitLen ((wordsOf B32 a)[m]'(by omega))) a ∧ Lib.bitLen ((wordsOf B32 a)[m]'(by omega)) ≤ 32 := by
 have hb := words_below B32_le a
 have hc := words_canon B32_le a
 have hn := nv_words B32_le a
 have hne : wordsOf B32 a ≠ [] := fun e => by rw [e] at hl; simp at hl
 have h1 : (wordsOf B32 a)[m]'(by omega) ≠ 0 := by
  have := hc hne
  rw [List.getLast_eq_getElem] at this
  simpa [hl] using this
 have h2 := nv_take_succ (B := B32) (xs := wordsOf B32 a) (i := m) (by omega)
 rw [List.take_of_length_le (by omega), hn] at h2
 have h3 := nv_lt (below_take hb m)
 rw [List.length_take, Nat.min_eq_left (by omega)] at h3
 have h4 : (wordsOf B32 a)[m]'(by omega) < 4294967296 := hb _ (List.getElem_mem _)
 generalize (wordsOf B32 a)[m]'(by omega) = t at *
 obtain ⟨b1, b2, b3⟩ := bitLen_bounds 32 t h1 h4 (by omega)
 have b4 := Lib.bitLen_le t 32 (by omega) h4
 generalize Lib.bitLen t = l at *
 have e : B32 ^ m = 2 ^ (32 * m) := by unfold B32; rw [show (4294967296 : Nat) = 2 ^ 32 from rfl, ← Nat.pow_mul]
 rw [e] at h2 h3
 refine ⟨h1, h4, ⟨?_, fun _ => ?_⟩, b4⟩
 ·have : 2 ^ (32 * m) * (t + 1) ≤ 2 ^ (32 * m) * 2 ^ l := Nat.mul_le_mul_left _ b2
  rw [Nat.pow_add]
  rw [Nat.mul_add] at this
  omega
 ·have : 2 ^ (32 * m) * 2 ^ (l - 1) ≤ 2 ^ (32 * m) * t := Nat.mul_le_mul_left _ b1
  rw [show 32 * m + l - 1 = 32 * m + (l - 1) by omega, Nat.pow_add]
  omega
theorem word_digit {a i : Nat} (h : i / 4 < (wordsOf B32 a).length) : (wordsOf B32 a)[i / 4] / 256 ^ (i % 4) % 256 = a / 256 ^ i % 256 := by
 rw [words_get B32_le]
 have e1 : B32 ^ (i / 4) = 256 ^ (4 * (i / 4)) := by unfold B32; rw [show (4294967296 : Nat) = 256 ^ 4 from rfl, ← Nat.pow_mul]
 have e2 : (B32 : Nat) = 256 ^ (i % 4) * 256 ^ (4 - i % 4) := by
  rw [← Nat.pow_add, show i % 4 + (4 - i % 4) = 4 by omega]
  rfl
 have e3 : 256 ∣ 256 ^ (4 - i % 4) := by
  obtain ⟨k, hk⟩ : ∃ k, 4 - i % 4 = k + 1 := ⟨3 - i % 4, by omega⟩
  rw [hk, Nat.pow_succ]
  exact Nat.dvd_mul_left _ _
 rw [e1]
 generalize hq : a / 256 ^ (4 * (i / 4)) = q
 rw [e2, Nat.mod_mul_right_div_self, Nat.mod_mod_of_dvd _ e3, ← hq, Nat.div_div_eq_div_mul, ← Nat.pow_add]
 congr 3
 omega
def decD (N : Nat) : List UInt8 := (wordsOf 10 N).reverse.map (fun d => UInt8.ofNat (48 + d))
theorem decD_pos {N : Nat} (h : 0 < N) : decD N = decD (N / 10) ++ [UInt8.ofNat (48 + N % 10)] := by
 unfold decD
 rw [words_pos (by omega) h]
 simp
theorem decD_eq {N : Nat} (h : 0 < N) : decD N = Lib.decDigits N := by
 induction N using Nat.strongRecOn with
 | ind N ih =>
  rw [decD_pos h]
  by_cases h9 : 9 < N
  ·rw [dec_step h9, ih (N / 10) (by omega) (by omega)]
  ·have h0 : N / 10 = 0 := by omega
   rw [h0, dec_last (by omega), Nat.mod_eq_of_lt (by omega)]
   rfl
theorem dec_zero : Lib.decDigits 0 = [48] := dec_last (by omega)
end Go.Proofs.YtedpaajpfaoffaaGreatDoor
namespace Go.Proofs.YtedpaajpfaoffaaGreatDoor
section
def PlusOf (i : Nat) (xs ys zs : List Nat) (c : Nat) : Prop := nv 256 zs + 256 ^ i * c = nv 256 (xs.take i) + nv 256 (ys.take i) ∧ zs.length = i ∧ c ≤ 1 ∧ Below_ 256 zs
theorem plus_new (xs ys : List Nat) : PlusOf 0 xs ys [] 0 := ⟨by simp [nv], rfl, by omega, fun x hx => by cases hx⟩
def wat (xs : List Nat) (i : Nat) : Nat := (xs[i]?).getD 0
theorem wat_in {xs : List Nat} {i : Nat} (h : i < xs.length) : wat xs i = xs[i] := by unfold wat; rw [List.getElem?_eq_getElem h]; rfl
theorem wat_out {xs : List Nat} {i : Nat} (h : ¬ i < xs.length) : wat xs i = 0 := by unfold wat; rw [List.getElem?_eq_none (by omega)]; rfl
theorem wat_lt {xs : List Nat} (h : Below_ 256 xs) (i : Nat) : wat xs i < 256 := by
 by_cases hi : i < xs.length
 ·rw [wat_in hi]; exact h _ (List.getElem_mem hi)
 ·rw [wat_out hi]; omega
theorem nv_take_wat {B : Nat} (xs : List Nat) (i : Nat) : nv B (xs.take (i + 1)) = nv B (xs.take i) + B ^ i * wat xs i := by
 by_cases hi : i < xs.length
 ·rw [nv_take_succ hi, wat_in hi]
 ·rw [List.take_of_length_le (by omega), List.take_of_length_le (by omega), wat_out hi]; simp
theorem plus_step {i c s : Nat} {xs ys zs : List Nat} (h : PlusOf i xs ys zs c) (hx : Below_ 256 xs) (hy : Below_ 256 ys) (hs : s = c + wat xs i + wat ys i) : s < 512 ∧ PlusOf (i + 1) xs ys (zs ++ [s % 256]) (s / 256) := by
 obtain ⟨h1, h2, h3, h4⟩ := h
 have b1 := wat_lt hx i
 have b2 := wat_lt hy i
 refine ⟨by omega, ?_, by simp [h2], by omega, below_snoc h4 (Nat.mod_lt _ (by omega))⟩
 rw [put_step h2 h1 (M := 256 ^ i * wat xs i + 256 ^ i * wat ys i) (by rw [hs, Nat.mul_add, Nat.mul_add]; omega), nv_take_wat xs, nv_take_wat ys]
 omega
theorem plus_done {i : Nat} {xs ys zs : List Nat} (h : PlusOf i xs ys zs 0) (hx : ¬ i < xs.length) (hy : ¬ i < ys.length) : nv 256 zs = nv 256 xs + nv 256 ys := by
 have := h.1
 rwa [List.take_of_length_le (by omega), List.take_of_length_le (by omega), Nat.mul_zero, Nat.add_zero] at this
def MinusOf (i : Nat) (xs ys zs : List Nat) (c : Nat) : Prop := nv 256 zs + nv 256 (ys.take i) = nv 256 (xs.take i) + 256 ^ i * c ∧ zs.length = i ∧ c ≤ 1 ∧ Below_ 256 zs
theorem minus_new (xs ys : List Nat) : MinusOf 0 xs ys [] 0 := ⟨by simp [nv], rfl, by omega, fun x hx => by cases hx⟩
theorem minus_step {i c v c' : Nat} {xs ys zs : List Nat} (h : MinusOf i xs ys zs c) (hv : v < 256) (hc : c' ≤ 1) (e : v + c + wat ys i = wat xs i + 256 * c') : MinusOf (i + 1) xs ys (zs ++ [v]) c' := by
 obtain ⟨h1, h2, h3, h4⟩ := h
 refine ⟨?_, by simp [h2], hc, below_snoc h4 hv⟩
 have e2 : 256 ^ i * (v + c + wat ys i) = 256 ^ i * (wat xs i + 256 * c') := by rw [e]
 rw [Nat.mul_add, Nat.mul_add, Nat.mul_add, ← Nat.mul_assoc (256 ^ i) 256 c', show 256 ^ i * 256 = 256 ^ (i + 1) from (Nat.pow_succ ..).symm] at e2
 rw [nv_take_wat xs, nv_take_wat ys, nv_snoc, h2]
 omega
theorem minus_done {xs ys zs : List Nat} {c : Nat} (h : MinusOf xs.length xs ys zs c) (hy : ys.length ≤ xs.length) (hle : nv 256 ys ≤ nv 256 xs) : nv 256 zs = nv 256 xs - nv 256 ys := by
 obtain ⟨h1, h2, h3, h4⟩ := h
 rw [List.take_of_length_le (Nat.le_refl _), List.take_of_length_le hy] at h1
 have h5 := nv_lt h4
 rw [h2] at h5
 have : c = 0 ∨ c = 1 := by omega
 rcases this with rfl | rfl
 ·omega
 ·omega
theorem words_len_mono {a b : Nat} (h : b ≤ a) : (wordsOf 256 b).length ≤ (wordsOf 256 a).length := by
 rw [len_le two256]
 exact Nat.lt_of_le_of_lt h (lt_pow_of_len two256 (Nat.le_refl _))
def BitsOf (i A b : Nat) (qs : List Nat) (R : Nat) : Prop := (∃ Q, nv 256 qs = 2 ^ i * Q ∧ A / 2 ^ i = Q * b + R) ∧ R < b ∧ Below_ 256 qs
theorem bits_new {A b n m : Nat} (h : A < 2 ^ n) (hb : 0 < b) : BitsOf n A b (List.replicate m 0) 0 := ⟨⟨0, by rw [nv_zeros]; simp, by rw [Nat.div_eq_of_lt h]; simp⟩, hb, fun x hx => by rw [List.eq_of_mem_replicate hx]; omega⟩
theorem bit_of {A i : Nat} (hi : i / 8 < (wordsOf 256 A).length) : (wordsOf 256 A)[i / 8] / 2 ^ (i % 8) % 2 = A / 2 ^ i % 2 := by
 rw [words_get two256]
 have e1 : (256 : Nat) ^ (i / 8) = 2 ^ (8 * (i / 8)) := by rw [show (256 : Nat) = 2 ^ 8 from rfl, ← Nat.pow_mul]
 have e2 : (256 : Nat) = 2 ^ (i % 8) * 2 ^ (8 - i % 8) := by rw [← Nat.pow_add, show i % 8 + (8 - i % 8) = 8 by omega]
 have e3 : 2 ∣ 2 ^ (8 - i % 8) := by
  obtain ⟨k, hk⟩ : ∃ k, 8 - i % 8 = k + 1 := ⟨7 - i % 8, by omega⟩
  rw [hk, Nat.pow_succ]
  exact Nat.dvd_mul_left _ _
 rw [e1]
 generalize hq : A / 2 ^ (8 * (i / 8)) = q
 conv => lhs; rw [e2]
 rw [Nat.mod_mul_right_div_self, Nat.mod_mod_of_dvd _ e3, ← hq, Nat.div_div_eq_div_mul, ← Nat.pow_add]
 congr 3
 omega
theorem half_of (A i : Nat) : A / 2 ^ i = 2 * (A / 2 ^ (i + 1)) + A / 2 ^ i % 2 := by
 rw [Nat.pow_succ, ← Nat.div_div_eq_div_mul]
 omega
theorem digit_low {qs : List Nat} {i M : Nat} (hb : Below_ 256 qs) (h : nv 256 qs = 2 ^ (i + 1) * M) (hi : i / 8 < qs.length) : ∃ t, qs[i / 8] = 2 ^ (i % 8 + 1) * t := by
 have h1 := nv_split (B := 256) qs (i / 8) (by omega)
 have h2 := nv_drop (B := 256) hi
 have h3 := nv_lt (below_take hb (i / 8))
 rw [List.length_take, Nat.min_eq_left (by omega)] at h3
 have e1 : (256 : Nat) ^ (i / 8) = 2 ^ (8 * (i / 8)) := by rw [show (256 : Nat) = 2 ^ 8 from rfl, ← Nat.pow_mul]
 have e2 : 2 ^ (i + 1) = 256 ^ (i / 8) * 2 ^ (i % 8 + 1) := by rw [e1, ← Nat.pow_add]; congr 1; omega
 have hd : nv 256 qs / 256 ^ (i / 8) = nv 256 (qs.drop (i / 8)) := by
  rw [h1, Nat.add_mul_div_left _ _ (Nat.pow_pos (by omega)), Nat.div_eq_of_lt h3, Nat.zero_add]
 have hd2 : nv 256 qs / 256 ^ (i / 8) = 2 ^ (i % 8 + 1) * M := by
  rw [h, e2, Nat.mul_assoc, Nat.mul_div_cancel_left _ (Nat.pow_pos (by omega))]
 have hm : qs[i / 8] = (2 ^ (i % 8 + 1) * M) % 256 := by
  rw [← hd2, hd, h2, Nat.add_mul_mod_self_left, Nat.mod_eq_of_lt (hb _ (List.getElem_mem hi))]
 have e3 : (256 : Nat) = 2 ^ (i % 8 + 1) * 2 ^ (7 - i % 8) := by rw [← Nat.pow_add, show i % 8 + 1 + (7 - i % 8) = 8 by omega]
 refine ⟨M % 2 ^ (7 - i % 8), ?_⟩
 rw [hm]
 conv => lhs; rw [e3]
 rw [Nat.mul_mod_mul_left]
theorem or_bit {z r t : Nat} (h : z = 2 ^ (r + 1) * t) : z ||| 2 ^ r = z + 2 ^ r := by
 have h2 := Nat.two_pow_add_eq_or_of_lt (i := r + 1) (b := 2 ^ r) (by rw [Nat.pow_succ]; have := Nat.pow_pos (n := r) (show 0 < 2 by omega); omega) t
 rw [h]
 exact h2.symm
theorem bits_step {i A b R R2 : Nat} {qs : List Nat} (h : BitsOf (i + 1) A b qs R) (hR : R2 = 2 * R + A / 2 ^ i % 2) : A / 2 ^ i % 2 ≤ 1 ∧ (R2 < b → BitsOf i A b qs R2) ∧
  (b ≤ R2 → ∀ hi : i / 8 < qs.length, qs[i / 8] ||| 2 ^ (i % 8) = qs[i / 8] + 2 ^ (i % 8) ∧ qs[i / 8] + 2 ^ (i % 8) < 256 ∧ BitsOf i A b (qs.set (i / 8) (qs[i / 8] + 2 ^ (i % 8))) (R2 - b)) := by
 obtain ⟨⟨Q, h1, h2⟩, h3, h4⟩ := h
 have hh := half_of A i
 have hbit : A / 2 ^ i % 2 < 2 := Nat.mod_lt _ (by omega)
 have hA : A / 2 ^ i = 2 * Q * b + R2 := by
  rw [hh, h2, hR, Nat.mul_add, Nat.mul_assoc]
  omega
 refine ⟨by omega, fun hlt => ⟨⟨2 * Q, by rw [h1, Nat.pow_succ, Nat.mul_assoc], hA⟩, hlt, h4⟩, fun hge hi => ?_⟩
 obtain ⟨t, ht⟩ := digit_low h4 h1 hi
 have hz := h4 _ (List.getElem_mem hi)
 have hlt : qs[i / 8] + 2 ^ (i % 8) < 256 := by
  have e3 : (256 : Nat) = 2 ^ (i % 8 + 1) * 2 ^ (7 - i % 8) := by rw [← Nat.pow_add, show i % 8 + 1 + (7 - i % 8) = 8 by omega]
  rw [ht] at hz ⊢
  have h5 : t < 2 ^ (7 - i % 8) := by
   have : 2 ^ (i % 8 + 1) * t < 2 ^ (i % 8 + 1) * 2 ^ (7 - i % 8) := by rw [← e3]; exact hz
   exact Nat.lt_of_mul_lt_mul_left this
  have h6 : 2 ^ (i % 8 + 1) * (t + 1) ≤ 2 ^ (i % 8 + 1) * 2 ^ (7 - i % 8) := Nat.mul_le_mul_left _ h5
  rw [← e3, Nat.mul_add, Nat.pow_succ] at h6
  have := Nat.pow_pos (n := i % 8) (show 0 < 2 by omega)
  rw [Nat.pow_succ]
  omega
 refine ⟨or_bit ht, hlt, ⟨⟨2 * Q + 1, ?_, ?_⟩, by omega, below_set h4 hlt⟩⟩
 ·have h5 := nv_set (B := 256) (xs := qs) (k := i / 8) (v := qs[i / 8] + 2 ^ (i % 8)) hi
  have e1 : (256 : Nat) ^ (i / 8) * 2 ^ (i % 8) = 2 ^ i := by rw [show (256 : Nat) = 2 ^ 8 from rfl, ← Nat.pow_mul, ← Nat.pow_add]; congr 1; omega
  rw [Nat.mul_add, e1] at h5
  rw [Nat.mul_add, ← Nat.mul_assoc, ← Nat.pow_succ, Nat.mul_one, ← h1]
  omega
 ·rw [hA, Nat.add_mul, Nat.one_mul]
  omega
theorem bits_done {A b R : Nat} {qs : List Nat} (h : BitsOf 0 A b qs R) : nv 256 qs = A / b ∧ R = A % b := by
 obtain ⟨⟨Q, h1, h2⟩, h3, h4⟩ := h
 simp only [Nat.pow_zero, Nat.one_mul, Nat.div_one] at h1 h2
 rw [h1, h2]
 exact ⟨by rw [Nat.mul_comm, Nat.mul_add_div (by omega), Nat.div_eq_of_lt h3, Nat.add_zero], by rw [Nat.mul_comm, Nat.mul_add_mod, Nat.mod_eq_of_lt h3]⟩
end
end Go.Proofs.YtedpaajpfaoffaaGreatDoor
namespace Go.Proofs.YtedpaajpfaoffaaGreatDoor
open Go.RowKit
def W8 (n : Nat) : List Value := [.int .u8 (n : Int)]
abbrev Dgs := Rows_ 1 W8 (fun n => n < 256)
theorem Dgs.at_ {w : World} {b off cap : Nat} {xs : List Nat} (h : Dgs w (.slice (some ⟨b, off, none⟩) xs.length cap) xs) {k : Nat} (hk : k < xs.length) : w.cell? ⟨b, off + k, none⟩ = some (.int .u8 (xs[k] : Int)) := by
 have := h.cell (fun _ => rfl) hk 0 (by omega) _ rfl
 simpa [W8] using this
theorem Dgs.below {w : World} {v : Value} {xs : List Nat} (h : Dgs w v xs) : Below_ 256 xs := h.2
theorem Dgs.nil (w : World) : Dgs w (.slice none 0 0) [] := ⟨Reads.nil w 1, fun _ h => by cases h⟩
def okI (neg : Bool) (ds : List Nat) : Bool := match ds with
 | [] => !neg
 | d :: _ => decide (ds.length ≤ 64) && decide (d ≠ 0)
theorem nValid_any (neg : Bool) (d : Value) (ds : List Nat) (w : World) (hd : Dgs w d ds) : Calls Tryz.prog 123 #[.agg #[.bool neg, d]] w fun r w' => r = .returned (.bool (okI neg ds)) ∧ Touch [] w w' := by
 obtain ⟨A, cap, rfl⟩ := hd.form
 obtain ⟨hc1, hc2⟩ := hd.cap
 cases ds with
 | nil =>
  simp only [List.length_nil] at *
  clear hd
  go_enter Tryz.func123, Tryz.ntmps123
  go_wp2_with fail
  go_ret
  exact ⟨rfl, (Touch.refl _ _).alloc _⟩
 | cons x xs =>
  obtain ⟨b, off, rfl, hb⟩ := hd.addr (k := 0) (by simp)
  have c0 := Dgs.at_ hd (k := 0) (by simp)
  simp only [List.length_cons, List.getElem_cons_zero, Nat.add_zero] at *
  generalize hl : xs.length = m at *
  have e1 : (((m : Int) + 1) == 0) = false := by simp; omega
  have e2 : ((0 : Int) == ((m : Int) + 1)) = false := by simp; omega
  have HE : Hid (okI neg (x :: xs) = (decide (m + 1 ≤ 64) && decide (x ≠ 0))) := Lib.hid (by unfold okI; simp [hl])
  clear hd
  by_cases hm : m + 1 ≤ 64
  ·have e3 : ((64 : Int) < (m : Int) + 1) = False := eq_false (by omega)
   have e4 : ((m : Int) + 1 ≤ 64) = True := eq_true (by omega)
   go_enter Tryz.func123, Tryz.ntmps123
   go_wp2_with fail
   go_ret
   refine ⟨by rw [HE.out]; simp [hm]; by_cases h : x = 0 <;> simp [h], (Touch.refl _ _).alloc _⟩
  ·have e3 : ((64 : Int) < (m : Int) + 1) = True := eq_true (by omega)
   have e4 : ((m : Int) + 1 ≤ 64) = False := eq_false (by omega)
   go_enter Tryz.func123, Tryz.ntmps123
   go_wp2_with fail
   go_ret
   exact ⟨by rw [HE.out]; simp [hm], (Touch.refl _ _).alloc _⟩
def NatOf (i : Nat) (rs zs : List Nat) : Prop := nv B32 zs = nv 256 (rs.take i) ∧ Below_ B32 zs ∧ Zero_ (i / 4 + 1) zs ∧ ∀ h : i / 4 < zs.length, zs[i / 4] < 256 ^ (i % 4)
theorem natof_new (rs : List Nat) (m : Nat) : NatOf 0 rs (List.replicate m 0) := ⟨by rw [nv_zeros]; simp [nv], below_new m, fun j h _ => by simp, fun h => by simp⟩
theorem b32_pow (i : Nat) : B32 ^ (i / 4) * 256 ^ (i % 4) = 256 ^ i := by
 have : B32 = 256 ^ 4 := by unfold B32; rfl
 rw [this, ← Nat.pow_mul, ← Nat.pow_add]
 congr 1
 omega
theorem natof_step {i : Nat} {rs zs : List Nat} (h : NatOf i rs zs) (hz : i / 4 < zs.length) (hx : i < rs.length) (bx : Below_ 256 rs) :
  zs[i / 4] + 256 ^ (i % 4) * rs[i] < B32 ∧ NatOf (i + 1) rs (zs.set (i / 4) (zs[i / 4] + 256 ^ (i % 4) * rs[i])) := by
 obtain ⟨h1, h2, h3, h4⟩ := h
 have b1 := bx _ (List.getElem_mem hx)
 have b0 := h4 hz
 have hm : i % 4 < 4 := Nat.mod_lt _ (by omega)
 have hlt : zs[i / 4] + 256 ^ (i % 4) * rs[i] < 256 ^ (i % 4 + 1) := by
  rw [Nat.pow_succ]
  have : 256 ^ (i % 4) * (rs[i] + 1) ≤ 256 ^ (i % 4) * 256 := Nat.mul_le_mul_left _ b1
  rw [Nat.mul_add] at this
  omega
 have hB : 256 ^ (i % 4 + 1) ≤ B32 := by
  have : B32 = 256 ^ 4 := by unfold B32; rfl
  rw [this]
  exact Nat.pow_le_pow_right (by omega) (by omega)
 refine ⟨by omega, ?_, below_set h2 (by omega), ?_, ?_⟩
 ·have h5 := nv_set (B := B32) (xs := zs) (k := i / 4) (v := zs[i / 4] + 256 ^ (i % 4) * rs[i]) hz
  rw [nv_take_succ hx, ← h1, ← b32_pow i, Nat.mul_assoc]
  rw [Nat.mul_add] at h5
  omega
 ·intro j hj hkj
  rw [List.getElem_set_ne (by omega)]
  exact h3 j (by simpa using hj) (by omega)
 ·intro hh
  by_cases h : i % 4 = 3
  ·have e : (i + 1) / 4 = i / 4 + 1 := by omega
   have e2 : (i + 1) % 4 = 0 := by omega
   simp only [e, e2, Nat.pow_zero]
   rw [List.getElem_set_ne (by omega), h3 _ (by rw [List.length_set] at hh; omega) (Nat.le_refl _)]
   omega
  ·have e : (i + 1) / 4 = i / 4 := by omega
   have e2 : (i + 1) % 4 = i % 4 + 1 := by omega
   simp only [e, e2, List.getElem_set_self]
   exact hlt
theorem natof_done {rs zs : List Nat} (h : NatOf rs.length rs zs) : nv B32 zs = nv 256 rs := by
 have := h.1
 rwa [List.take_of_length_le (Nat.le_refl _)] at this
theorem u32w (a : Int) : IntKind.u32.wrap a = a % 4294967296 := rfl
theorem byte_pow (i : Nat) : 2 ^ (8 * (i % 4)) = 256 ^ (i % 4) := by rw [Nat.pow_mul]
def NatOfRel (w : World) (ds : List Nat) (M : Nat) (ti : Value) (wr : World) : Prop := ∃ (i : Nat) (zs : List Nat), i ≤ ds.length ∧ ti = .int .i64 i ∧ zs.length = M ∧ WB wr w.heap.size zs ∧ Touch [] w wr ∧ Hid (NatOf i ds.reverse zs)
theorem natOf_any (d : Value) (ds : List Nat) (w : World) (hd : Dgs w d ds) (hl : ds.length ≤ 100000) : Calls Tryz.prog 124 #[d] w (WPost (dv ds) w) := by
 obtain ⟨A, cap, rfl⟩ := hd.form
 obtain ⟨hc1, hc2⟩ := hd.cap
 obtain ⟨M, hM⟩ : ∃ M, M = (ds.length + 3) / 4 := ⟨_, rfl⟩
 have hmk : ∀ W : World, (Instr.makeSlice 171 (.int .i64 (((ds.length : Int) + 3) / 4)) (.int .i64 (((ds.length : Int) + 3) / 4))).run Tryz.prog W = .ok (.slice (some ⟨W.heap.size, 0, none⟩) M M) (W.alloc (.cells (((List.replicate M (0 : Nat)).map u32v).toArray) 178)) := by
  rw [show ((ds.length : Int) + 3) / 4 = (M : Int) by omega]
  exact make_words M (by omega)
 have hst : NatOfRel w ds M (.int .i64 0) (w.alloc (.cells (((List.replicate M (0 : Nat)).map u32v).toArray) 178)) := ⟨0, _, by omega, rfl, by simp, WB.new _ _, (Touch.refl _ _).alloc _, Lib.hid (natof_new _ _)⟩
 generalize (((List.replicate M (0 : Nat)).map u32v).toArray) = cs at *
 have HM := Lib.hid hM
 clear hM
 go_enter Tryz.func124, Tryz.ntmps124
 go_wp2_with fail
 go_loopw [13] (fun ti wr => NatOfRel w ds M ti wr) (fun ti _ => ds.length - (intOf ti).toNat)
 case atStart => exact hst
 case round =>
  clear hst
  obtain ⟨i, zs, hi, rfl, hzl, hW, ht, HS⟩ := hrel
  by_cases hlt : i < ds.length
  ·have hlt' : (i : Int) < (ds.length : Int) := by omega
   obtain ⟨p, hp⟩ : ∃ p, p = ds.length - 1 - i := ⟨_, rfl⟩
   have hpl : p < ds.length := by omega
   obtain ⟨b, off, rfl, hb⟩ := hd.addr hpl
   have c0 := Dgs.at_ (hd.touch0 ht) hpl
   have bx := hd.below _ (List.getElem_mem hpl)
   have hri : i < ds.reverse.length := by simpa using hlt
   have hrx : ds.reverse[i] = ds[p] := by
    subst hp
    rw [List.getElem_reverse]
   have hkz : i / 4 < zs.length := by have := HM.out; omega
   have HN := natof_step HS.out hkz hri (fun x hx => hd.below x (List.mem_reverse.1 hx))
   rw [hrx] at HN
   have hz4 := HS.out.2.2.2 hkz
   have bz := HS.out.2.1 _ (List.getElem_mem hkz)
   unfold B32 at bz
   have e1 : (ds.length : Int) - 1 - (i : Int) = (p : Int) := by omega
   have e2 : (i : Int) / 4 = ((i / 4 : Nat) : Int) := rfl
   have e3 : (i : Int) % 4 = ((i % 4 : Nat) : Int) := rfl
   have hr4 : i % 4 < 4 := Nat.mod_lt _ (by omega)
   have cz := hW.at_ hkz
   have fz := hW.frozen (i / 4)
   have HWR0 := Lib.hid hW
   have HP := Lib.hid (byte_pow i)
   obtain ⟨s, hs⟩ : ∃ s, s = 8 * (i % 4) := ⟨_, rfl⟩
   have e4 : 8 * ((i % 4 : Nat) : Int) = (s : Int) := by omega
   have hs32 : s < 32 := by omega
   have hkm : i / 4 < M := by omega
   have HZL := Lib.hid hzl
   rw [← byte_pow i, ← hs] at HN hz4
   generalize hkk : i / 4 = k at *
   generalize hrr : i % 4 = r at *
   generalize ds[p] = x at *
   generalize zs[k] = z at *
   have hx2 : 2 ^ s * x < 4294967296 := by have := HN.1; unfold B32 at this; omega
   have HN2 := Lib.hid HN
   have hor := or_low z x s hz4 bz hx2
   have hwr : IntKind.u32.wrap ((x : Int) * 2 ^ s) = ((2 ^ s * x : Nat) : Int) := by
    rw [show ((x : Int) * 2 ^ s) = ((2 ^ s * x : Nat) : Int) by rw [Nat.mul_comm, Int.natCast_mul, Int.natCast_pow]; rfl, u32w]
    omega
   have HOR := Lib.hid hor
   have HWR := Lib.hid hwr
   clear hd HS hW HN hrx hri HP hs hrr hor hwr hx2 hz4 hp hkk hzl hkz
   go_wp2_with fail
   have t2 : (i : Int).tdiv 4 = (k : Int) := by rw [← e2]; exact Int.tdiv_eq_ediv_of_nonneg (by omega)
   have t3 : (i : Int).tmod 4 = (r : Int) := by rw [← e3]; exact Int.tmod_eq_emod_of_nonneg (by omega)
   have t4 : IntKind.i64.wrap (8 * (r : Int)) = (s : Int) := by rw [e4]; exact IntWalk.i64_in _ (by omega)
   have t5 : (0 : Int) ≤ (k : Int) := by omega
   have t6 : (k : Int) < (M : Int) := by omega
   have t7 : (0 : Int) ≤ (s : Int) := by omega
   have t8 : (s : Int) < 32 := by omega
   have t9 : IntKind.i64.wrap (k : Int) = (k : Int) := IntWalk.i64_in _ (by omega)
   have t10 : IntKind.i64.wrap (r : Int) = (r : Int) := IntWalk.i64_in _ (by omega)
   have t11 : IntKind.i64.wrap (s : Int) = (s : Int) := IntWalk.i64_in _ (by omega)
   go_still_tail 12, (by kernel_rfl)
   change wpList _ _ _ _ _ wr.drew
   clear t9 t10 t11 t4
   have cz' : wr.drew.cell? ⟨w.heap.size, k, none⟩ = some (.int .u32 z) := cz
   have fz' : wr.drew.frozen? ⟨w.heap.size, k, none⟩ = false := fz
   have htd : Touch [] w wr.drew := ht.drewN 1
   have HWD : Hid (∀ v : Nat, WB (wr.drew.setCell ⟨w.heap.size, k, none⟩ (.int .u32 (v : Int))) w.heap.size (zs.set k v)) := Lib.hid (fun v => WB.set (WB.drewN (show WB wr w.heap.size zs from HWR0.out) 1) k v)
   rw [HWR.out, HOR.out]
   generalize hWd : wr.drew = wd at *
   go_wp2_with fail
   go_roundw
   case rel => exact ⟨i + 1, zs.set k (z + 2 ^ s * x), by omega, by go_num, by rw [List.length_set]; exact HZL.out, by simpa using HWD.out (z + 2 ^ s * x), (htd.setCell (.inr (Nat.le_refl _)) _), Lib.hid HN2.out.2⟩
   case measure => simp [intOf]; omega
  ·have hlt' : ¬ (i : Int) < (ds.length : Int) := by omega
   have HK := Lib.hid (show i = ds.length by omega)
   have HD := Lib.hid hd.below
   clear hi hd
   have HW : Hid (Words wr (.slice (some ⟨w.heap.size, 0, none⟩) M M) zs) := Lib.hid (hW.words HS.out.2.1 (by have := HM.out; rw [hzl]; unfold maxLen; omega) hzl.symm)
   have HF : Hid (nv B32 zs = dv ds) := Lib.hid (by
    have := HS.out
    rw [HK.out, ← List.length_reverse] at this
    exact natof_done this)
   clear HS HK hW
   go_wp2_with fail
   refine (trim_any _ zs wr HW.out).mono ?_
   rintro r w3 ⟨v', rfl, hw, hr, rfl⟩
   rw [HF.out] at hw
   have HW3 := Lib.hid hw
   obtain ⟨Av, cv, rfl⟩ := hw.form
   clear hw hr
   go_wp2_with fail
   go_ret
   exact ⟨_, rfl, HW3.out, ht⟩
end Go.Proofs.YtedpaajpfaoffaaGreatDoor
namespace Go.Proofs.YtedpaajpfaoffaaGreatDoor
open Go.RowKit
theorem Rows_.form3 {α : Type} {c : Nat} {f : α → List Value} {fit : α → Prop} {w : World} {v : Value} {xs : List α} (h : Rows_ c f fit w v xs) : ∃ A n cap, v = .slice A n cap := by
 obtain ⟨A, cap, e⟩ := h.form
 exact ⟨A, _, cap, e⟩
theorem Dgs.cut {w : World} {A : Option Addr} {cap : Nat} {xs : List Nat} (h : Dgs w (.slice A xs.length cap) xs) {k : Nat} (hk : k ≤ xs.length) : Dgs w (.slice A k cap) (xs.take k) := by
 obtain ⟨⟨A', cap', e, h1, h2, h3, h4⟩, hf⟩ := h
 injection e with e1 e2 e3
 subst e1 e3
 have hl : (xs.take k).length = k := by rw [List.length_take]; omega
 have hfl : ∀ l : List Nat, (l.flatMap W8) = l.map (fun n : Nat => Value.int .u8 (n : Int)) := fun l => by
  induction l with
  | nil => rfl
  | cons a l ih => simp [W8, ih]
 refine ⟨⟨A, cap, by rw [hl], by rw [hl]; omega, h2, by rw [hfl]; simp, fun hn => ?_⟩, fun x hx => hf x (List.mem_of_mem_take hx)⟩
 rw [hl] at hn
 obtain ⟨b, off, rfl, hb, hc⟩ := h4 (by omega)
 refine ⟨b, off, rfl, hb, fun j u hu => hc j u ?_⟩
 rw [hfl] at hu ⊢
 rw [List.getElem?_map, List.getElem?_take] at hu
 rw [List.getElem?_map]
 split at hu
 ·exact hu
 ·simp at hu
def TrimRel8 (_w : World) (A : Option Addr) (cap : Nat) (xs : List Nat) (tv : Value) : Prop := ∃ k : Nat, k ≤ xs.length ∧ tv = .slice A k cap ∧ nv 256 (xs.take k) = nv 256 xs
def RPost (N : Nat) (w : World) (r : Ending) (w' : World) : Prop := ∃ v, r = .returned v ∧ Dgs w' v (wordsOf 256 N) ∧ Touch [] w w' ∧ ∀ g ∈ rb v, w.heap.size ≤ g
theorem rtrim_any (v : Value) (xs : List Nat) (w : World) (hv : Dgs w v xs) : Calls Tryz.prog 137 #[v] w fun r w' => ∃ v', r = .returned v' ∧ Dgs w v' (wordsOf 256 (nv 256 xs)) ∧ (∀ g ∈ rb v', g ∈ rb v) ∧ w = w' := by
 obtain ⟨A, cap, rfl⟩ := hv.form
 obtain ⟨hc1, hc2⟩ := hv.cap
 have HF := Lib.hid (fun (v' : Value) (k : Nat) (e : v' = .slice A k cap) (hk : k ≤ xs.length) (hn : nv 256 (xs.take k) = nv 256 xs) (hc : Canon (xs.take k)) => (⟨by
  subst e
  rw [← trim_words two256 hv.below hn hc]
  exact hv.cut hk, by
  subst e
  intro g hg
  cases A with
  | none => cases k <;> simp [rb] at hg
  | some a =>
   cases k with
   | zero => simp [rb] at hg
   | succ k =>
    obtain ⟨m, hm⟩ : ∃ m, xs.length = m + 1 := ⟨xs.length - 1, by omega⟩
    rw [hm]
    simpa [rb] using hg⟩ : Dgs w v' (wordsOf 256 (nv 256 xs)) ∧ (∀ g ∈ rb v', g ∈ rb (.slice A xs.length cap))))
 have hst : TrimRel8 w A cap xs (.slice A xs.length cap) := ⟨xs.length, Nat.le_refl _, rfl, by rw [List.take_length]⟩
 go_enter Tryz.func137, Tryz.ntmps137
 go_wp2_with fail
 go_loop [0] (fun tv => TrimRel8 w A cap xs tv) (fun tv => match tv with | .slice _ k _ => k | _ => 0)
 case atStart => exact hst
 case round =>
  clear hst
  obtain ⟨k, hk, rfl, hn⟩ := hrel
  have HN := Lib.hid hn
  clear hn
  rcases Nat.eq_zero_or_pos k with h0 | h0
  ·subst h0
   have hcan : Canon (xs.take 0) := fun h => absurd rfl h
   have HC := Lib.hid hcan
   clear hcan
   go_wp2_with fail
   go_ret
   obtain ⟨f1, f2⟩ := HF.out _ 0 rfl (by omega) HN.out HC.out
   exact ⟨_, rfl, f1, f2, rfl⟩
  obtain ⟨m, rfl⟩ : ∃ m, k = m + 1 := ⟨k - 1, by omega⟩
  have hm : m < xs.length := by omega
  obtain ⟨b, off, rfl, hb⟩ := hv.addr hm
  have c0 := Dgs.at_ hv hm
  have HZ := Lib.hid (fun h => trim_step (B := 256) hm h)
  have HK := Lib.hid (fun h => canon_take hm h)
  generalize xs[m] = x at *
  by_cases hx : x = 0
  ·have HN2 := Lib.hid ((HZ.out hx).symm.trans HN.out)
   subst hx
   clear HK HZ hv
   go_wp2_with fail
   go_round
   case rel => exact ⟨m, by omega, by simp, HN2.out⟩
   case measure => simp
  ·have hx1 : ((x : Int) == 0) = false := by simp; omega
   have HC := Lib.hid (HK.out hx)
   clear HK HZ hx hv
   go_wp2_with fail
   go_ret
   obtain ⟨f1, f2⟩ := HF.out _ (m + 1) rfl hk HN.out HC.out
   exact ⟨_, rfl, f1, f2, rfl⟩
def u8v (n : Nat) : Value := .int .u8 (n : Int)
theorem flat_u8 (l : List Nat) : (l.flatMap W8) = l.map u8v := by
 induction l with
 | nil => rfl
 | cons a l ih => simp [W8, u8v, ih]
theorem elem_rnat : Elem Tryz.prog 129 5 1 1 := Elem.mk (z := .int .u8 0) Tryz.underlying129 (by kernel_rfl) rfl (by decide)
theorem elem_b8 : Elem Tryz.prog 30 5 1 1 := Elem.mk (z := .int .u8 0) Tryz.underlying30 (by kernel_rfl) rfl (by decide)
def Row8 (w : World) (v : Value) (xs : List Nat) : Prop := Own w 5 1 v xs.length (xs.map u8v)
section
variable {w w' : World} {v : Value} {xs : List Nat} {L : List Nat}
theorem Row8.nil (w : World) : Row8 w (.slice none 0 0) [] := Own.nil w _ 1
theorem Row8.touch0 (h : Row8 w v xs) (ht : Touch [] w w') : Row8 w' v xs := Own.touch0 h ht
theorem Row8.touch (h : Row8 w v xs) (ht : Touch L w w') (hv : ∀ b ∈ blk v, b ∉ L) : Row8 w' v xs := Own.touch h ht hv
theorem Row8.dgs (h : Row8 w v xs) (hb : Below_ 256 xs) : Dgs w v xs := ⟨by rw [flat_u8]; exact Own.reads h, hb⟩
theorem Row8.snoc {y : Nat} (h : Own w 5 1 v (xs.length + 1) (xs.map u8v ++ [.int .u8 (y : Int)])) : Row8 w v (xs ++ [y]) := by
 unfold Row8
 simpa [u8v] using h
theorem Row8.form (h : Row8 w v xs) : ∃ A cap, v = .slice A xs.length cap := Own.form h
end
theorem Touch.fresh8 {w w1 w2 : World} {v : Value} (h : Touch [] w w1) (hn : ∀ g ∈ blk v, w.heap.size ≤ g) (h2 : Touch (blk v) w1 w2) : Touch [] w w2 := h.step h2 (fun m hm => .inr (hn m hm))
theorem From.fresh8 {w w1 : World} {v v2 : Value} (h : Touch [] w w1) (hn : ∀ g ∈ blk v, w.heap.size ≤ g) (h2 : From w1 v v2) : ∀ g ∈ blk v2, w.heap.size ≤ g := fun g hg => by
 rcases h2 g hg with h3 | h3
 ·exact hn g h3
 ·exact Nat.le_trans h.size h3
def B8 (w : World) (g : Nat) (xs : List Nat) : Prop := Blk w g 5 (xs.map u8v).toArray
theorem made_bytes (m : Nat) : madeCells (Value.int .u8 0).cells m = ((List.replicate m (0 : Nat)).map u8v).toArray := by
 apply Array.ext
 ·simp [madeCells]
 ·intro i h1 h2
  simp [madeCells, Value.cells, u8v]
  rw [Nat.mod_one]
  rfl
theorem zero_b8 : (Tryz.prog.info? 5).bind (fun i => i.zero) = some (.int .u8 0) := by kernel_rfl
theorem make_bytes {t : TypeId} (he : Elem Tryz.prog t 5 1 1) (m : Nat) (hm : m ≤ 1099511627776) (W : World) : (Instr.makeSlice t (.int .i64 (m : Int)) (.int .i64 (m : Int))).run Tryz.prog W = .ok (.slice (some ⟨W.heap.size, 0, none⟩) m m) (W.alloc (.cells (((List.replicate m (0 : Nat)).map u8v).toArray) 5)) := by
 obtain ⟨ht, i, z, hi, hz, hsz, hby, hzs, hpos⟩ := he
 have hz2 := zero_b8
 rw [hi] at hz2
 have hz0 : i.zero = some (.int .u8 0) := by simpa using hz2
 have hb : (i.bytes : Int) * (m : Int) ≤ 281474976710656 := by rw [hby]; omega
 have hr := run_make (P := Tryz.prog) W t 5 i (.int .u8 0) ht hi hz0 .i64 .i64 m m (by omega) (by omega) hb (by omega)
 simp only [Int.toNat_natCast] at hr
 rw [hr, hsz, Nat.mul_one, made_bytes]
section
variable {w w' : World} {g : Nat} {xs : List Nat} {L : List Nat}
theorem B8.lt (h : B8 w g xs) : g < w.heap.size := Blk.lt h
theorem B8.at_ (h : B8 w g xs) {k : Nat} (hk : k < xs.length) : w.cell? ⟨g, k, none⟩ = some (.int .u8 (xs[k] : Int)) := by
 have := Blk.cell h k
 rw [this]
 simp [u8v, hk]
theorem B8.frozen (h : B8 w g xs) (k : Nat) : w.frozen? ⟨g, k, none⟩ = false := Blk.frozen h k
theorem B8.set (h : B8 w g xs) (k v : Nat) : B8 (w.setCell ⟨g, k, none⟩ (.int .u8 (v : Int))) g (xs.set k v) := by
 have := Blk.set_ h k (.int .u8 (v : Int))
 unfold B8
 simpa [List.map_set, u8v] using this
theorem B8.new (w : World) (m : Nat) : B8 (w.alloc (.cells (((List.replicate m (0 : Nat)).map u8v).toArray) 5)) w.heap.size (List.replicate m 0) := Blk.new _ _ _
theorem B8.drewN (h : B8 w g xs) (n : Nat) : B8 (w.drewN n) g xs := h
theorem B8.touch (h : B8 w g xs) (ht : Touch L w w') (hg : g ∉ L) : B8 w' g xs := Blk.touch h ht hg
theorem B8.dgs (h : B8 w g xs) (hb : Below_ 256 xs) (hl : xs.length ≤ maxLen) {n : Nat} (hn : n = xs.length) : Dgs w (.slice (some ⟨g, 0, none⟩) n n) xs := by
 subst hn
 refine ⟨⟨_, _, rfl, Nat.le_refl _, hl, by rw [flat_u8]; simp, fun _ => ⟨g, 0, rfl, h.lt, fun j u hu => ?_⟩⟩, hb⟩
 rw [flat_u8] at hu
 have := Blk.cell h j
 simp only [Nat.zero_add]
 rw [this]
 simpa using hu
end
theorem below8_new (m : Nat) : Below_ 256 (List.replicate m 0) := fun x hx => by rw [List.eq_of_mem_replicate hx]; omega
end Go.Proofs.YtedpaajpfaoffaaGreatDoor
namespace Go.Proofs.YtedpaajpfaoffaaGreatDoor
open Go.RowKit
def PlusRel (w : World) (xs ys : List Nat) (to tc ti : Value) (wr : World) : Prop := ∃ (i c : Nat) (zs : List Nat), ti = .int .i64 i ∧ tc = .int .i64 c ∧ c ≤ 1 ∧ zs.length = i ∧ i ≤ max xs.length ys.length + 1 ∧ (max xs.length ys.length < i → c = 0) ∧ Row8 wr to zs ∧ Touch [] w wr ∧ (∀ g ∈ blk to, w.heap.size ≤ g) ∧ Hid (PlusOf i xs ys zs c)
theorem rplus_w (v u : Value) (xs ys : List Nat) (w : World) (hv : Dgs w v xs) (hu : Dgs w u ys) (hx : xs.length ≤ 100000) (hy : ys.length ≤ 100000) : Calls Tryz.prog 89 #[v, u] w (RPost (nv 256 xs + nv 256 ys) w) := by
 obtain ⟨A, cap, rfl⟩ := hv.form
 obtain ⟨A', cap', rfl⟩ := hu.form
 obtain ⟨hc1, hc2⟩ := hv.cap
 obtain ⟨hc3, hc4⟩ := hu.cap
 have hst : PlusRel w xs ys (.slice none 0 0) (.int .i64 0) (.int .i64 0) w := ⟨0, 0, [], rfl, rfl, by omega, rfl, by omega, by omega, Row8.nil w, Touch.refl _ _, fun g hg => (by cases hg), Lib.hid (plus_new _ _)⟩
 go_enter Tryz.func89, Tryz.ntmps89
 go_wp2_with fail
 go_loopw [5, 6, 7] (fun to tc ti wr => PlusRel w xs ys to tc ti wr) (fun _ _ ti _ => max xs.length ys.length + 2 - (intOf ti).toNat)
 case atStart => exact hst
 case round =>
  clear hst
  obtain ⟨i, c, zs, rfl, rfl, hc, hzl, hi, hic, hr, ht, hfr, HS⟩ := hrel
  obtain ⟨Az, cz, rfl⟩ := hr.form
  have HX := Lib.hid hv
  have HY := Lib.hid hu
  have HFR := Lib.hid hfr
  have HST := Lib.hid (fun s (e : s = c + wat xs i + wat ys i) => plus_step HS.out hv.below hu.below e)
  have HMX := Lib.hid (And.intro hi hic)
  have hi2 : i ≤ 100001 := by omega
  clear hi hic hfr
  by_cases hlx : i < xs.length
  ·have hlx' : (i : Int) < (xs.length : Int) := by omega
   obtain ⟨b, off, rfl, hb⟩ := hv.addr hlx
   have c0 := Dgs.at_ (hv.touch0 ht) hlx
   have bx := hv.below _ (List.getElem_mem hlx)
   have HWX := Lib.hid (wat_in hlx)
   generalize xs[i] = x at *
   by_cases hly : i < ys.length
   ·have hly' : (i : Int) < (ys.length : Int) := by omega
    obtain ⟨b', off', rfl, hb'⟩ := hu.addr hly
    have c1 := Dgs.at_ (hu.touch0 ht) hly
    have bY := hu.below _ (List.getElem_mem hly)
    have HWY := Lib.hid (wat_in hly)
    generalize ys[i] = y at *
    clear hv hu
    have HK := Lib.hid (HST.out (c + x + y) (by rw [HWX.out, HWY.out]))
    clear HS HST
    go_wp2_with (at_builtin; go_must (refine app_new elem_rnat hr [_] 1 1 (by omega) (by unfold maxLen; omega) ?_); intro v1 w1 ho1 hg1 hf1)
    go_roundw
    case rel => exact ⟨i + 1, (c + x + y) / 256, zs ++ [(c + x + y) % 256], by go_num, by go_num, by have := HK.out.1; omega, by simp [hzl], by have := HMX.out; omega, by have := HMX.out; omega, Row8.snoc ho1, ht.fresh8 HFR.out hg1, From.fresh8 ht HFR.out hf1, Lib.hid HK.out.2⟩
    case measure => have := HMX.out; simp [intOf]; omega
   ·have hly' : ¬ (i : Int) < (ys.length : Int) := by omega
    have HWY := Lib.hid (wat_out hly)
    clear hv hu
    have HK := Lib.hid (HST.out (c + x) (by rw [HWX.out, HWY.out]; omega))
    clear HS HST
    go_wp2_with (at_builtin; go_must (refine app_new elem_rnat hr [_] 1 1 (by omega) (by unfold maxLen; omega) ?_); intro v1 w1 ho1 hg1 hf1)
    go_roundw
    case rel => exact ⟨i + 1, (c + x) / 256, zs ++ [(c + x) % 256], by go_num, by go_num, by have := HK.out.1; omega, by simp [hzl], by have := HMX.out; omega, by have := HMX.out; omega, Row8.snoc ho1, ht.fresh8 HFR.out hg1, From.fresh8 ht HFR.out hf1, Lib.hid HK.out.2⟩
    case measure => have := HMX.out; simp [intOf]; omega
  ·have hlx' : ¬ (i : Int) < (xs.length : Int) := by omega
   have HWX := Lib.hid (wat_out hlx)
   by_cases hly : i < ys.length
   ·have hly' : (i : Int) < (ys.length : Int) := by omega
    obtain ⟨b', off', rfl, hb'⟩ := hu.addr hly
    have c1 := Dgs.at_ (hu.touch0 ht) hly
    have bY := hu.below _ (List.getElem_mem hly)
    have HWY := Lib.hid (wat_in hly)
    generalize ys[i] = y at *
    clear hv hu
    have HK := Lib.hid (HST.out (c + y) (by rw [HWX.out, HWY.out]; omega))
    clear HS HST
    go_wp2_with (at_builtin; go_must (refine app_new elem_rnat hr [_] 1 1 (by omega) (by unfold maxLen; omega) ?_); intro v1 w1 ho1 hg1 hf1)
    go_roundw
    case rel => exact ⟨i + 1, (c + y) / 256, zs ++ [(c + y) % 256], by go_num, by go_num, by have := HK.out.1; omega, by simp [hzl], by have := HMX.out; omega, by have := HMX.out; omega, Row8.snoc ho1, ht.fresh8 HFR.out hg1, From.fresh8 ht HFR.out hf1, Lib.hid HK.out.2⟩
    case measure => have := HMX.out; simp [intOf]; omega
   ·have hly' : ¬ (i : Int) < (ys.length : Int) := by omega
    have HWY := Lib.hid (wat_out hly)
    by_cases h0 : 0 < c
    ·have h0' : (0 : Int) < (c : Int) := by omega
     clear hv hu
     have HK := Lib.hid (HST.out (c) (by rw [HWX.out, HWY.out]; omega))
     clear HS HST
     go_wp2_with (at_builtin; go_must (refine app_new elem_rnat hr [_] 1 1 (by omega) (by unfold maxLen; omega) ?_); intro v1 w1 ho1 hg1 hf1)
     go_roundw
     case rel => exact ⟨i + 1, (c) / 256, zs ++ [(c) % 256], by go_num, by go_num, by have := HK.out.1; omega, by simp [hzl], by have := HMX.out; omega, by have := HMX.out; omega, Row8.snoc ho1, ht.fresh8 HFR.out hg1, From.fresh8 ht HFR.out hf1, Lib.hid HK.out.2⟩
     case measure => have := HMX.out; simp [intOf]; omega
    ·have hc0 : c = 0 := by omega
     subst hzl
     have h0' : (0 < c) = False := eq_false h0
     have HD : Hid (nv 256 zs = nv 256 xs + nv 256 ys) := Lib.hid (plus_done (by have := HS.out; rwa [hc0] at this) hlx hly)
     have HT := Lib.hid (rtrim_any (.slice Az zs.length cz) zs wr (hr.dgs HS.out.2.2.2))
     clear hv hu HS HST hc0 h0 hc hi2
     go_wp2_with fail
     refine HT.out.mono ?_
     rintro r w3 ⟨v', rfl, hw, hr, rfl⟩
     rw [HD.out] at hw
     have HW3 := Lib.hid hw
     have HRB := Lib.hid (fun g hg => HFR.out g (rb_sub _ g (hr g hg)))
     obtain ⟨Av, nv_, cv, rfl⟩ := hw.form3
     clear hw hr
     go_wp2_with fail
     go_ret
     exact ⟨_, rfl, HW3.out, ht, HRB.out⟩
theorem rplus_any (v u : Value) (a b : Nat) (w : World) (hv : Dgs w v (wordsOf 256 a)) (hu : Dgs w u (wordsOf 256 b)) (hx : (wordsOf 256 a).length ≤ 100000) (hy : (wordsOf 256 b).length ≤ 100000) : Calls Tryz.prog 89 #[v, u] w (RPost (a + b) w) := by
 have h := rplus_w v u _ _ w hv hu hx hy
 rwa [nv_words two256, nv_words two256] at h
end Go.Proofs.YtedpaajpfaoffaaGreatDoor
namespace Go.Proofs.YtedpaajpfaoffaaGreatDoor
open Go.RowKit
theorem size_any (v : Value) (a : Nat) (w : World) (hv : Words w v (wordsOf B32 a)) (hl : (wordsOf B32 a).length ≤ 100000) : Calls Tryz.prog 175 #[v] w fun r w' => ∃ s : Nat, r = .returned (.int .i64 s) ∧ SizeOf_ s a ∧ s ≤ 3200000 ∧ Touch [] w w' := by
 obtain ⟨A, cap, rfl⟩ := hv.form
 obtain ⟨hc1, hc2⟩ := hv.cap
 cases hlen : (wordsOf B32 a).length with
 | zero =>
  have h0 := (words_nil_iff B32_le).1 hlen
  subst h0
  go_enter Tryz.func175, Tryz.ntmps175
  go_wp2_with fail
  go_ret
  exact ⟨0, rfl, size_zero, by omega, Touch.refl _ _⟩
 | succ m =>
  obtain ⟨t0, t1, hs, hb⟩ := size_top hlen
  obtain ⟨b, off, rfl, hlt⟩ := hv.addr (k := m) (by omega)
  have c0 := Words.at_ hv (k := m) (by omega)
  generalize (wordsOf B32 a)[m]'(by omega) = x at *
  have HL := Lib.hid (fun W => Tryz.bits_Len32 (x : Int) W (by omega) (by omega))
  have HS := Lib.hid hs
  have hx : ((x : Int).toNat) = x := by omega
  clear hv hs t0
  rw [hlen] at hc1 hl
  go_enter Tryz.func175, Tryz.ntmps175
  go_wp2_with fail
  refine (HL.out _).mono ?_
  rintro r w1 ⟨rfl, rfl⟩
  rw [hx]
  go_wp2_with fail
  go_ret
  exact ⟨32 * m + Lib.bitLen x, by go_num, HS.out, by omega, Touch.refl _ _⟩
def DigRel (w : World) (g a n : Nat) (ti : Value) (wr : World) : Prop := ∃ (i : Nat) (zs : List Nat), i ≤ n ∧ ti = .int .i64 i ∧ zs.length = n ∧ B8 wr g zs ∧ Touch [] w wr ∧ Hid (Below_ 256 zs ∧ ∀ j (hj : j < zs.length), n - i ≤ j → zs[j] = a / 256 ^ (n - 1 - j) % 256)
theorem byte_shr (x i : Nat) (h : i % 4 < 4) : ((x / 2 ^ (8 * (i % 4)) : Nat) : Int) % 256 = ((x / 256 ^ (i % 4) % 256 : Nat) : Int) := by
 rw [Nat.pow_mul]
 rfl
theorem digits8_w (v : Value) (a : Nat) (xs : List Nat) (w : World) (hv : Words w v xs) (HXS : Hid (xs = wordsOf B32 a)) (hl : xs.length ≤ 100000) : Calls Tryz.prog 176 #[v] w fun r w' => ∃ d, r = .returned d ∧ Dgs w' d (dg a) ∧ Touch [] w w' ∧ ∀ g ∈ rb d, w.heap.size ≤ g := by
 have HS := Lib.hid (size_any _ a w (HXS.out ▸ hv) (HXS.out ▸ hl))
 have HV := Lib.hid hv
 obtain ⟨A, cap, rfl⟩ := hv.form
 obtain ⟨hc1, hc2⟩ := hv.cap
 clear hv
 go_enter Tryz.func176, Tryz.ntmps176
 go_wp2_with fail
 refine HS.out.mono ?_
 rintro r w1 ⟨s, rfl, hs, hs2, ht⟩
 dsimp only
 have HDL := Lib.hid (size_digits hs)
 clear hs HS
 by_cases h0 : (s + 7) / 8 = 0
 ·have h0' : (((s : Int) + 7) / 8 == 0) = true := by simp; omega
  have HD : Hid (dg a = []) := Lib.hid (List.eq_nil_of_length_eq_zero (HDL.out.trans h0))
  clear h0 HDL
  go_wp2_with fail
  go_ret
  exact ⟨_, rfl, by rw [HD.out]; exact Dgs.nil _, ht, fun g hg => by simp [rb] at hg⟩
 ·have h0' : (((s : Int) + 7) / 8 == 0) = false := by simp; omega
  obtain ⟨n, hn⟩ : ∃ n, n = (s + 7) / 8 := ⟨_, rfl⟩
  have hmk := make_bytes elem_b8 n (by omega)
  have hn2 : n ≤ 400001 := by omega
  have hs8 : ((s : Int) + 7) / 8 = (n : Int) := by omega
  have h0' : ((n : Int) == 0) = false := by simp; omega
  have HN : Hid ((dg a).length = n) := Lib.hid (HDL.out.trans hn.symm)
  clear hn h0
  have hst : DigRel w w1.heap.size a n (.int .i64 0) (w1.alloc (.cells (((List.replicate n (0 : Nat)).map u8v).toArray) 5)) := ⟨0, _, by omega, rfl, by simp, B8.new _ _, ht.alloc _, Lib.hid ⟨below8_new _, fun j hj h => by simp at hj; omega⟩⟩
  have hz : w.heap.size ≤ w1.heap.size := ht.size
  generalize (((List.replicate n (0 : Nat)).map u8v).toArray) = cs at *
  go_wp2_with fail
  go_loopw [16] (fun ti wr => DigRel w w1.heap.size a n ti wr) (fun ti _ => n - (intOf ti).toNat)
  case atStart => exact hst
  case round =>
   clear hst ht
   obtain ⟨i, zs, hi, rfl, hzl, hW, ht, HZ⟩ := hrel
   by_cases hlt : i < n
   ·have hlt' : (i : Int) < (n : Int) := by omega
    have hi4 : i / 4 < xs.length := by
     have h1 := HN.out
     have h2 : i < (dg a).length := by omega
     have h3 := pow_le_of_len two256 i a (by unfold dg at h2; simpa using h2)
     rcases Nat.lt_or_ge (i / 4) xs.length with h4 | h4
     ·exact h4
     ·exfalso
      rw [HXS.out] at h4
      have h5 := lt_pow_of_len B32_le (N := a) h4
      have h6 : B32 ^ (i / 4) ≤ 256 ^ i := by
       unfold B32
       rw [show (4294967296 : Nat) = 256 ^ 4 from rfl, ← Nat.pow_mul]
       exact Nat.pow_le_pow_right (by omega) (by omega)
      omega
    obtain ⟨b, off, rfl, hb⟩ := HV.out.addr hi4
    have c0 := Words.at_ (HV.out.touch0 ht) hi4
    have HWD : Hid (xs[i / 4] / 256 ^ (i % 4) % 256 = a / 256 ^ i % 256) := Lib.hid (by
     have h := word_digit (a := a) (i := i) (by rw [← HXS.out]; exact hi4)
     simp only [← HXS.out] at h
     exact h)
    have hr4 : i % 4 < 4 := Nat.mod_lt _ (by omega)
    have HSH := Lib.hid (byte_shr xs[i / 4] i hr4)
    have bx := HV.out.below _ (List.getElem_mem hi4)
    unfold B32 at bx
    obtain ⟨p, hp⟩ : ∃ p, p = n - 1 - i := ⟨_, rfl⟩
    have hpz : p < zs.length := by omega
    have cz := hW.at_ hpz
    have fz := hW.frozen p
    have HW := Lib.hid hW
    have HZL := Lib.hid hzl
    have e1 : (n : Int) - 1 - (i : Int) = (p : Int) := by omega
    have e2 : (i : Int) / 4 = ((i / 4 : Nat) : Int) := rfl
    have e3 : (i : Int) % 4 = ((i % 4 : Nat) : Int) := rfl
    obtain ⟨s, hs⟩ : ∃ s, s = 8 * (i % 4) := ⟨_, rfl⟩
    have e4 : 8 * ((i % 4 : Nat) : Int) = (s : Int) := by omega
    have hs32 : s < 32 := by omega
    have hpn : p < n := by omega
    have HP := Lib.hid hp
    rw [← hs] at HSH
    generalize hkk : i / 4 = k at *
    generalize hrr : i % 4 = r at *
    generalize xs[k] = x at *
    generalize zs[p] = z at *
    clear hW hzl hp hs
    go_wp2_with fail
    go_roundw
    case rel =>
     obtain ⟨z1, z2⟩ := HZ.out
     have hv : Value.int .u8 ((x : Int) / 2 ^ s % 256) = .int .u8 ((a / 256 ^ i % 256 : Nat) : Int) := by
      rw [← HWD.out, ← HSH.out]
      congr 1
     refine ⟨i + 1, zs.set p (a / 256 ^ i % 256), by omega, by go_num, by rw [List.length_set]; exact HZL.out, ?_, ht.setCell (.inr hz) _, Lib.hid ⟨below_set z1 (Nat.mod_lt _ (by omega)), fun j hj h => ?_⟩⟩
     ·rw [hv]
      exact HW.out.set p _
     ·have hP := HP.out
      have hL := HZL.out
      rw [List.getElem_set]
      split
      ·rw [show n - 1 - j = i by omega]
      ·exact z2 j (by simpa using hj) (by omega)
    case measure => simp [intOf]; omega
   ·have hlt' : ¬ (i : Int) < (n : Int) := by omega
    have HF : Hid (Dgs wr (.slice (some ⟨w1.heap.size, 0, none⟩) n n) (dg a)) := Lib.hid (by
     obtain ⟨z1, z2⟩ := HZ.out
     have e : zs = dg a := dg_of_get (hzl.trans HN.out.symm) (fun j hj => by rw [hzl]; exact z2 j hj (by omega))
     rw [← e]
     exact hW.dgs z1 (by unfold maxLen; omega) hzl.symm)
    clear HZ hW hzl hi hlt
    go_wp2_with fail
    go_ret
    exact ⟨_, rfl, HF.out, ht, fun g hg => by cases n <;> simp [rb] at hg; omega⟩
theorem digits8_any (v : Value) (a : Nat) (w : World) (hv : Words w v (wordsOf B32 a)) (hl : (wordsOf B32 a).length ≤ 100000) : Calls Tryz.prog 176 #[v] w fun r w' => ∃ d, r = .returned d ∧ Dgs w' d (dg a) ∧ Touch [] w w' ∧ ∀ g ∈ rb d, w.heap.size ≤ g := digits8_w v a _ w hv (Lib.hid rfl) hl
end Go.Proofs.YtedpaajpfaoffaaGreatDoor
namespace Go.Proofs.YtedpaajpfaoffaaGreatDoor
open Go.RowKit
def Top : Nat := 256 ^ 64
theorem top_dg {N : Nat} : (dg N).length ≤ 64 ↔ N < Top := dg_len
theorem top_size {s N : Nat} (h : SizeOf_ s N) : s ≤ 512 ↔ N < Top := by
 have e : ∀ k j, j = 8 * k → (256 : Nat) ^ k = 2 ^ j := fun k j hj => by rw [hj, Nat.pow_mul]
 obtain ⟨K, hK⟩ : ∃ K, K = 512 := ⟨_, rfl⟩
 unfold Top
 rw [e 64 K (by omega), ← hK]
 exact size_le h
def sg (neg : Bool) (N : Nat) : Bool := neg && decide (0 < N)
theorem Blk.int2 {w : World} {g : Nat} {t : TypeId} {x0 x1 : Value} (h : Blk w g t #[x0, x1]) (u0 u1 : Value) : ((w.setCell ⟨g, 0, none⟩ u0).setCell ⟨g, 1, none⟩ u1).cell? ⟨g, 0, none⟩ = some u0 ∧ ((w.setCell ⟨g, 0, none⟩ u0).setCell ⟨g, 1, none⟩ u1).cell? ⟨g, 1, none⟩ = some u1 ∧ Touch [g] w ((w.setCell ⟨g, 0, none⟩ u0).setCell ⟨g, 1, none⟩ u1) := by
 have b2 := (h.set_ 0 u0).set_ 1 u1
 exact ⟨(b2.cell 0).trans (by simp), (b2.cell 1).trans (by simp), ((Touch.refl _ _).setCell (p := ⟨g, 0, none⟩) (.inl (by simp)) _).setCell (p := ⟨g, 1, none⟩) (.inl (by simp)) _⟩
def BuildPost (neg : Bool) (N : Nat) (w : World) (r : Ending) (w' : World) : Prop :=
 (N < Top ∧ ∃ A n c, r = .returned (.tuple #[.agg #[.bool (sg neg N), .slice A n c], .int .i64 0]) ∧ Dgs w' (.slice A n c) (dg N) ∧ Touch [] w w' ∧ ∀ g ∈ rb (.slice A n c), w.heap.size ≤ g) ∨ (¬ N < Top ∧ r = .returned (.tuple #[.agg #[.bool false, .slice none 0 0], .int .i64 7]) ∧ Touch [] w w')
theorem build_w (neg : Bool) (v : Value) (N : Nat) (xs : List Nat) (w : World) (hv : Words w v xs) (HXS : Hid (xs = wordsOf B32 N)) (hl : xs.length ≤ 100000) : Calls Tryz.prog 126 #[.bool neg, v] w (BuildPost neg N w) := by
 have HS := Lib.hid (fun W (t : Touch [] w W) => size_any v N W (HXS.out ▸ hv.touch0 t) (HXS.out ▸ hl))
 have HD := Lib.hid (fun W (t : Touch [] w W) => digits8_any v N W (HXS.out ▸ hv.touch0 t) (HXS.out ▸ hl))
 have HP : Hid (decide (0 < xs.length) = decide (0 < N)) := Lib.hid (by
  have := words_nil_iff B32_le (N := N)
  rw [← HXS.out] at this
  rw [decide_eq_decide]
  omega)
 obtain ⟨A, cap, rfl⟩ := hv.form
 obtain ⟨hc1, hc2⟩ := hv.cap
 have b0 : Blk (w.alloc (.cells #[.bool false, .slice none 0 0] 32)) w.heap.size 32 #[.bool false, .slice none 0 0] := Blk.new _ _ _
 have ht0 : Touch [] w (w.alloc (.cells #[.bool false, .slice none 0 0] 32)) := (Touch.refl _ _).alloc _
 clear hv
 go_enter Tryz.func126, Tryz.ntmps126
 go_wp2_with fail
 generalize (w.alloc (.cells #[.bool false, .slice none 0 0] 32)) = w0 at *
 with_reducible refine (HS.out w0 ht0).mono ?_
 rintro r w1 ⟨s, rfl, hs, hs2, ht⟩
 dsimp only
 have ht1 := ht0.then0 ht
 have b1 := b0.touch ht (by simp)
 have q0 := b1.cell 0
 have q1 := b1.cell 1
 have f0 := b1.frozen 0
 have f1 := b1.frozen 1
 simp at q0 q1
 by_cases hbig : 512 < s
 ·have hbig' : (512 : Int) < (s : Int) := by omega
  have HN : Hid (¬ N < Top) := Lib.hid (fun h => by have := (top_size hs).2 h; omega)
  clear hs HS HD
  go_wp2_with fail
  have k := b1.int2 (.bool false) (.slice none 0 0)
  refine bodyPost_ret (v := .tuple #[.agg #[.bool false, .slice none 0 0], .int .i64 7]) (by simp [results, Tryz.results126, go_sem, k.1, k.2.1]) rfl (.inr ⟨HN.out, rfl, ?_⟩)
  exact ht1.step k.2.2 (fun m hm => .inr (by rw [List.mem_singleton] at hm; omega))
 ·have hbig' : ¬ (512 : Int) < (s : Int) := by omega
  have HN : Hid (N < Top) := Lib.hid ((top_size hs).1 (by omega))
  have HB1 := Lib.hid b1
  clear hs HS hbig b1 q0 q1 f0 f1
  cases neg with
  | false =>
   go_wp2_with fail
   with_reducible refine (HD.out w1 ht1).mono ?_
   rintro r w2 ⟨d, rfl, hd, ht2, hfr⟩
   have HDD := Lib.hid hd
   have HFR := Lib.hid hfr
   obtain ⟨Ad, nd, cd, rfl⟩ := hd.form3
   have b3 := HB1.out.touch ht2 (by simp)
   have q0 := b3.cell 0
   have q1 := b3.cell 1
   have f0 := b3.frozen 0
   have f1 := b3.frozen 1
   simp at q0 q1
   have ht3 := ht1.then0 ht2
   clear hd hfr
   go_wp2_with fail
   have k := b3.int2 (.bool false) (.slice Ad nd cd)
   refine bodyPost_ret (v := .tuple #[.agg #[.bool false, .slice Ad nd cd], .int .i64 0]) (by simp [results, Tryz.results126, go_sem, k.1, k.2.1]) rfl (.inl ⟨HN.out, _, _, _, ?_, HDD.out.touch k.2.2 ?_, ht3.step k.2.2 (fun m hm => .inr (by rw [List.mem_singleton] at hm; omega)), fun g hg => Nat.le_trans ht1.size (HFR.out g hg)⟩)
   ·simp [sg]
   ·intro g hg hm
    rw [List.mem_singleton] at hm
    have h1 := HFR.out g hg
    have h2 := HB1.out.lt
    omega
  | true =>
   go_wp2_with fail
   with_reducible refine (HD.out w1 ht1).mono ?_
   rintro r w2 ⟨d, rfl, hd, ht2, hfr⟩
   have HDD := Lib.hid hd
   have HFR := Lib.hid hfr
   obtain ⟨Ad, nd, cd, rfl⟩ := hd.form3
   have b3 := HB1.out.touch ht2 (by simp)
   have q0 := b3.cell 0
   have q1 := b3.cell 1
   have f0 := b3.frozen 0
   have f1 := b3.frozen 1
   simp at q0 q1
   have ht3 := ht1.then0 ht2
   clear hd hfr
   go_wp2_with fail
   have k := b3.int2 (.bool (decide (0 < xs.length))) (.slice Ad nd cd)
   refine bodyPost_ret (v := .tuple #[.agg #[.bool (decide (0 < xs.length)), .slice Ad nd cd], .int .i64 0]) (by simp [results, Tryz.results126, go_sem, k.1, k.2.1]) rfl (.inl ⟨HN.out, _, _, _, ?_, HDD.out.touch k.2.2 ?_, ht3.step k.2.2 (fun m hm => .inr (by rw [List.mem_singleton] at hm; omega)), fun g hg => Nat.le_trans ht1.size (HFR.out g hg)⟩)
   ·rw [HP.out]; simp [sg]
   ·intro g hg hm
    rw [List.mem_singleton] at hm
    have h1 := HFR.out g hg
    have h2 := HB1.out.lt
    omega
theorem build_any (neg : Bool) (v : Value) (N : Nat) (w : World) (hv : Words w v (wordsOf B32 N)) (hl : (wordsOf B32 N).length ≤ 100000) : Calls Tryz.prog 126 #[.bool neg, v] w (BuildPost neg N w) := build_w neg v N _ w hv (Lib.hid rfl) hl
end Go.Proofs.YtedpaajpfaoffaaGreatDoor
namespace Go.Proofs.YtedpaajpfaoffaaGreatDoor
open Go.RowKit
theorem okI_dg {n : Bool} {A : Nat} (h : A < Top) (hn : n = true → 0 < A) : okI n (dg A) = true := by
 rcases Nat.eq_zero_or_pos A with h0 | h0
 ·subst h0
  rw [dg_zero]
  cases n with
  | false => rfl
  | true => exact absurd (hn rfl) (by omega)
 ·obtain ⟨d, l, e, hd⟩ := dg_head h0
  have := top_dg.2 h
  rw [e] at this ⊢
  unfold okI
  simp [hd]
  simpa using this
theorem len_b32 {A : Nat} (h : A < Top) : (wordsOf B32 A).length ≤ 100000 := by
 have : (wordsOf B32 A).length ≤ 16 := by
  rw [len_le B32_le]
  have e : B32 ^ 16 = Top := by
   unfold B32 Top
   rw [show (4294967296 : Nat) = 256 ^ 4 from rfl, ← Nat.pow_mul]
  rw [e]
  exact h
 omega
theorem len_dg {A : Nat} (h : A < Top) : (dg A).length ≤ 64 := top_dg.2 h
theorem natOf_dg (d : Value) (A : Nat) (w : World) (hd : Dgs w d (dg A)) (h : A < Top) : Calls Tryz.prog 124 #[d] w fun r w' => ∃ v, r = .returned v ∧ Words w' v (wordsOf B32 A) ∧ Touch [] w w' := by
 have := natOf_any d _ w hd (by have := len_dg h; omega)
 rwa [dv_dg] at this
def ICell (W : World) (g : Nat) (n : Bool) (d : Value) : Prop := W.cell? ⟨g, 0, none⟩ = some (.bool n) ∧ W.cell? ⟨g, 1, none⟩ = some d
theorem Blk.icell {w w' : World} {g : Nat} {t : TypeId} {n : Bool} {d : Value} (h : Blk w g t #[.bool n, d]) (ht : Touch [] w w') : ICell w' g n d := by
 have h := h.touch ht (by simp)
 exact ⟨(h.cell 0).trans rfl, (h.cell 1).trans rfl⟩
abbrev W1I (w : World) (n1 : Bool) (d1 : Value) : World := w.alloc (.cells #[.bool n1, d1] 32)
abbrev W2I (w : World) (n1 : Bool) (d1 : Value) (n2 : Bool) (d2 : Value) : World := (w.alloc (.cells #[.bool n1, d1] 32)).alloc (.cells #[.bool n2, d2] 32)
theorem box1 (w : World) (n1 : Bool) (d1 : Value) : Touch [] w (W1I w n1 d1) ∧ ∀ W, Touch [] (W1I w n1 d1) W → ICell W w.heap.size n1 d1 := by
 have b1 : Blk (W1I w n1 d1) w.heap.size 32 #[.bool n1, d1] := Blk.new _ _ _
 exact ⟨(Touch.refl _ _).alloc _, fun W t => b1.icell t⟩
theorem box2 (w : World) (n1 n2 : Bool) (d1 d2 : Value) : Touch [] w (W2I w n1 d1 n2 d2) ∧ ∀ W, Touch [] (W2I w n1 d1 n2 d2) W → ICell W w.heap.size n1 d1 ∧ ICell W (w.heap.size + 1) n2 d2 := by
 have b1 : Blk (W1I w n1 d1) w.heap.size 32 #[.bool n1, d1] := Blk.new _ _ _
 have b2 : Blk (W2I w n1 d1 n2 d2) (w.heap.size + 1) 32 #[.bool n2, d2] := by
  have := Blk.new (W1I w n1 d1) 32 #[.bool n2, d2]
  simpa using this
 exact ⟨((Touch.refl _ _).alloc _).alloc _, fun W t => ⟨(b1.alloc _).icell t, b2.icell t⟩⟩
theorem nCmp_any (d1 d2 : Value) (A B : Nat) (w : World) (h1 : Dgs w d1 (dg A)) (h2 : Dgs w d2 (dg B)) (hA : A < Top) (hB : B < Top) : Calls Tryz.prog 78 #[.agg #[.bool false, d1], .agg #[.bool false, d2]] w fun r w' => r = .returned (.int .i64 (cmpI A B)) ∧ Touch [] w w' := by
 have HV1 := Lib.hid (fun W (t : Touch [] w W) => okI_dg (n := false) hA (by simp) ▸ nValid_any false d1 _ W (h1.touch0 t))
 have HV2 := Lib.hid (fun W (t : Touch [] w W) => okI_dg (n := false) hB (by simp) ▸ nValid_any false d2 _ W (h2.touch0 t))
 have HN1 := Lib.hid (fun W (t : Touch [] w W) => natOf_dg d1 A W (h1.touch0 t) hA)
 have HN2 := Lib.hid (fun W (t : Touch [] w W) => natOf_dg d2 B W (h2.touch0 t) hB)
 obtain ⟨A1, n1, c1, rfl⟩ := h1.form3
 obtain ⟨A2, n2, c2, rfl⟩ := h2.form3
 obtain ⟨ht0, hcc⟩ := box2 w false false (.slice A1 n1 c1) (.slice A2 n2 c2)
 unfold W2I at ht0 hcc
 have HC := Lib.hid hcc
 clear h1 h2 hA hB hcc
 go_enter Tryz.func78, Tryz.ntmps78
 go_wp2_with fail
 generalize ((w.alloc (.cells #[.bool false, .slice A1 n1 c1] 32)).alloc (.cells #[.bool false, .slice A2 n2 c2] 32)) = w0 at *
 with_reducible refine (HV1.out w0 ht0).mono ?_
 rintro r w1 ⟨rfl, ht1⟩
 obtain ⟨⟨p0, p1⟩, ⟨p2, p3⟩⟩ := HC.out w1 ht1
 dsimp only
 go_wp2_with fail
 with_reducible refine (HV2.out w1 (ht0.then0 ht1)).mono ?_
 rintro r w2 ⟨rfl, ht2⟩
 replace ht2 := ht1.then0 ht2
 clear p0 p1 p2 p3 ht1
 obtain ⟨⟨p0, p1⟩, ⟨p2, p3⟩⟩ := HC.out w2 ht2
 dsimp only
 go_wp2_with fail
 have hT := ht2.drew
 have HT0 := Lib.hid ht0
 clear ht0 ht2
 go_region_held3 (fun W' => W'.cell? ⟨w.heap.size, 1, none⟩ = some (.slice A1 n1 c1) ∧ W'.cell? ⟨w.heap.size + 1, 1, none⟩ = some (.slice A2 n2 c2)) (exact ⟨(HC.out _ hT).1.2, (HC.out _ hT).2.2⟩) (first
  | (go_at_call 124; (first
    | (with_reducible refine (HN1.out _ (HT0.out.then0 hT)).mono ?_; rintro r w6 ⟨v6, rfl, hw6, ht6⟩; (try dsimp only); have HA := Lib.hid hw6; obtain ⟨A6, n6, c6, rfl⟩ := hw6.form3; (try replace HB := Lib.hid (HB.out.touch0 ht6)))
    | (with_reducible refine (HN2.out _ (HT0.out.then0 hT)).mono ?_; rintro r w6 ⟨v6, rfl, hw6, ht6⟩; (try dsimp only); have HB := Lib.hid hw6; obtain ⟨A6, n6, c6, rfl⟩ := hw6.form3; (try replace HA := Lib.hid (HA.out.touch0 ht6)))); replace hT := hT.then0 ht6; clear ht6 hw6)
  | (go_at_call 127; with_reducible refine (compareNat_any _ _ A B _ HA.out HB.out).mono ?_; rintro r w6 ⟨rfl, ht6⟩; (try dsimp only); replace hT := hT.then0 ht6; clear ht6))
 all_goals
  obtain ⟨⟨p0, p1⟩, ⟨p2, p3⟩⟩ := HC.out _ hT
  go_wp2_with fail
  go_ret
  exact ⟨rfl, HT0.out.then0 hT⟩
end Go.Proofs.YtedpaajpfaoffaaGreatDoor
namespace Go.Proofs.YtedpaajpfaoffaaGreatDoor
open Go.RowKit
def sgnI (n : Bool) (ds : List Nat) : Int := if okI n ds = false ∨ ds.length = 0 then 0 else if n then -1 else 1
theorem nSign_any (n : Bool) (d : Value) (ds : List Nat) (w : World) (h : Dgs w d ds) : Calls Tryz.prog 76 #[.agg #[.bool n, d]] w fun r w' => r = .returned (.int .i64 (sgnI n ds)) ∧ Touch [] w w' := by
 have HV := Lib.hid (fun W (t : Touch [] w W) => nValid_any n d _ W (h.touch0 t))
 have HS : Hid (sgnI n ds = if okI n ds = false ∨ ds.length = 0 then 0 else if n then -1 else 1) := Lib.hid rfl
 obtain ⟨A, c, rfl⟩ := h.form
 obtain ⟨hc1, hc2⟩ := h.cap
 obtain ⟨ht0, hcc⟩ := box1 w n (.slice A ds.length c)
 unfold W1I at ht0 hcc
 have HC := Lib.hid hcc
 generalize okI n ds = ok at *
 generalize sgnI n ds = res at *
 generalize ds.length = l at *
 clear h hcc
 go_enter Tryz.func76, Tryz.ntmps76
 go_wp2_with fail
 generalize (w.alloc (.cells #[.bool n, .slice A l c] 32)) = w0 at *
 with_reducible refine (HV.out w0 ht0).mono ?_
 rintro r w1 ⟨rfl, ht1⟩
 obtain ⟨p0, p1⟩ := HC.out w1 ht1
 dsimp only
 replace ht1 := ht0.then0 ht1
 cases ok with
 | false =>
  go_wp2_with fail
  go_ret
  exact ⟨by rw [HS.out]; simp, ht1⟩
 | true =>
  by_cases hl : l = 0
  ·subst hl
   go_wp2_with fail
   go_ret
   exact ⟨by rw [HS.out]; simp, ht1⟩
  ·have hl' : ((l : Int) == 0) = false := by simp; omega
   cases n with
   | false =>
    go_wp2_with fail
    go_ret
    exact ⟨by rw [HS.out]; simp [hl], ht1⟩
   | true =>
    go_wp2_with fail
    go_ret
    exact ⟨by rw [HS.out]; simp [hl], ht1⟩
def IntAt (w' : World) (n : Bool) (N : Nat) (x : Value) : Prop := ∃ A k c, x = .agg #[.bool n, .slice A k c] ∧ Dgs w' (.slice A k c) (dg N)
theorem words_one : wordsOf B32 1 = [1] := by
 rw [words_pos B32_le (by omega)]
 unfold B32
 rfl
theorem nOf1_any (w : World) : Calls Tryz.prog 79 #[.int .i64 1] w fun r w' => ∃ x, r = .returned x ∧ IntAt w' false 1 x ∧ Touch [] w w' := by
 have b0 : Blk (w.alloc (.cells #[.bool false, .slice none 0 0] 32)) w.heap.size 32 #[.bool false, .slice none 0 0] := Blk.new _ _ _
 have ht0 : Touch [] w (w.alloc (.cells #[.bool false, .slice none 0 0] 32)) := (Touch.refl _ _).alloc _
 go_enter Tryz.func79, Tryz.ntmps79
 go_wp2_with fail
 have hw0 : WB ((w.alloc (.cells #[.bool false, .slice none 0 0] 32)).alloc (.cells #[.int .u32 1, .int .u32 0] 178)) (w.heap.size + 1) [1, 0] := by
  have := Blk.new (w.alloc (.cells #[.bool false, .slice none 0 0] 32)) 178 #[.int .u32 1, .int .u32 0]
  simpa [WB, u32v] using this
 have b1 := b0.alloc (.cells #[.int .u32 1, .int .u32 0] 178)
 have ht1 := ht0.alloc (.cells #[.int .u32 1, .int .u32 0] 178)
 have HT := Lib.hid (trim_any (.slice (some ⟨w.heap.size + 1, 0, none⟩) 2 2) [1, 0] _ (hw0.words (fun x hx => by unfold B32; simp at hx; omega) (by simp [maxLen]) rfl))
 rw [show nv B32 [1, 0] = 1 by simp [nv]] at HT
 clear b0 ht0 hw0
 generalize ((w.alloc (.cells #[.bool false, .slice none 0 0] 32)).alloc (.cells #[.int .u32 1, .int .u32 0] 178)) = w0 at *
 with_reducible refine HT.out.mono ?_
 rintro r w1 ⟨v1, rfl, hw1, _, rfl⟩
 dsimp only
 have HB := Lib.hid (build_any false v1 1 _ hw1 (by rw [words_one]; simp))
 obtain ⟨A1, n1, c1, rfl⟩ := hw1.form3
 clear hw1 HT
 go_wp2_with fail
 with_reducible refine HB.out.mono ?_
 rintro r w2 hpost
 obtain ⟨_, A, n, c, rfl, hd, ht2, hfr⟩ | ⟨h, _⟩ := hpost
 case inr => exact absurd (show 1 < Top by unfold Top; exact Nat.one_lt_pow (by omega) (by omega)) h
 dsimp only
 have b2 := b1.touch ht2 (by simp)
 have ht3 := ht1.then0 ht2
 have q0 := b2.cell 0
 have q1 := b2.cell 1
 have f0 := b2.frozen 0
 have f1 := b2.frozen 1
 simp at q0 q1
 have hlt := b2.lt
 have hne : w.heap.size ≠ w2.heap.size := by omega
 have b3 := b2.alloc (.cells #[.bool (sg false 1), .slice A n c] 32)
 have HD := Lib.hid hd
 have HFR := Lib.hid hfr
 have HB1 := Lib.hid b1.lt
 clear hd HB b1 hfr
 go_wp2_with fail
 obtain ⟨k0, k1, kt⟩ := b2.int2 (.bool (sg false 1)) (.slice A n c)
 have b4 := ((b2.set_ 0 (.bool (sg false 1))).set_ 1 (.slice A n c)).alloc (.cells #[.bool (sg false 1), .slice A n c] 32)
 have k2 := (b4.cell 0).trans (show _ = some (.bool (sg false 1)) by simp)
 have k3 := (b4.cell 1).trans (show _ = some (.slice A n c) by simp)
 refine bodyPost_ret (v := .agg #[.bool (sg false 1), .slice A n c]) (by simp [results, Tryz.results79, go_sem, k2, k3]) rfl ⟨_, rfl, ⟨A, n, c, by simp [sg], ?_⟩, ?_⟩
 ·refine HD.out.touch (kt.alloc _) (fun g hg hm => ?_)
  rw [List.mem_singleton] at hm
  have h1 := HFR.out g hg
  have h2 := HB1.out
  omega
 ·exact (ht3.step kt (fun m hm => .inr (by rw [List.mem_singleton] at hm; omega))).alloc _
end Go.Proofs.YtedpaajpfaoffaaGreatDoor
namespace Go.Proofs.YtedpaajpfaoffaaGreatDoor
open Go.RowKit
theorem divNat_top (v u : Value) (a b : Nat) (w : World) (hv : Words w v (wordsOf B32 a)) (hu : Words w u (wordsOf B32 b)) (ha : a < Top) (hb : b < Top) (hb0 : 0 < b) : Calls Tryz.prog 125 #[v, u] w fun r w' => ∃ q r', r = .returned (.tuple #[q, r']) ∧ Words w' q (wordsOf B32 (a / b)) ∧ Words w' r' (wordsOf B32 (a % b)) ∧ Touch [] w w' := by
 by_cases hlt : a < b
 ·exact divNat_less v u a b w hv hu hlt
 ·have h1 := len_b32 ha
  cases hl : (wordsOf B32 b).length with
  | zero => have := (words_nil_iff B32_le).1 hl; omega
  | succ m =>
   cases m with
   | zero => exact divNat_one v u a b w hv hu hlt hb0 hl (by omega)
   | succ m => exact divNat_long v u a b m _ w hv hu hlt hb0 hl rfl h1
theorem box2r (w : World) (n1 n2 : Bool) (d1 d2 : Value) : Touch [] w ((W2I w n1 d1 n2 d2).alloc (.cells #[.bool false, .slice none 0 0] 32)) ∧ ∀ W, Touch [] ((W2I w n1 d1 n2 d2).alloc (.cells #[.bool false, .slice none 0 0] 32)) W → ICell W w.heap.size n1 d1 ∧ ICell W (w.heap.size + 1) n2 d2 ∧ Blk W (w.heap.size + 1 + 1) 32 #[.bool false, .slice none 0 0] := by
 have b1 : Blk (W1I w n1 d1) w.heap.size 32 #[.bool n1, d1] := Blk.new _ _ _
 have b2 : Blk (W2I w n1 d1 n2 d2) (w.heap.size + 1) 32 #[.bool n2, d2] := by
  have := Blk.new (W1I w n1 d1) 32 #[.bool n2, d2]
  simpa using this
 have b3 : Blk ((W2I w n1 d1 n2 d2).alloc (.cells #[.bool false, .slice none 0 0] 32)) (w.heap.size + 1 + 1) 32 #[.bool false, .slice none 0 0] := by
  have := Blk.new (W2I w n1 d1 n2 d2) 32 #[.bool false, .slice none 0 0]
  simpa using this
 exact ⟨(((Touch.refl _ _).alloc _).alloc _).alloc _, fun W t => ⟨((b1.alloc _).alloc _).icell t, (b2.alloc _).icell t, b3.touch t (by simp)⟩⟩
theorem int_res {w w3 : World} {g N n c : Nat} {t : TypeId} {A : Option Addr} {x0 x1 : Value} (nb : Bool) (b : Blk w3 g t #[x0, x1]) (hg : w.heap.size ≤ g) (ht : Touch [] w w3) (HD : Dgs w3 (.slice A n c) (dg N)) (hfr : ∀ g' ∈ rb (.slice A n c), g < g') :
  ((w3.setCell ⟨g, 0, none⟩ (.bool nb)).setCell ⟨g, 1, none⟩ (.slice A n c)).cell? ⟨g, 0, none⟩ = some (.bool nb) ∧ ((w3.setCell ⟨g, 0, none⟩ (.bool nb)).setCell ⟨g, 1, none⟩ (.slice A n c)).cell? ⟨g, 1, none⟩ = some (.slice A n c) ∧ IntAt ((w3.setCell ⟨g, 0, none⟩ (.bool nb)).setCell ⟨g, 1, none⟩ (.slice A n c)) nb N (.agg #[.bool nb, .slice A n c]) ∧ Touch [] w ((w3.setCell ⟨g, 0, none⟩ (.bool nb)).setCell ⟨g, 1, none⟩ (.slice A n c)) := by
 obtain ⟨k0, k1, kt⟩ := b.int2 (.bool nb) (.slice A n c)
 refine ⟨k0, k1, ⟨A, n, c, rfl, HD.touch kt (fun g' hg' hm => ?_)⟩, ht.step kt (fun m hm => .inr (by rw [List.mem_singleton] at hm; omega))⟩
 rw [List.mem_singleton] at hm
 have := hfr g' hg'
 omega
def GcdRel (w : World) (A B : Nat) (k : Nat) (tx ty : Value) (wr : World) : Prop := ∃ (a b : Nat) (A1 A2 : Option Addr) (n1 c1 n2 c2 : Nat), k = b ∧ tx = .slice A1 n1 c1 ∧ ty = .slice A2 n2 c2 ∧ n2 = (wordsOf B32 b).length ∧ Hid (Words wr (.slice A1 n1 c1) (wordsOf B32 a)) ∧ Hid (Words wr (.slice A2 n2 c2) (wordsOf B32 b)) ∧ Hid (Nat.gcd a b = Nat.gcd A B ∧ a < Top ∧ b < Top) ∧ Touch [] w wr
theorem nGcd_any (n1 n2 : Bool) (d1 d2 : Value) (A B : Nat) (w : World) (h1 : Dgs w d1 (dg A)) (h2 : Dgs w d2 (dg B)) (hA : A < Top) (hB : B < Top) (s1 : n1 = true → 0 < A) (s2 : n2 = true → 0 < B) :
  Calls Tryz.prog 77 #[.agg #[.bool n1, d1], .agg #[.bool n2, d2]] w fun r w' => ∃ x, r = .returned (.tuple #[x, .int .i64 0]) ∧ IntAt w' false (Nat.gcd A B) x ∧ Touch [] w w' := by
 have HV1 := Lib.hid (fun W (t : Touch [] w W) => okI_dg (n := n1) hA s1 ▸ nValid_any n1 d1 _ W (h1.touch0 t))
 have HV2 := Lib.hid (fun W (t : Touch [] w W) => okI_dg (n := n2) hB s2 ▸ nValid_any n2 d2 _ W (h2.touch0 t))
 have HN1 := Lib.hid (fun W (t : Touch [] w W) => natOf_dg d1 A W (h1.touch0 t) hA)
 have HN2 := Lib.hid (fun W (t : Touch [] w W) => natOf_dg d2 B W (h2.touch0 t) hB)
 have HAB := Lib.hid (And.intro hA hB)
 obtain ⟨A1, m1, c1, rfl⟩ := h1.form3
 obtain ⟨A2, m2, c2, rfl⟩ := h2.form3
 obtain ⟨ht0, hcc⟩ := box2r w n1 n2 (.slice A1 m1 c1) (.slice A2 m2 c2)
 unfold W2I at ht0 hcc
 have HC := Lib.hid hcc
 clear h1 h2 hA hB s1 s2 hcc
 go_enter Tryz.func77, Tryz.ntmps77
 go_wp2_with fail
 generalize (((w.alloc (.cells #[.bool n1, .slice A1 m1 c1] 32)).alloc (.cells #[.bool n2, .slice A2 m2 c2] 32)).alloc (.cells #[.bool false, .slice none 0 0] 32)) = w0 at *
 with_reducible refine (HV1.out w0 ht0).mono ?_
 rintro r w1 ⟨rfl, ht1⟩
 obtain ⟨⟨p0, p1⟩, ⟨p2, p3⟩, _⟩ := HC.out w1 ht1
 dsimp only
 go_wp2_with fail
 with_reducible refine (HV2.out w1 (ht0.then0 ht1)).mono ?_
 rintro r w2 ⟨rfl, ht2⟩
 replace ht2 := ht1.then0 ht2
 clear p0 p1 p2 p3 ht1
 dsimp only
 go_wp2_with fail
 have hT := ht2.drew
 have HT0 := Lib.hid ht0
 clear ht0 ht2
 go_region_held3 (fun W' => W'.cell? ⟨w.heap.size, 1, none⟩ = some (.slice A1 m1 c1) ∧ W'.cell? ⟨w.heap.size + 1, 1, none⟩ = some (.slice A2 m2 c2)) (exact ⟨(HC.out _ hT).1.2, (HC.out _ hT).2.1.2⟩) (first
  | (go_at_call 124; (first
    | (with_reducible refine (HN1.out _ (HT0.out.then0 hT)).mono ?_; rintro r w6 ⟨v6, rfl, hw6, ht6⟩; (try dsimp only); have HA := Lib.hid hw6; obtain ⟨A6, n6, c6, e6⟩ := hw6.form3; subst e6; (try replace HB := Lib.hid (HB.out.touch0 ht6)))
    | (with_reducible refine (HN2.out _ (HT0.out.then0 hT)).mono ?_; rintro r w6 ⟨v6, rfl, hw6, ht6⟩; (try dsimp only); have HB := Lib.hid hw6; obtain ⟨A7, c7, e7⟩ := hw6.form; subst e7; (try replace HA := Lib.hid (HA.out.touch0 ht6)))); replace hT := hT.then0 ht6; clear ht6 hw6))
 all_goals
  have HAW : Hid (Words w6 (.slice A6 n6 c6) (wordsOf B32 A)) := HA
  go_wp2_with fail
  go_loopg [6, 7] B (fun k tx ty wr => GcdRel w0 A B k tx ty wr)
  case atStart => exact ⟨A, B, A6, A7, n6, c6, _, c7, rfl, rfl, rfl, rfl, HAW, HB, Lib.hid ⟨rfl, HAB.out.1, HAB.out.2⟩, hT⟩
  case round =>
   clear HAW HB HA hT
   obtain ⟨a, b, X1, X2, l1, k1, l2, k2, rfl, rfl, rfl, hl, H1, H2, HG, ht⟩ := hrel
   by_cases h0 : gk = 0
   ·subst h0
    have hl0 : l2 = 0 := by rw [hl]; rfl
    subst hl0
    have HBL := Lib.hid (build_any false (.slice X1 l1 k1) a wr H1.out (len_b32 HG.out.2.1))
    have HGG : Hid (a = Nat.gcd A B) := Lib.hid (by have := HG.out.1; simpa using this)
    clear hl
    go_wp2_with fail
    with_reducible refine HBL.out.mono ?_
    rintro r w3 hpost
    obtain ⟨_, A3, n3, c3, rfl, hd, ht3, hfr⟩ | ⟨h, _⟩ := hpost
    case inr => exact absurd HG.out.2.1 h
    dsimp only
    have ht4 := ht.then0 ht3
    have b2 := (HC.out _ ht4).2.2
    have q0 := b2.cell 0
    have q1 := b2.cell 1
    have f0 := b2.frozen 0
    have f1 := b2.frozen 1
    simp at q0 q1
    have HLT := Lib.hid (HC.out _ ht).2.2.lt
    have HD := Lib.hid hd
    have HFR := Lib.hid hfr
    clear hd hfr ht3
    have HT4 := Lib.hid (HT0.out.then0 ht4)
    have HZ := Lib.hid HT0.out.size
    have HBB := Lib.hid b2
    go_wp2_with fail
    obtain ⟨k0, k1, k2, k3⟩ := int_res (N := Nat.gcd A B) (sg false a) HBB.out (by have := HZ.out; omega) HT4.out (by rw [← HGG.out]; exact HD.out) (fun g hg => by have := HFR.out g hg; have := HLT.out; omega)
    refine bodyPost_ret (v := .tuple #[.agg #[.bool (sg false a), .slice A3 n3 c3], .int .i64 0]) (by simp [results, Tryz.results77, go_sem, k0, k1]) rfl ⟨_, rfl, ?_, k3⟩
    simpa [sg] using k2
   ·have hl0 : (0 : Int) < (l2 : Int) := by
     have := words_nil_iff B32_le (N := gk)
     rw [← hl] at this
     omega
    have hgk : 0 < gk := by omega
    have HD := Lib.hid (divNat_top _ _ a gk wr H1.out H2.out HG.out.2.1 HG.out.2.2 hgk)
    have HGK := Lib.hid hgk
    have HM := Lib.hid (Nat.mod_lt a hgk)
    clear hl h0 hgk
    go_wp2_with fail
    with_reducible refine HD.out.mono ?_
    rintro r w3 ⟨q, r', rfl, hq, hr, ht3⟩
    dsimp only
    have ht4 := ht.then0 ht3
    obtain ⟨Aq, nq, cq, rfl⟩ := hq.form3
    have HR := Lib.hid hr
    obtain ⟨Ar, cr, rfl⟩ := hr.form
    have H2' := Lib.hid (H2.out.touch0 ht3)
    clear hq hr ht3
    go_wp2_with fail
    go_roundg (a % gk)
    case measure => exact HM.out
    case rel => exact ⟨gk, a % gk, X2, Ar, l2, k2, _, cr, rfl, rfl, rfl, rfl, H2', HR, Lib.hid ⟨by rw [← HG.out.1, Nat.gcd_comm a gk, Nat.gcd_rec gk a, Nat.gcd_comm], HG.out.2.2, Nat.lt_trans HM.out HG.out.2.2⟩, ht4⟩
end Go.Proofs.YtedpaajpfaoffaaGreatDoor
