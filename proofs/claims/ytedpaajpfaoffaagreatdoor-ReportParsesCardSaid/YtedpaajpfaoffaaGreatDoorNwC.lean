/- math/bits.LeadingZeros32; long division in plain numbers. -/
import Derived.Test.YtedpaajpfaoffaaGreatDoorNw10
import Derived.Test.YtedpaajpfaoffaaGreatDoorNwA
import Derived.Lib.BitFns
set_option linter.all false
set_option maxHeartbeats 8000000
set_option maxRecDepth 100000
namespace Go.Proofs.YtedpaajpfaoffaaGreatDoor
open Go.RowKit
theorem bitLen_bounds : ∀ (k x : Nat), x ≠ 0 → x < 2 ^ k → k ≤ 64 → 2 ^ (Lib.bitLen x - 1) ≤ x ∧ x < 2 ^ Lib.bitLen x ∧ 1 ≤ Lib.bitLen x
 | 0, x, h0, h, _ => by simp at h; omega
 | k + 1, x, h0, h, hk => by
  have h64 : x < 2 ^ 64 := Nat.lt_of_lt_of_le h (Nat.pow_le_pow_right (by omega) hk)
  rw [Lib.bitLen_half x h0 h64]
  by_cases h1 : x / 2 = 0
  ·have : x = 1 := by omega
   subst this
   decide
  ·obtain ⟨i1, i2, i3⟩ := bitLen_bounds k (x / 2) h1 (by rw [Nat.div_lt_iff_lt_mul (by omega)]; rw [Nat.pow_succ] at h; exact h) (by omega)
   generalize Lib.bitLen (x / 2) = b at *
   obtain ⟨c, rfl⟩ : ∃ c, b = c + 1 := ⟨b - 1, by omega⟩
   refine ⟨?_, ?_, by omega⟩
   ·rw [show 1 + (c + 1) - 1 = c + 1 by omega, Nat.pow_succ]
    simp only [Nat.add_sub_cancel] at i1
    omega
   ·rw [show 1 + (c + 1) = (c + 1) + 1 by omega, Nat.pow_succ]
    omega
def lz (x : Nat) : Nat := 32 - Lib.bitLen x
theorem lz_le (x : Nat) (h0 : x ≠ 0) (h : x < 4294967296) : lz x < 32 ∧ 4294967296 ≤ 2 * (x * 2 ^ lz x) ∧ x * 2 ^ lz x < 4294967296 ∧ Lib.bitLen x ≤ 32 := by
 obtain ⟨h1, h2, h3⟩ := bitLen_bounds 32 x h0 h (by omega)
 have h4 := Lib.bitLen_le x 32 (by omega) h
 unfold lz
 generalize Lib.bitLen x = b at *
 obtain ⟨c, rfl⟩ : ∃ c, b = c + 1 := ⟨b - 1, by omega⟩
 simp only [Nat.add_sub_cancel] at h1
 have e1 : 2 ^ c * 2 ^ (32 - (c + 1)) = 2 ^ 31 := by rw [← Nat.pow_add]; congr 1; omega
 have e2 : 2 ^ (c + 1) * 2 ^ (32 - (c + 1)) = 2 ^ 32 := by rw [← Nat.pow_add]; congr 1; omega
 have m1 : 2 ^ c * 2 ^ (32 - (c + 1)) ≤ x * 2 ^ (32 - (c + 1)) := Nat.mul_le_mul_right _ h1
 have m2 : x * 2 ^ (32 - (c + 1)) < 2 ^ (c + 1) * 2 ^ (32 - (c + 1)) := Nat.mul_lt_mul_of_pos_right h2 (Nat.pow_pos (by omega))
 rw [e1] at m1
 rw [e2] at m2
 refine ⟨by omega, ?_, ?_, h4⟩
 ·have : (2 : Nat) ^ 31 = 2147483648 := by decide
  omega
 ·have : (2 : Nat) ^ 32 = 4294967296 := by decide
  omega
theorem leadingZeros_any (x : Nat) (w : World) (h : x < 4294967296) (h0 : x ≠ 0) : Calls Tryz.prog 171 #[.int .u32 x] w fun e w' => e = .returned (.int .i64 (lz x : Nat)) ∧ w' = w := by
 refine (Tryz.bits_LeadingZeros32 (x : Int) w (by omega) (by omega)).mono ?_
 rintro e w' ⟨rfl, rfl⟩
 have hb := (lz_le x h0 h).2.2.2
 refine ⟨congrArg Ending.returned (congrArg (Value.int IntKind.i64) ?_), rfl⟩
 rw [show (x : Int).toNat = x by omega]
 unfold lz
 omega
section
variable {B : Nat}
def Long (B j V : Nat) (U0 us qs : List Nat) : Prop := nv B (U0.drop j) = nv B (qs.drop j) * V + nv B (us.drop j) ∧ nv B (us.drop j) < V ∧ us.take j = U0.take j ∧ us.length = U0.length ∧ Below_ B us ∧ Below_ B qs
theorem long_step {j V n : Nat} {U0 us qs us' : List Nat} (h : Long B (j + 1) V U0 us qs) (hj : j < U0.length) (hV : V ≤ B ^ n) (hjn : j + n + 1 ≤ U0.length) :
  nv B ((us.drop j).take (n + 1)) = nv B (us.drop j) ∧ nv B ((us.drop j).take (n + 1)) < B * V ∧ ((us.drop j).take (n + 1)).length = n + 1 ∧ us = us.take j ++ (us.drop j).take (n + 1) ++ us.drop (j + n + 1) := by
 obtain ⟨h1, h2, h3, h4, h5, h6⟩ := h
 have hju : j < us.length := by omega
 have bx := h5 _ (List.getElem_mem hju)
 have hd := nv_drop (B := B) hju
 have hlt : nv B (us.drop j) < B * V := by
  rw [hd]
  have : B * (nv B (us.drop (j + 1)) + 1) ≤ B * V := Nat.mul_le_mul_left _ h2
  rw [Nat.mul_add] at this
  omega
 have hlt2 : nv B (us.drop j) < B ^ (n + 1) := Nat.lt_of_lt_of_le hlt (by rw [Nat.pow_succ, Nat.mul_comm]; exact Nat.mul_le_mul_right _ hV)
 have hs := nv_split (B := B) (us.drop j) (n + 1) (by simp; omega)
 have hz : nv B ((us.drop j).drop (n + 1)) = 0 := by
  rcases Nat.eq_zero_or_pos (nv B ((us.drop j).drop (n + 1))) with h | h
  ·exact h
  ·have : B ^ (n + 1) * 1 ≤ B ^ (n + 1) * nv B ((us.drop j).drop (n + 1)) := Nat.mul_le_mul_left _ h
   omega
 rw [hz, Nat.mul_zero, Nat.add_zero] at hs
 refine ⟨hs.symm, by rw [← hs]; exact hlt, by simp; omega, ?_⟩
 rw [List.append_assoc, show us.drop (j + n + 1) = (us.drop j).drop (n + 1) by rw [List.drop_drop, ← Nat.add_assoc], List.take_append_drop, List.take_append_drop]
theorem long_next {j V n : Nat} {U0 us qs us' : List Nat} (h : Long B (j + 1) V U0 us qs) (hB : 2 ≤ B) (hj : j < U0.length) (hV0 : 0 < V) (hV : V ≤ B ^ n) (hjn : j + n + 1 ≤ U0.length) (hq : j < qs.length) (hl : us'.length = n + 1) (hb : Below_ B us')
  (hr : nv B us' = nv B ((us.drop j).take (n + 1)) % V) :
  Long B j V U0 (us.take j ++ us' ++ us.drop (j + n + 1)) (qs.set j (nv B ((us.drop j).take (n + 1)) / V)) := by
 obtain ⟨e1, e2, e3, e4⟩ := long_step (us' := us') h hj hV hjn
 obtain ⟨h1, h2, h3, h4, h5, h6⟩ := h
 have hju : j < us.length := by omega
 have hd := nv_drop (B := B) hju
 have hd0 := nv_drop (B := B) hj
 have hx : us[j] = U0[j] := by
  have := congrArg (fun l => l[j]?) h3
  simp only [List.getElem?_take, Nat.lt_succ_self, if_true, List.getElem?_eq_getElem hju, List.getElem?_eq_getElem hj] at this
  exact Option.some.inj this
 rw [e1] at hr e2 ⊢
 have hqb : nv B (us.drop j) / V < B := by rw [Nat.div_lt_iff_lt_mul hV0]; exact e2
 have hs := nv_split (B := B) (us.drop j) (n + 1) (by simp; omega)
 rw [e1] at hs
 have hz : B ^ (n + 1) * nv B (us.drop (j + n + 1)) = 0 := by
  rw [List.drop_drop, show j + (n + 1) = j + n + 1 by omega] at hs
  omega
 have htl : (us.take j).length = j := by simp; omega
 have hdrop : (us.take j ++ us' ++ us.drop (j + n + 1)).drop j = us' ++ us.drop (j + n + 1) := by
  rw [List.append_assoc, List.drop_append_of_le_length (by omega), List.drop_of_length_le (by omega), List.nil_append]
 have hnew : nv B ((us.take j ++ us' ++ us.drop (j + n + 1)).drop j) = nv B (us.drop j) % V := by
  rw [hdrop, nv_append, hl, hz, Nat.add_zero, hr]
 refine ⟨?_, by rw [hnew]; exact Nat.mod_lt _ hV0, ?_, ?_, ?_, below_set h6 hqb⟩
 ·rw [hnew, hd0, h1, ← hx]
  have hq2 : nv B ((qs.set j (nv B (us.drop j) / V)).drop j) = nv B (us.drop j) / V + B * nv B (qs.drop (j + 1)) := by
   rw [nv_drop (B := B) (by simpa using hq)]
   simp only [List.getElem_set_self, List.drop_set_of_lt (Nat.lt_succ_self j)]
  rw [hq2, Nat.add_mul]
  have hdm := Nat.div_add_mod (nv B (us.drop j)) V
  rw [Nat.mul_comm V] at hdm
  have e5 : B * (nv B (qs.drop (j + 1)) * V + nv B (us.drop (j + 1))) = B * nv B (qs.drop (j + 1)) * V + B * nv B (us.drop (j + 1)) := by rw [Nat.mul_add, Nat.mul_assoc]
  rw [e5]
  omega
 ·rw [List.append_assoc, List.take_append_of_le_length (by omega), List.take_take]
  have := congrArg (List.take j) h3
  simpa [List.take_take, Nat.min_eq_left (Nat.le_succ j)] using this
 ·simp [hl]; omega
 ·intro y hy
  rw [List.mem_append, List.mem_append] at hy
  rcases hy with (hy | hy) | hy
  ·exact h5 y (List.mem_of_mem_take hy)
  ·exact hb y hy
  ·exact h5 y (List.mem_of_mem_drop hy)
theorem long_new {k m V : Nat} {U0 : List Nat} (hB : 2 ≤ B) (hb : Below_ B U0) (hk : k ≤ U0.length) (hlt : nv B (U0.drop k) < V) (hm : m = k) : Long B k V U0 U0 (List.replicate m 0) :=
 ⟨by rw [List.drop_of_length_le (l := List.replicate m 0) (by rw [List.length_replicate]; omega)]; simp [nv], hlt, rfl, rfl, hb, fun x hx => by rw [List.eq_of_mem_replicate hx]; omega⟩
theorem long_done {V : Nat} {U0 us qs : List Nat} (h : Long B 0 V U0 us qs) (hV : 0 < V) : nv B qs = nv B U0 / V ∧ nv B us = nv B U0 % V := by
 obtain ⟨h1, h2, h3, h4, h5, h6⟩ := h
 simp only [List.drop_zero] at h1 h2
 rw [h1]
 exact ⟨by rw [Nat.mul_comm, Nat.mul_add_div hV, Nat.div_eq_of_lt h2, Nat.add_zero], by rw [Nat.mul_comm, Nat.mul_add_mod, Nat.mod_eq_of_lt h2]⟩
end
end Go.Proofs.YtedpaajpfaoffaaGreatDoor
namespace Go.Proofs.YtedpaajpfaoffaaGreatDoor
open Go.RowKit
theorem top_word {b m : Nat} (hl : (wordsOf B32 b).length = m + 2) : (wordsOf B32 b)[m + 1]'(by omega) ≠ 0 ∧ (wordsOf B32 b)[m + 1]'(by omega) < 4294967296 ∧ (wordsOf B32 b)[m + 1]'(by omega) * B32 ^ (m + 1) ≤ b ∧ b < ((wordsOf B32 b)[m + 1]'(by omega) + 1) * B32 ^ (m + 1) := by
 have hb := words_below B32_le b
 have hc := words_canon B32_le b
 have hn := nv_words B32_le b
 have hne : wordsOf B32 b ≠ [] := fun e => by rw [e] at hl; simp at hl
 have h1 : (wordsOf B32 b)[m + 1]'(by omega) ≠ 0 := by
  have := hc hne
  rw [List.getLast_eq_getElem] at this
  simpa [hl] using this
 have h2 := nv_take_succ (B := B32) (xs := wordsOf B32 b) (i := m + 1) (by omega)
 rw [List.take_of_length_le (by omega), hn] at h2
 have h3 := nv_lt (below_take hb (m + 1))
 rw [List.length_take, Nat.min_eq_left (by omega)] at h3
 refine ⟨h1, hb _ (List.getElem_mem _), ?_, ?_⟩
 ·rw [Nat.mul_comm]; omega
 ·rw [Nat.add_mul, Nat.one_mul, Nat.mul_comm]; omega
theorem div_norm {b m : Nat} {zs : List Nat} (hl : (wordsOf B32 b).length = m + 2) (hz : zs.length = m + 3) (hb : Below_ B32 zs) (hn : nv B32 zs = 2 ^ lz ((wordsOf B32 b)[m + 1]'(by omega)) * b) :
  nv B32 (zs.take (m + 2)) = 2 ^ lz ((wordsOf B32 b)[m + 1]'(by omega)) * b ∧ B32 ≤ 2 * (zs.take (m + 2))[m + 1]'(by simp; omega) ∧ 2 ^ lz ((wordsOf B32 b)[m + 1]'(by omega)) * b < B32 ^ (m + 2) ∧ lz ((wordsOf B32 b)[m + 1]'(by omega)) < 32 := by
 obtain ⟨t0, t1, t2, t3⟩ := top_word hl
 generalize (wordsOf B32 b)[m + 1]'(by omega) = t at *
 obtain ⟨l1, l2, l3, _⟩ := lz_le t t0 t1
 generalize lz t = s at *
 have hlt : 2 ^ s * b < B32 ^ (m + 2) := by
  have h1 : 2 ^ s * b < 2 ^ s * ((t + 1) * B32 ^ (m + 1)) := Nat.mul_lt_mul_of_pos_left t3 (Nat.pow_pos (by omega))
  have h2 : 2 ^ s * (t + 1) ≤ B32 := by
   have e : (4294967296 : Nat) = 2 ^ s * 2 ^ (32 - s) := by rw [← Nat.pow_add, show s + (32 - s) = 32 by omega]
   have h3 : t < 2 ^ (32 - s) := by
    rw [e, Nat.mul_comm] at l3
    exact Nat.lt_of_mul_lt_mul_left l3
   calc 2 ^ s * (t + 1) ≤ 2 ^ s * 2 ^ (32 - s) := Nat.mul_le_mul_left _ h3
    _ = B32 := by unfold B32; exact e.symm
  have h4 : 2 ^ s * ((t + 1) * B32 ^ (m + 1)) ≤ B32 * B32 ^ (m + 1) := by rw [← Nat.mul_assoc]; exact Nat.mul_le_mul_right _ h2
  rw [show B32 ^ (m + 2) = B32 * B32 ^ (m + 1) by rw [Nat.pow_succ, Nat.mul_comm]]
  omega
 have hs := nv_split (B := B32) zs (m + 2) (by omega)
 have hd : nv B32 (zs.drop (m + 2)) = 0 := by
  rcases Nat.eq_zero_or_pos (nv B32 (zs.drop (m + 2))) with h | h
  ·exact h
  ·have : B32 ^ (m + 2) * 1 ≤ B32 ^ (m + 2) * nv B32 (zs.drop (m + 2)) := Nat.mul_le_mul_left _ h
   omega
 rw [hd, Nat.mul_zero, Nat.add_zero] at hs
 refine ⟨by rw [← hs]; exact hn, ?_, hlt, l1⟩
 have h5 := nv_take_succ (B := B32) (xs := zs.take (m + 2)) (i := m + 1) (by simp; omega)
 rw [List.take_of_length_le (l := zs.take (m + 2)) (by simp; omega)] at h5
 have h6 := nv_lt (below_take (below_take hb (m + 2)) (m + 1))
 rw [List.length_take, List.length_take, Nat.min_eq_left (a := m + 2) (by omega), Nat.min_eq_left (by omega)] at h6
 generalize (zs.take (m + 2))[m + 1]'(by simp; omega) = top at *
 have h7 : 2 ^ s * (t * B32 ^ (m + 1)) ≤ 2 ^ s * b := Nat.mul_le_mul_left _ t2
 have h8 : 2 ^ s * t * B32 ^ (m + 1) < (top + 1) * B32 ^ (m + 1) := by
  rw [Nat.mul_assoc, Nat.add_mul, Nat.one_mul, Nat.mul_comm top]
  rw [← hs] at h5
  omega
 have h9 : 2 ^ s * t < top + 1 := Nat.lt_of_mul_lt_mul_right h8
 rw [Nat.mul_comm] at h9
 unfold B32
 omega
theorem div_start {a b m s L : Nat} {zs : List Nat} (hl : (wordsOf B32 b).length = m + 2) (hL : (wordsOf B32 a).length = L) (hle : m + 2 ≤ L) (hz : zs.length = L + 1) (hb : Below_ B32 zs) (hn : nv B32 zs = 2 ^ s * a) :
  nv B32 (zs.drop (L - (m + 2) + 1)) < 2 ^ s * b := by
 obtain ⟨t0, t1, t2, t3⟩ := top_word hl
 have ha := nv_lt (words_below B32_le a)
 rw [nv_words B32_le, hL] at ha
 have hs := nv_split (B := B32) zs (L - (m + 2) + 1) (by omega)
 have hp : 0 < B32 ^ (L - (m + 2) + 1) := Nat.pow_pos (by unfold B32; omega)
 have h1 : B32 ^ (L - (m + 2) + 1) * nv B32 (zs.drop (L - (m + 2) + 1)) ≤ 2 ^ s * a := by rw [← hn, hs]; omega
 have h2 : 2 ^ s * a < 2 ^ s * B32 ^ L := Nat.mul_lt_mul_of_pos_left ha (Nat.pow_pos (by omega))
 have h3 : B32 ^ L = B32 ^ (L - (m + 2) + 1) * B32 ^ (m + 1) := by rw [← Nat.pow_add]; congr 1; omega
 have h4 : B32 ^ (m + 1) ≤ b := by
  have : 1 * B32 ^ (m + 1) ≤ (wordsOf B32 b)[m + 1]'(by omega) * B32 ^ (m + 1) := Nat.mul_le_mul_right _ (by omega)
  omega
 have h5 : B32 ^ (L - (m + 2) + 1) * nv B32 (zs.drop (L - (m + 2) + 1)) < B32 ^ (L - (m + 2) + 1) * (2 ^ s * B32 ^ (m + 1)) := by
  rw [h3, Nat.mul_left_comm] at h2
  omega
 have h6 := Nat.lt_of_mul_lt_mul_left h5
 exact Nat.lt_of_lt_of_le h6 (Nat.mul_le_mul_left _ h4)
theorem div_end {a b s m : Nat} {us qs U0 : List Nat} (h : Long B32 0 (2 ^ s * b) U0 us qs) (hn : nv B32 U0 = 2 ^ s * a) (hb : 0 < b) (hV : 2 ^ s * b < B32 ^ (m + 2)) (hm : m + 2 ≤ us.length) :
  nv B32 qs = a / b ∧ nv B32 (us.take (m + 2)) / 2 ^ s = a % b := by
 have hp : 0 < 2 ^ s := Nat.pow_pos (by omega)
 obtain ⟨h1, h2⟩ := long_done h (Nat.mul_pos hp hb)
 rw [hn, Nat.mul_div_mul_left _ _ hp] at h1
 rw [hn, Nat.mul_mod_mul_left] at h2
 refine ⟨h1, ?_⟩
 have hs := nv_split (B := B32) us (m + 2) hm
 have hlt : nv B32 us < B32 ^ (m + 2) := by
  rw [h2]
  have : 2 ^ s * (a % b) < 2 ^ s * b := Nat.mul_lt_mul_of_pos_left (Nat.mod_lt _ hb) hp
  omega
 have hd : nv B32 (us.drop (m + 2)) = 0 := by
  rcases Nat.eq_zero_or_pos (nv B32 (us.drop (m + 2))) with h | h
  ·exact h
  ·have : B32 ^ (m + 2) * 1 ≤ B32 ^ (m + 2) * nv B32 (us.drop (m + 2)) := Nat.mul_le_mul_left _ h
   omega
 rw [hd, Nat.mul_zero, Nat.add_zero] at hs
 rw [← hs, h2, Nat.mul_div_cancel_left _ hp]
end Go.Proofs.YtedpaajpfaoffaaGreatDoor
namespace Go.Proofs.YtedpaajpfaoffaaGreatDoor
open Go.RowKit
def DivPost (a b : Nat) (w : World) (r : Ending) (w' : World) : Prop := ∃ q r', r = .returned (.tuple #[q, r']) ∧ Words w' q (wordsOf B32 (a / b)) ∧ Words w' r' (wordsOf B32 (a % b)) ∧ Touch [] w w'
theorem Words.nil (w : World) : Words w (.slice none 0 0) [] := ⟨Reads.nil w 1, fun _ h => by cases h⟩
theorem cmp_not_lt {a b : Nat} (h : ¬ a < b) : (cmpI a b < 0) = False := by
 unfold cmpI
 rw [if_neg h]
 split <;> simp
theorem divNat_less (v u : Value) (a b : Nat) (w : World) (hv : Words w v (wordsOf B32 a)) (hu : Words w u (wordsOf B32 b)) (hlt : a < b) : Calls Tryz.prog 125 #[v, u] w (DivPost a b w) := by
 have HC := Lib.hid (compareNat_any v u a b w hv hu)
 rw [cmp_lt hlt] at HC
 have e1 : a / b = 0 := Nat.div_eq_of_lt hlt
 have e2 : a % b = a := Nat.mod_eq_of_lt hlt
 have HV := Lib.hid hv
 have HE := Lib.hid (And.intro e1 e2)
 obtain ⟨A, cap, rfl⟩ := hv.form
 obtain ⟨A', cap', rfl⟩ := hu.form
 clear e1 e2 hu hv
 go_enter Tryz.func125, Tryz.ntmps125
 go_wp2_with fail
 refine HC.out.mono ?_
 rintro r w1 ⟨rfl, ht⟩
 go_wp2_with fail
 go_ret2
 refine ⟨_, _, rfl, ?_, ?_, ht⟩
 ·rw [HE.out.1]; exact Words.nil _
 ·rw [HE.out.2]; exact HV.out.touch0 ht
theorem divNat_one (v u : Value) (a b : Nat) (w : World) (hv : Words w v (wordsOf B32 a)) (hu : Words w u (wordsOf B32 b)) (hge : ¬ a < b) (hb : 0 < b) (hl : (wordsOf B32 b).length = 1) (hxl : (wordsOf B32 a).length ≤ 1000000) : Calls Tryz.prog 125 #[v, u] w (DivPost a b w) := by
 have HC := Lib.hid (compareNat_any v u a b w hv hu)
 have hc := cmp_not_lt hge
 generalize cmpI a b = c at *
 have hn := nv_words B32_le b
 have hbelow := words_below B32_le b
 obtain ⟨x, hx⟩ : ∃ x, wordsOf B32 b = [x] := by
  match h : wordsOf B32 b, hl with
  | [x], _ => exact ⟨x, rfl⟩
 rw [hx] at hu hn hbelow
 have hxb : x = b := by simpa [nv] using hn
 subst hxb
 have bx := hbelow x (by simp)
 unfold B32 at bx
 have HD := Lib.hid (fun w1 (t : Touch [] w w1) => divSmall_any v a x w1 (hv.touch0 t) hb bx hxl)
 obtain ⟨A, cap, rfl⟩ := hv.form
 obtain ⟨A', cap', rfl⟩ := hu.form
 obtain ⟨hc3, hc4⟩ := hu.cap
 obtain ⟨b', off, rfl, hb'⟩ := hu.addr (k := 0) (by simp)
 have HU := Lib.hid hu
 have HHB := Lib.hid hb
 have hmx : a % x < 4294967296 := Nat.lt_trans (Nat.mod_lt _ hb) bx
 have HX := Lib.hid hx
 simp only [List.length_cons, List.length_nil, Nat.zero_add] at hc3 ⊢
 clear hu hv hn hbelow hx hl hge hb
 go_enter Tryz.func125, Tryz.ntmps125
 go_wp2_with fail
 refine HC.out.mono ?_
 rintro r w1 ⟨rfl, ht⟩
 have c0 := Words.at_ (HU.out.touch0 ht) (k := 0) (by simp)
 simp at c0
 go_wp2_with fail
 refine (HD.out w1 ht).mono ?_
 rintro r w2 ⟨q, rfl, hq, ht2⟩
 have ht3 := ht.then0 ht2
 have HQ := Lib.hid hq
 obtain ⟨Aq, cq, rfl⟩ := hq.form
 have HW1 : Hid (Words (w2.alloc (.cells #[.int .u32 ((a % x : Nat) : Int)] 178)) (.slice (some ⟨w2.heap.size, 0, none⟩) 1 1) [a % x]) := Lib.hid (WB.words (g := w2.heap.size) (xs := [a % x]) (Blk.new _ _ _) (fun y hy => by
  have : y = a % x := by simpa using hy
  rw [this]; exact hmx) (by simp [maxLen]) rfl)
 have HN := Lib.hid (show nv B32 [a % x] = a % x by simp [nv])
 have ht4 : Touch [] w (w2.alloc (.cells #[.int .u32 ((a % x : Nat) : Int)] 178)) := ht3.alloc _
 have hta : Touch [] w2 (w2.alloc (.cells #[.int .u32 ((a % x : Nat) : Int)] 178)) := (Touch.refl [] w2).alloc _
 clear hq c0
 generalize hrr : a % x = rr at *
 have HRR := Lib.hid hrr
 clear hrr
 go_wp2_with fail
 refine (trim_any _ [rr] _ HW1.out).mono ?_
 rintro r w3 ⟨v', rfl, hw, hr, rfl⟩
 rw [HN.out] at hw
 have HW := Lib.hid hw
 obtain ⟨Av, cv, rfl⟩ := hw.form
 clear hw hr
 go_wp2_with fail
 go_ret2
 exact ⟨_, _, rfl, HQ.out.touch0 hta, by rw [HRR.out]; exact HW.out, ht4⟩
theorem quot_round {K L m V k g1 g2 g3 : Nat} {zs1 zs2 us qs : List Nat} {w wr : World} (hkK : k ≤ K) (hkl : L = K + (m + 2)) (hL : L ≤ 100000) (hz1 : zs1.length = m + 2 + 1) (hb1 : Below_ B32 zs1) (hn1 : nv B32 (zs1.take (m + 2)) = V)
  (hhi : ∀ h : m + 1 < (zs1.take (m + 2)).length, B32 ≤ 2 * (zs1.take (m + 2))[m + 1]'h) (hV : V < B32 ^ (m + 2)) (hV0 : 0 < V) (hz2 : zs2.length = L + 1) (hV1 : WB wr g1 zs1) (hU : WB wr g2 us) (hQ : WB wr g3 qs) (hql : qs.length = K + 1) (HL : Long B32 (k + 1) V zs2 us qs)
  (ht : Touch [] w wr) (h0 : w.heap.size ≤ g1) (h12 : g1 < g2) (h23 : g2 < g3) :
  ∃ Q : Nat, Calls Tryz.prog 173 #[.slice (some ⟨g2, k, none⟩) (m + 2 + 1) (L + 1 - k), .slice (some ⟨g1, 0, none⟩) (m + 2) (m + 2 + 1)] wr fun r w4 => r = .returned (.int .u32 (Q : Int)) ∧ ∃ us2, WB w4 g2 us2 ∧ WB w4 g1 zs1 ∧ WB w4 g3 qs ∧ Hid (Long B32 k V zs2 us2 (qs.set k Q)) ∧ Touch [] w w4 := by
 obtain ⟨s1, s2, s3, s4⟩ := long_step (us' := []) HL (j := k) (n := m + 2) (by rw [hz2]; omega) (Nat.le_of_lt hV) (by rw [hz2]; omega)
 have hul : us.length = L + 1 := HL.2.2.2.1.trans hz2
 have hwv : Words wr (.slice (some ⟨g1, 0, none⟩) (m + 2) (m + 2 + 1)) (zs1.take (m + 2)) := by
  have := (WB.words hV1 hb1 (by rw [hz1]; unfold maxLen; omega) rfl)
  have := this.cut (k := m + 2) (by rw [hz1]; omega)
  rwa [hz1] at this
 have hU2 : WB wr g2 (us.take k ++ (us.drop k).take (m + 2 + 1) ++ us.drop (k + (m + 2) + 1)) := by rw [← s4]; exact hU
 have hlv : (zs1.take (m + 2)).length = m + 2 := by rw [List.length_take, hz1]; omega
 have hlk : (us.take k).length = k := by rw [List.length_take, hul]; omega
 refine ⟨nv B32 ((us.drop k).take (m + 2 + 1)) / V, ?_⟩
 have HQW := quotientWord_any g2 k (L + 1 - k) (.slice (some ⟨g1, 0, none⟩) (m + 2) (m + 2 + 1)) (us.take k) ((us.drop k).take (m + 2 + 1)) (us.drop (k + (m + 2) + 1)) (zs1.take (m + 2)) m wr hU2 hlk s3 (below_take (below_drop HL.2.2.2.2.1 k) _) hwv hlv (by simp [rb]; omega) (by omega) (by omega) (hhi (by rw [hlv]; omega)) (by rw [hn1]; exact s2)
 refine HQW.mono ?_
 rintro r w4 ⟨e, ⟨us', hU', hl', hb4, hr'⟩, ht'⟩
 have hg1 : g1 ∉ [g2] := fun h => by rw [List.mem_singleton] at h; omega
 have hg3 : g3 ∉ [g2] := fun h => by rw [List.mem_singleton] at h; omega
 have hkq : k < qs.length := by omega
 have HNX := long_next (us' := us') HL B32_le (j := k) (n := m + 2) (by rw [hz2]; omega) hV0 (Nat.le_of_lt hV) (by rw [hz2]; omega) hkq hl' hb4 (by rw [hr', hn1])
 refine ⟨by rw [e, hn1], _, hU', hV1.touch ht' hg1, hQ.touch ht' hg3, Lib.hid HNX, ht.step ht' (fun g hg => by rw [List.mem_singleton] at hg; right; omega)⟩
end Go.Proofs.YtedpaajpfaoffaaGreatDoor
namespace Go.Proofs.YtedpaajpfaoffaaGreatDoor
open Go.RowKit
def DivRel (K V : Nat) (U0 zs1 : List Nat) (g1 g2 g3 : Nat) (w : World) (tj : Value) (wr : World) : Prop := ∃ (j : Nat) (us qs : List Nat), j ≤ K + 1 ∧ tj = .int .i64 ((j : Int) - 1) ∧ WB wr g1 zs1 ∧ WB wr g2 us ∧ WB wr g3 qs ∧ qs.length = K + 1 ∧ Hid (Long B32 j V U0 us qs) ∧ Touch [] w wr
theorem divNat_long (v u : Value) (a b m L : Nat) (w : World) (hv : Words w v (wordsOf B32 a)) (hu : Words w u (wordsOf B32 b)) (hge : ¬ a < b) (hb : 0 < b) (hl : (wordsOf B32 b).length = m + 2) (hL : (wordsOf B32 a).length = L) (hxl : L ≤ 100000) : Calls Tryz.prog 125 #[v, u] w (DivPost a b w) := by
 have HC := Lib.hid (compareNat_any v u a b w hv hu)
 have hc := cmp_not_lt hge
 generalize cmpI a b = c at *
 have hle : m + 2 ≤ L := by
  rcases Nat.lt_or_ge L (m + 2) with h | h
  ·exfalso
   have := words_len_lt B32_le (words_below B32_le a) (words_canon B32_le b) (words_below B32_le b) (by rw [hL, hl]; exact h)
   rw [nv_words B32_le, nv_words B32_le] at this
   exact hge this
  ·exact h
 obtain ⟨t0, t1, _, _⟩ := top_word hl
 obtain ⟨s, hs⟩ : ∃ s, s = lz ((wordsOf B32 b)[m + 1]'(by omega)) := ⟨_, rfl⟩
 have HNORM : Hid (∀ zs : List Nat, ∀ h1 : zs.length = m + 3, Below_ B32 zs → nv B32 zs = 2 ^ s * b → nv B32 (zs.take (m + 2)) = 2 ^ s * b ∧ B32 ≤ 2 * (zs.take (m + 2))[m + 1]'(by simp; omega) ∧ 2 ^ s * b < B32 ^ (m + 2)) := Lib.hid (fun zs h1 h2 h3 => by
  subst hs
  obtain ⟨n1, n2, n3, _⟩ := div_norm (zs := zs) hl h1 h2 h3
  exact ⟨n1, n2, n3⟩)
 have HS1 := Lib.hid (fun w1 s (t : Touch [] w w1) hs => shiftLeft_w u (wordsOf B32 b) s w1 (hu.touch0 t) hs (by rw [hl]; omega))
 have HS2 := Lib.hid (fun w1 s (t : Touch [] w w1) hs => shiftLeft_w v (wordsOf B32 a) s w1 (hv.touch0 t) hs (by rw [hL]; omega))
 have HST := Lib.hid (fun s zs h1 h2 h3 => div_start (s := s) (zs := zs) hl hL hle h1 h2 h3)
 obtain ⟨A, cap, rfl⟩ := hv.form
 obtain ⟨A', cap', rfl⟩ := hu.form
 obtain ⟨hc1, hc2⟩ := hv.cap
 obtain ⟨hc3, hc4⟩ := hu.cap
 obtain ⟨b', off, rfl, hb'⟩ := hu.addr (k := m + 1) (by omega)
 have cy := Words.at_ hu (k := m + 1) (by omega)
 have bl := lz_le _ t0 t1
 have HLZ := Lib.hid (fun w1 => leadingZeros_any _ w1 t1 t0)
 generalize hT : (wordsOf B32 b)[m + 1]'(by omega) = tw at *
 rw [hL, hl] at *
 have HB := Lib.hid hb
 have HXL := Lib.hid hxl
 rw [← hs] at HLZ bl
 have bs : s < 32 := bl.1
 have e1 : (m : Int) + 2 - 1 = (m : Int) + 1 := by omega
 clear hu hv hge hb t0 t1 bl hs hT
 go_enter Tryz.func125, Tryz.ntmps125
 go_wp2_with fail
 refine HC.out.mono ?_
 rintro r w1 ⟨rfl, ht1⟩
 have cy1 := (ht1.cell (p := ⟨b', off + (m + 1), none⟩) hb' (by simp)).trans cy
 go_wp2_with fail
 refine (HLZ.out w1).mono ?_
 rintro r w1' ⟨rfl, rfl⟩
 go_wp2_with fail
 refine (HS1.out w1' s ht1 bs).mono ?_
 rintro r w2 ⟨rfl, zs1, hz1, hn1, hb1, hW1, ht2⟩
 rw [nv_words B32_le] at hn1
 obtain ⟨n1, n2, n3⟩ := HNORM.out zs1 hz1 hb1 hn1
 have HN1 := Lib.hid n1
 have HN2 : Hid (∀ h : m + 1 < (zs1.take (m + 2)).length, B32 ≤ 2 * (zs1.take (m + 2))[m + 1]'h) := Lib.hid (fun _ => n2)
 have HN3 := Lib.hid n3
 have HB1 := Lib.hid hb1
 have HZ1 := Lib.hid hz1
 have ht3 := ht1.then0 ht2
 have hg1 := ht1.size
 have l1 := hW1.lt
 generalize hgg1 : w1'.heap.size = g1 at *
 clear hgg1 n1 n2 n3 hb1 hn1 HNORM cy1 ht2
 go_wp2_with fail
 refine (HS2.out w2 s ht3 bs).mono ?_
 rintro r w3 ⟨rfl, zs2, hz2, hn2, hb2, hW2, ht4⟩
 rw [nv_words B32_le] at hn2
 have HST2 := Lib.hid (HST.out s zs2 hz2 hb2 hn2)
 have HB2 := Lib.hid hb2
 have HN4 := Lib.hid hn2
 have HZ2 := Lib.hid hz2
 have ht5 := ht3.then0 ht4
 have hW1' := hW1.touch ht4 (by simp)
 have l2 := hW2.lt
 have hg12 : g1 < w2.heap.size := l1
 have hsz2 := ht3.size
 generalize hgg2 : w2.heap.size = g2 at *
 clear hgg2 hb2 hn2 hz2 hz1 HS1 HS2 HST ht4 hW1
 obtain ⟨K, hK⟩ : ∃ K, K = L - (m + 2) := ⟨_, rfl⟩
 rw [← hK] at HST2
 have hKL : L = K + (m + 2) := by omega
 have HKL := Lib.hid hKL
 have hmk : ∀ W : World, (Instr.makeSlice 171 (.int .i64 ((K : Int) + 1)) (.int .i64 ((K : Int) + 1))).run Tryz.prog W = .ok (.slice (some ⟨W.heap.size, 0, none⟩) (K + 1) (K + 1)) (W.alloc (.cells (((List.replicate (K + 1) (0 : Nat)).map u32v).toArray) 178)) := make_words (K + 1) (by omega)
 have e2 : (L : Int) - ((m : Int) + 2) = (K : Int) := by omega
 have HP1 := Lib.hid (WB.new w3 (K + 1))
 have hLong : Hid (Long B32 (K + 1) (2 ^ s * b) zs2 zs2 (List.replicate (K + 1) 0)) := Lib.hid (long_new B32_le HB2.out (by rw [HZ2.out]; omega) HST2.out rfl)
 have hst : DivRel K (2 ^ s * b) zs2 zs1 g1 g2 w3.heap.size w (.int .i64 (K : Int)) (w3.alloc (.cells (((List.replicate (K + 1) (0 : Nat)).map u32v).toArray) 178)) := ⟨K + 1, zs2, List.replicate (K + 1) 0, Nat.le_refl _, by congr 1; omega, Blk.alloc hW1' _, Blk.alloc hW2 _, WB.new w3 (K + 1), by simp, hLong, ht5.alloc _⟩
 have hg3 : g2 < w3.heap.size := l2
 generalize (((List.replicate (K + 1) (0 : Nat)).map u32v).toArray) = cs at *
 clear hK hKL HP1 hLong hW1' hW2
 go_wp2_with fail
 generalize hgg3 : w3.heap.size = g3 at *
 go_loopw [13] (fun tj wr => DivRel K (2 ^ s * b) zs2 zs1 g1 g2 g3 w tj wr) (fun tj _ => (intOf tj + 1).toNat)
 case atStart => simpa using hst
 case round =>
  clear hst
  obtain ⟨j, us, qs, hj, rfl, hV1, hU, hQ, hql, HL, ht⟩ := hrel
  have hul : us.length = L + 1 := HL.out.2.2.2.1.trans HZ2.out
  have hwl : w.heap.size ≤ g1 ∧ w.heap.size ≤ g2 ∧ w.heap.size ≤ g3 := by omega
  rcases Nat.eq_zero_or_pos j with h0 | h0
  ·subst h0
   have hneg : ((0 : Int) ≤ ((0 : Nat) : Int) - 1) = False := eq_false (by omega)
   have hkl := HKL.out
   obtain ⟨d1, d2⟩ := div_end (m := m) HL.out HN4.out HB.out HN3.out (by rw [hul]; omega)
   have HTQ := Lib.hid (fun W (t : Touch [] wr W) => trim_any (.slice (some ⟨g3, 0, none⟩) (K + 1) (K + 1)) qs W ((hQ.words HL.out.2.2.2.2.2 (by rw [hql]; unfold maxLen; omega) hql.symm).touch0 t))
   rw [d1] at HTQ
   have hwu : Words wr (.slice (some ⟨g2, 0, none⟩) (m + 2) (L + 1)) (us.take (m + 2)) := by
    have := (WB.words hU HL.out.2.2.2.2.1 (by rw [hul]; unfold maxLen; omega) hul.symm)
    rw [← hul] at this
    have := this.cut (k := m + 2) (by rw [hul]; omega)
    rwa [hul] at this
   have hlu : (us.take (m + 2)).length = m + 2 := by simp; omega
   have HSR := Lib.hid (fun w1 (t : Touch [] wr w1) => shiftRight_w (.slice (some ⟨g2, 0, none⟩) (m + 2) (L + 1)) (us.take (m + 2)) s w1 (hwu.touch0 t) bs (by rw [hlu]; omega))
   rw [d2, hlu] at HSR
   clear hV1 hU hQ hql HL d1 d2 hwu hlu hul hkl
   go_wp2_with fail
   have HTR := Lib.hid ht
   clear ht
   refine wp_region_held_drew (S := fun _ => True) (by kernel_rfl) trivial (fun hS => ?_)
   refine wpAnyH_take (i := 0) (v := ?_) rfl (by kernel_rfl) (by kernel_rfl) (by kernel_rfl) (fun _ _ _ h => h) (Or.inl ⟨by rfl, ?_⟩) hS ?_
   rotate_left
   ·(intro W hSW; go_simp <;> with_reducible rfl)
   simp only [nz]
   refine wpAnyH_take (i := 2) (v := ?_) rfl (by kernel_rfl) (by kernel_rfl) (by kernel_rfl) (fun _ _ _ h => h) (Or.inl ⟨by rfl, ?_⟩) hS ?_
   rotate_left
   ·(intro W hSW; go_simp <;> with_reducible rfl)
   simp only [nz]
   refine wpAnyH_take (i := 3) (v := ?_) rfl (by kernel_rfl) (by kernel_rfl) (by kernel_rfl) (fun _ _ _ h => h) (Or.inl ⟨by rfl, ?_⟩) hS ?_
   rotate_left
   ·(intro W hSW; go_simp <;> with_reducible rfl)
   simp only [nz]
   refine wpAnyH_take (i := 4) (v := ?_) rfl (by kernel_rfl) (by kernel_rfl) (by kernel_rfl) (fun _ _ _ h => h) (Or.inl ⟨by rfl, ?_⟩) hS ?_
   rotate_left
   ·(intro W hSW; go_simp; rw [if_pos (by omega), show ((m : Int) + 2).toNat = m + 2 by omega])
   simp only [nz]
   refine wpAnyH_take (i := 5) (v := ?_) rfl (by kernel_rfl) (by kernel_rfl) (by kernel_rfl) (fun _ _ _ h => h) (Or.inl ⟨by rfl, ?_⟩) hS ?_
   rotate_left
   ·(intro W hSW; go_simp <;> with_reducible rfl)
   simp only [nz]
   refine rdy1 1 rfl (fun K hK => ?_)
   go_simp
   refine (HTQ.out _ (by repeat (first | exact HT5.out | exact Touch.refl _ _ | refine Touch.drewN ?_ _ | refine Touch.drew ?_))).mono ?_
   rintro r W1 ⟨q, rfl, hq, _, rfl⟩
   have HQ4 := Lib.hid hq
   obtain ⟨Aq, cq, rfl⟩ := hq.form
   clear hq
   go_wp2_with fail
   refine hK.out _ _ trivial (fun _ => ?_)
   clear hK K
   try simp only [nz]
   refine rdy1 6 rfl (fun K hK => ?_)
   go_simp
   refine (HSR.out _ (by repeat (first | exact HT5.out | exact Touch.refl _ _ | refine Touch.drewN ?_ _ | refine Touch.drew ?_))).mono ?_
   rintro r W2 ⟨rfl, zs, hz, hn, hb, hW, ht5⟩
   have HT6 := Lib.hid ht5
   have HT5 : Hid (Touch [] wr W2) := Lib.hid (Touch.then0 (by repeat (first | exact HT5.out | exact Touch.refl _ _ | refine Touch.drewN ?_ _ | refine Touch.drew ?_)) ht5)
   have HTM := Lib.hid (fun W (t : Touch [] W2 W) => trim_any _ zs W ((hW.words hb (by rw [hz]; unfold maxLen; omega) hz.symm).touch0 t))
   rw [hn] at HTM
   clear hz hn hb hW ht5
   go_wp2_with fail
   refine hK.out _ _ trivial (fun _ => ?_)
   clear hK K
   try simp only [nz]
   refine rdy1 7 rfl (fun K hK => ?_)
   go_simp
   refine (HTM.out _ (by repeat (first | exact HT5.out | exact Touch.refl _ _ | refine Touch.drewN ?_ _ | refine Touch.drew ?_))).mono ?_
   rintro r W3 ⟨q6, rfl, hq6, _, rfl⟩
   have HQ6 := Lib.hid hq6
   obtain ⟨A6, c6, rfl⟩ := hq6.form
   clear hq6
   go_wp2_with fail
   refine hK.out _ _ trivial (fun _ => ?_)
   clear hK K
   try simp only [nz]
   refine wpAnyH_take (i := 8) (v := ?_) rfl (by kernel_rfl) (by kernel_rfl) (by kernel_rfl) (fun _ _ _ h => h) (Or.inl ⟨by rfl, ?_⟩) trivial ?_
   rotate_left
   ·(intro W hSW; go_simp <;> with_reducible rfl)
   simp only [nz]
   refine wpAnyH_take (i := 9) (v := ?_) rfl (by kernel_rfl) (by kernel_rfl) (by kernel_rfl) (fun _ _ _ h => h) (Or.inl ⟨by rfl, ?_⟩) trivial ?_
   rotate_left
   ·(intro W hSW; go_simp <;> with_reducible rfl)
   simp only [nz]
   refine wpAnyH_done (by kernel_rfl) ?_ _
   go_wp2_with fail
   go_ret2
   exact ⟨_, _, rfl, HQ4.out.touch0 HT6.out, HQ6.out.touch0 (by repeat (first | exact Touch.refl _ _ | exact HT6.out | refine Touch.drewN ?_ _ | refine Touch.drew ?_)), (by repeat (first | exact HTR.out.then0 HT5.out | refine Touch.drewN ?_ _ | refine Touch.drew ?_))⟩
  ·obtain ⟨k, rfl⟩ : ∃ k, j = k + 1 := ⟨j - 1, by omega⟩
   have e3 : ((k + 1 : Nat) : Int) - 1 = (k : Int) := by omega
   rw [e3]
   have hkl := HKL.out
   have hkK : k ≤ K := by omega
   obtain ⟨Q, HQ0⟩ := quot_round (V := 2 ^ s * b) hkK hkl HXL.out HZ1.out HB1.out HN1.out HN2.out HN3.out (Nat.mul_pos (Nat.pow_pos (by omega)) HB.out) HZ2.out hV1 hU hQ hql HL.out ht (by omega) hg12 hg3
   have HQW := Lib.hid HQ0
   have HQL := Lib.hid hql
   clear HQ0 hV1 hU hQ hql HL ht hkl hul hwl
   go_wp2_with fail
   rw [show k + (m + 2) + 1 - k = m + 2 + 1 by omega]
   refine HQW.out.mono ?_
   rintro r w4 ⟨rfl, us2, hU', hV1', hQ', HNX, htt⟩
   have hkq : k < qs.length := by have := HQL.out; omega
   have cq := hQ'.at_ hkq
   have fq := hQ'.frozen k
   have hS := (Touch.refl [g3] w4).setCell (p := ⟨g3, k, none⟩) (.inl (List.mem_singleton.2 rfl)) (.int .u32 (Q : Int))
   have HR1 := Lib.hid (hV1'.touch hS (fun h => by rw [List.mem_singleton] at h; omega))
   have HR2 := Lib.hid (hU'.touch hS (fun h => by rw [List.mem_singleton] at h; omega))
   have HR3 := Lib.hid (hQ'.set k Q)
   have HTT := Lib.hid (htt.step hS (fun g hg => by rw [List.mem_singleton] at hg; right; omega))
   have HQL2 := Lib.hid (show (qs.set k Q).length = K + 1 by rw [List.length_set]; exact HQL.out)
   generalize qs[k] = q0 at *
   clear HQW hU' hQ' hV1' htt hkq hS
   go_wp2_with fail
   go_roundw
   case rel => exact ⟨k, us2, qs.set k Q, by omega, by go_num, HR1.out, HR2.out, HR3.out, HQL2.out, HNX, HTT.out⟩
   case measure => simp [intOf]
end Go.Proofs.YtedpaajpfaoffaaGreatDoor
