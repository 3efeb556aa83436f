/- A word of a quotient: the first estimate, what is taken off and what is put back. No program in sight. -/
import Derived.Test.YtedpaajpfaoffaaGreatDoorNbA
set_option linter.all false
namespace Go.Proofs.YtedpaajpfaoffaaGreatDoor
theorem Est.start {B high v2 u2 b vlow ulow top : Nat} (hB : 2 ≤ B) (hh : B ≤ 2 * high) (hv2 : v2 < B) (hu2 : u2 < B) (hvl : vlow < b) (hul : ulow < b) (hlt : (top * B + u2) * b + ulow < B * ((high * B + v2) * b + vlow)) :
  Est B high v2 u2 b vlow ulow top (((top * B + u2) * b + ulow) / ((high * B + v2) * b + vlow)) (top / high) (top % high) := by
 have hb : 0 < b := by omega
 have hh1 : 1 ≤ high := by omega
 have hVp : 0 < (high * B + v2) * b + vlow := by
  have : 1 ≤ high * B := Nat.le_trans (by omega : 1 ≤ 1 * B) (Nat.mul_le_mul_right B hh1)
  have : 0 < (high * B + v2) * b := Nat.mul_pos (by omega) hb
  omega
 have hVle : (high * B + v2) * b + vlow < (high * B + v2 + 1) * b := by rw [Nat.add_mul (high * B + v2) 1 b]; omega
 have htop : top ≤ high * B + v2 := by
  have h1 : top * B * b ≤ (top * B + u2) * b + ulow := by rw [Nat.add_mul]; omega
  have h2 : top * B * b < B * ((high * B + v2 + 1) * b) := Nat.lt_of_le_of_lt h1 (Nat.lt_of_lt_of_le hlt (Nat.mul_le_mul_left _ (by omega)))
  have h3 : top * (B * b) < (high * B + v2 + 1) * (B * b) := by
   rw [← Nat.mul_assoc]
   rw [Nat.mul_left_comm] at h2
   exact h2
  have := Nat.lt_of_mul_lt_mul_right h3
  omega
 have hdm := Nat.div_add_mod top high
 have hml := Nat.mod_lt top (show 0 < high by omega)
 refine ⟨hB, hh1, hv2, hu2, hvl, hul, rfl, ?_, by rw [Nat.mul_comm]; exact hdm.symm, ?_, ?_, ?_⟩
 ·rw [Nat.div_lt_iff_lt_mul hVp]
  exact hlt
 ·rw [Nat.le_div_iff_mul_le (by omega)]
  generalize hQ : ((top * B + u2) * b + ulow) / ((high * B + v2) * b + vlow) = Q
  have h1 : Q * ((high * B + v2) * b + vlow) ≤ (top * B + u2) * b + ulow := by rw [← hQ]; exact Nat.div_mul_le_self _ _
  have h2 : Q * (high * B * b) ≤ Q * ((high * B + v2) * b + vlow) := Nat.mul_le_mul_left _ (by rw [Nat.add_mul]; omega)
  have h3 : (top * B + u2) * b + ulow < (top + 1) * (B * b) := by
   have : (top * B + u2 + 1) * b ≤ ((top + 1) * B) * b := Nat.mul_le_mul_right _ (by rw [Nat.add_mul]; omega)
   rw [Nat.add_mul (top * B + u2) 1 b, Nat.mul_assoc (top + 1)] at this
   omega
  have h4 : Q * high * (B * b) < (top + 1) * (B * b) := by
   rw [show Q * high * (B * b) = Q * (high * B * b) by rw [Nat.mul_assoc, Nat.mul_assoc]]
   omega
  have := Nat.lt_of_mul_lt_mul_right h4
  omega
 ·have h1 : top < (B + 2) * high := by rw [Nat.add_mul, Nat.mul_comm B high]; omega
  have := (Nat.div_lt_iff_lt_mul (show 0 < high by omega)).2 h1
  omega
 ·intro e
  rw [e, Nat.mul_add, Nat.mul_one] at hdm
  omega
section
variable {B : Nat}
theorem drop_one {i : Nat} {us us0 : List Nat} (h : us.drop i = us0.drop i) : us.drop (i + 1) = us0.drop (i + 1) := by
 have := congrArg (List.drop 1) h
 rwa [List.drop_drop, List.drop_drop] at this
def Took (B i q : Nat) (us0 vs us : List Nat) (c br : Nat) : Prop := nv B us + q * nv B (vs.take i) = nv B us0 + B ^ i * (c + br) ∧ us.length = us0.length ∧ us.drop i = us0.drop i ∧ Below_ B us ∧ c < B ∧ br ≤ 1
theorem took_new {q : Nat} {us vs : List Nat} (hB : 2 ≤ B) (hb : Below_ B us) : Took B 0 q us vs us 0 0 := ⟨by simp [nv], rfl, rfl, hb, by omega, by omega⟩
theorem took_step {i q c br x br' : Nat} {us0 vs us : List Nat} (h : Took B i q us0 vs us c br) (hi : i < us.length) (hv : i < vs.length) (hq : q < B) (hvb : vs[i] < B) (hx : x < B) (hbr : br' ≤ 1) (e : x + (c + q * vs[i]) % B + br = us[i] + B * br') : Took B (i + 1) q us0 vs (us.set i x) ((c + q * vs[i]) / B) br' := by
 obtain ⟨h1, h2, h3, h4, h5, h6⟩ := h
 refine ⟨?_, by simpa using h2, ?_, below_set h4 hx, ?_, hbr⟩
 ·have e1 := nv_set (B := B) (xs := us) (k := i) (v := x) hi
  have e2 : B ^ i * (x + (c + q * vs[i]) % B + br) = B ^ i * (us[i] + B * br') := by rw [e]
  have e3 : B ^ i * (c + q * vs[i]) = B ^ (i + 1) * ((c + q * vs[i]) / B) + B ^ i * ((c + q * vs[i]) % B) := by
   generalize c + q * vs[i] = t
   conv => lhs; rw [← Nat.div_add_mod t B]
   rw [Nat.mul_add, ← Nat.mul_assoc, ← Nat.pow_succ]
  have e4 : q * nv B (vs.take (i + 1)) = q * nv B (vs.take i) + B ^ i * (q * vs[i]) := by rw [nv_take_succ hv, Nat.mul_add, Nat.mul_left_comm]
  rw [Nat.mul_add, Nat.mul_add, Nat.mul_add, ← Nat.mul_assoc (B ^ i) B br', show B ^ i * B = B ^ (i + 1) from (Nat.pow_succ ..).symm] at e2
  rw [Nat.mul_add] at e3 h1
  rw [e4, Nat.mul_add]
  omega
 ·rw [List.drop_set_of_lt (Nat.lt_succ_self i)]
  exact drop_one h3
 ·rw [Nat.div_lt_iff_lt_mul (by omega)]
  have : q * vs[i] ≤ (B - 1) * (B - 1) := Nat.mul_le_mul (by omega) (by omega)
  obtain ⟨b, rfl⟩ : ∃ b, B = b + 1 := ⟨B - 1, by omega⟩
  simp only [Nat.add_sub_cancel] at this
  rw [Nat.add_mul, Nat.mul_add]
  omega
theorem took_last {q c br x neg : Nat} {us0 vs us : List Nat} (h : Took B vs.length q us0 vs us c br) (hi : vs.length < us.length) (hx : x < B) (e : x + c + br = us[vs.length] + B * neg) : nv B (us.set vs.length x) + q * nv B vs = nv B us0 + B ^ (vs.length + 1) * neg ∧ Below_ B (us.set vs.length x) := by
 obtain ⟨h1, h2, h3, h4, h5, h6⟩ := h
 rw [List.take_of_length_le (Nat.le_refl _), Nat.mul_add] at h1
 have e1 := nv_set (B := B) (xs := us) (k := vs.length) (v := x) hi
 have e2 : B ^ vs.length * (x + c + br) = B ^ vs.length * (us[vs.length] + B * neg) := by rw [e]
 rw [Nat.mul_add, Nat.mul_add, Nat.mul_add, ← Nat.mul_assoc (B ^ vs.length) B neg, show B ^ vs.length * B = B ^ (vs.length + 1) from (Nat.pow_succ ..).symm] at e2
 exact ⟨by omega, below_set h4 hx⟩
theorem took_right {q U V X : Nat} (hV : 0 < V) (h : X + q * V = U) (hQ : U / V ≤ q) : q = U / V ∧ X = U % V := by
 have h1 : q ≤ U / V := (Nat.le_div_iff_mul_le hV).2 (by omega)
 have e : q = U / V := by omega
 have h2 := Nat.div_add_mod U V
 rw [Nat.mul_comm V, ← e] at h2
 exact ⟨e, by omega⟩
def Put (B i : Nat) (us1 vs us : List Nat) (c : Nat) : Prop := nv B us + B ^ i * c = nv B us1 + nv B (vs.take i) ∧ us.length = us1.length ∧ Below_ B us ∧ c ≤ 1
theorem put_new {us vs : List Nat} (hb : Below_ B us) : Put B 0 us vs us 0 := ⟨by simp [nv], rfl, hb, by omega⟩
theorem put_next {i c : Nat} {us1 vs us : List Nat} (hB : 2 ≤ B) (h : Put B i us1 vs us c) (hi : i < us.length) (hv : i < vs.length) (hvb : vs[i] < B) : Put B (i + 1) us1 vs (us.set i ((c + (us[i] + vs[i])) % B)) ((c + (us[i] + vs[i])) / B) := by
 obtain ⟨h1, h2, h3, h4⟩ := h
 have b1 := h3 _ (List.getElem_mem hi)
 refine ⟨?_, by simpa using h2, below_set h3 (Nat.mod_lt _ (by omega)), ?_⟩
 ·have e1 := nv_set (B := B) (xs := us) (k := i) (v := (c + (us[i] + vs[i])) % B) hi
  have e3 : B ^ i * (c + (us[i] + vs[i])) = B ^ (i + 1) * ((c + (us[i] + vs[i])) / B) + B ^ i * ((c + (us[i] + vs[i])) % B) := by
   generalize c + (us[i] + vs[i]) = t
   conv => lhs; rw [← Nat.div_add_mod t B]
   rw [Nat.mul_add, ← Nat.mul_assoc, ← Nat.pow_succ]
  rw [Nat.mul_add, Nat.mul_add] at e3
  rw [nv_take_succ hv]
  omega
 ·have : (c + (us[i] + vs[i])) / B < 2 := by
   rw [Nat.div_lt_iff_lt_mul (by omega)]
   omega
  omega
theorem put_last {q c : Nat} {U : Nat} {us1 vs us : List Nat} (hB : 2 ≤ B) (h : Put B vs.length us1 vs us c) (hl : us.length = vs.length + 1) (hvs : Below_ B vs) (hV : 0 < nv B vs) (e : nv B us1 + q * nv B vs = U + B ^ (vs.length + 1) * 1) (hq1 : q ≤ U / nv B vs + 1) (hb1 : Below_ B us1) :
  q = U / nv B vs + 1 ∧ nv B (us.set vs.length ((us[vs.length]'(by omega) + c) % B)) = U % nv B vs ∧ Below_ B (us.set vs.length ((us[vs.length]'(by omega) + c) % B)) := by
 obtain ⟨h1, h2, h3, h4⟩ := h
 rw [List.take_of_length_le (Nat.le_refl _)] at h1
 have hlt : nv B us1 < B ^ (vs.length + 1) := by have := nv_lt hb1; rwa [← h2, hl] at this
 have hbs : Below_ B (us.set vs.length ((us[vs.length]'(by omega) + c) % B)) := below_set h3 (Nat.mod_lt _ (by omega))
 have hlt2 : nv B (us.set vs.length ((us[vs.length]'(by omega) + c) % B)) < B ^ (vs.length + 1) := Nat.lt_of_lt_of_le (nv_lt hbs) (Nat.pow_le_pow_right (by omega) (by rw [List.length_set]; omega))
 have hv := nv_lt hvs
 have hpow : B ^ vs.length ≤ B ^ (vs.length + 1) := Nat.pow_le_pow_right (by omega) (by omega)
 have hdm := Nat.div_add_mod U (nv B vs)
 have hml := Nat.mod_lt U hV
 have e0 : q = U / nv B vs + 1 := by
  rcases Nat.lt_or_ge q (U / nv B vs + 1) with h5 | h5
  ·have : q * nv B vs ≤ U / nv B vs * nv B vs := Nat.mul_le_mul_right _ (by omega)
   rw [Nat.mul_comm (U / nv B vs)] at this
   omega
  ·omega
 refine ⟨e0, ?_, hbs⟩
 have e1 := nv_set (B := B) (xs := us) (k := vs.length) (v := (us[vs.length]'(by omega) + c) % B) (by omega)
 have e3 : B ^ vs.length * (us[vs.length]'(by omega) + c) = B ^ (vs.length + 1) * ((us[vs.length]'(by omega) + c) / B) + B ^ vs.length * ((us[vs.length]'(by omega) + c) % B) := by
  generalize us[vs.length]'(by omega) + c = t
  conv => lhs; rw [← Nat.div_add_mod t B]
  rw [Nat.mul_add, ← Nat.mul_assoc, ← Nat.pow_succ]
 rw [Nat.mul_add] at e3
 rw [e0, Nat.add_mul, Nat.one_mul, Nat.mul_comm (U / nv B vs)] at e
 generalize hz : (us[vs.length]'(by omega) + c) / B = z at *
 have e5 : nv B (us.set vs.length ((us[vs.length]'(by omega) + c) % B)) + B ^ (vs.length + 1) * z = U % nv B vs + B ^ (vs.length + 1) * 1 := by omega
 have : z = 1 := by
  rcases Nat.lt_trichotomy z 1 with h5 | h5 | h5
  ·have : z = 0 := by omega
   subst this
   omega
  ·exact h5
  ·have : B ^ (vs.length + 1) * 2 ≤ B ^ (vs.length + 1) * z := Nat.mul_le_mul_left _ h5
   omega
 subst this
 omega
end
end Go.Proofs.YtedpaajpfaoffaaGreatDoor
