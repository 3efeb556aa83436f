/- Amounts of money as texts: what is written is read again; two ways to read a text agree. No program in sight. -/
import Derived.Lib.ItoaNum
import Derived.Lib.AtoiAll
import Derived.Lib.Replace
set_option linter.all false
namespace Go.Proofs.YtedpaajpfaoffaaGreatDoor
open Go.Lib
def cgrp (n : Nat) : Nat → List UInt8 → List UInt8
 | _, [] => []
 | i, c :: l => (if 0 < i ∧ (n - i) % 3 = 0 then [44, c] else [c]) ++ cgrp n (i + 1) l
def groupL (l : List UInt8) : List UInt8 := cgrp l.length 0 l
def moneyL (n : Int) : List UInt8 := if n < 0 then 45 :: groupL (decDigits n.natAbs) else groupL (decDigits n.toNat)
def noComma (l : List UInt8) : List UInt8 := l.filter (fun c => c != 44)
theorem noComma_append (a b : List UInt8) : noComma (a ++ b) = noComma a ++ noComma b := List.filter_append ..
theorem noComma_cgrp (n : Nat) : ∀ (l : List UInt8) (i : Nat), (∀ c ∈ l, c ≠ 44) → noComma (cgrp n i l) = l
 | [], _, _ => rfl
 | c :: l, i, h => by
  have hc : c ≠ 44 := h c List.mem_cons_self
  simp only [cgrp, noComma_append, noComma_cgrp n l (i + 1) (fun d hd => h d (List.mem_cons_of_mem _ hd))]
  split <;> simp [noComma, hc]
theorem dec_digit : ∀ (u : Nat) (c : UInt8), c ∈ decDigits u → 48 ≤ c.toNat ∧ c.toNat ≤ 57 := by
 intro u
 induction u using Nat.strongRecOn with
 | _ u ih =>
  intro c hc
  rw [decDigits] at hc
  split at hc
  ·rename_i h
   simp at hc
   subst hc
   simp
   omega
  ·rename_i h
   rw [List.mem_append] at hc
   rcases hc with hc | hc
   ·exact ih (u / 10) (by omega) c hc
   ·simp at hc
    subst hc
    simp
    omega
theorem dec_ne (u : Nat) (c : UInt8) (h : c ∈ decDigits u) : c ≠ 44 := fun e => by
 have := dec_digit u c h
 rw [e] at this
 simp at this
theorem noComma_money (n : Int) : noComma (moneyL n) = itoa n := by
 unfold moneyL itoa groupL
 split
 ·have := noComma_cgrp (decDigits n.natAbs).length (decDigits n.natAbs) 0 (dec_ne n.natAbs)
  simp only [noComma] at this ⊢
  rw [List.filter_cons]
  simp [this]
 ·exact noComma_cgrp _ _ 0 (dec_ne n.toNat)
theorem parseUint10_snoc : ∀ (l : List UInt8) (acc : Nat) (c : UInt8), parseUint10 acc (l ++ [c]) = match parseUint10 acc l with | .ok v => parseUint10 v [c] | x => x
 | [], acc, c => rfl
 | d :: l, acc, c => by
  simp only [List.cons_append, parseUint10]
  split
  ·split
   ·rfl
   ·split
    ·rfl
    ·exact parseUint10_snoc l _ c
  ·rfl
theorem parse_dec : ∀ u : Nat, u < 18446744073709551616 → parseUint10 0 (decDigits u) = .ok u := by
 intro u
 induction u using Nat.strongRecOn with
 | _ u ih =>
  intro hu
  rw [decDigits]
  split
  ·rename_i h
   have e : (UInt8.ofNat (48 + u)).toNat = 48 + u := by simp; omega
   simp only [parseUint10, e]
   rw [if_pos (by omega), if_neg (by omega), if_neg (by omega)]
   congr 1
   omega
  ·rename_i h
   rw [parseUint10_snoc, ih (u / 10) (by omega) (by omega)]
   have e : (UInt8.ofNat (48 + u % 10)).toNat = 48 + u % 10 := by simp; omega
   simp only [parseUint10, e]
   rw [if_pos (by omega), if_neg (by omega), if_neg (by omega)]
   congr 1
   omega
theorem dec_nil (u : Nat) : decDigits u ≠ [] := by
 rw [decDigits]
 split <;> simp
theorem atoi_itoa (n : Int) (h0 : -9223372036854775808 ≤ n) (h1 : n ≤ 9223372036854775807) : atoiAll (itoa n) = .ok n := by
 unfold itoa
 split
 ·rename_i hn
  simp only [atoiAll]
  have e45 : (45 : UInt8).toNat = 45 := rfl
  rw [if_pos (by rw [e45]; exact .inr rfl)]
  unfold parseMag
  rw [if_neg (dec_nil _), parse_dec _ (by omega)]
  simp only
  rw [if_neg (by simp), if_neg (by simp; omega), if_pos e45]
  congr 1
  omega
 ·rename_i hn
  have hd := dec_digit n.toNat
  cases hl : decDigits n.toNat with
  | nil => exact absurd hl (dec_nil _)
  | cons c r =>
   have hc := hd c (by rw [hl]; exact List.mem_cons_self)
   simp only [atoiAll]
   rw [if_neg (by omega)]
   unfold parseMag
   rw [if_neg (by simp), ← hl, parse_dec _ (by omega)]
   simp only
   rw [if_neg (by omega), if_neg (by omega), if_neg (by omega)]
   congr 1
   omega
def accum (u : Nat) : List UInt8 → Nat
 | [] => u
 | c :: l => accum (if 48 ≤ c.toNat ∧ c.toNat ≤ 57 ∧ u ≤ 1125899906842624 then 10 * u + (c.toNat - 48) else u) l
theorem accum_append : ∀ (a b : List UInt8) (u : Nat), accum u (a ++ b) = accum (accum u a) b
 | [], _, _ => rfl
 | c :: a, b, u => by simp only [List.cons_append, accum]; exact accum_append a b _
theorem accum_noComma : ∀ (l : List UInt8) (u : Nat), accum u (noComma l) = accum u l
 | [], _ => rfl
 | c :: l, u => by
  by_cases h : c = 44
  ·subst h
   have : noComma (44 :: l) = noComma l := by simp [noComma]
   rw [this, accum_noComma l u]
   simp [accum]
  ·have : noComma (c :: l) = c :: noComma l := by simp [noComma, h]
   rw [this]
   simp only [accum]
   exact accum_noComma l _
theorem accum_dec : ∀ u : Nat, u ≤ 1125899906842624 → accum 0 (decDigits u) = u := by
 intro u
 induction u using Nat.strongRecOn with
 | _ u ih =>
  intro hu
  rw [decDigits]
  split
  ·rename_i h
   have e : (UInt8.ofNat (48 + u)).toNat = 48 + u := by simp; omega
   simp only [accum, e]
   rw [if_pos (by omega)]
   omega
  ·rename_i h
   have e : (UInt8.ofNat (48 + u % 10)).toNat = 48 + u % 10 := by simp; omega
   rw [accum_append, ih (u / 10) (by omega) (by omega)]
   simp only [accum, e]
   rw [if_pos (by omega)]
   omega
theorem accum_money (n : Int) (h : n.natAbs ≤ 1125899906842624) : accum 0 (moneyL n) = n.natAbs := by
 rw [← accum_noComma, noComma_money]
 unfold itoa
 split
 ·have : accum 0 (45 :: decDigits n.natAbs) = accum 0 (decDigits n.natAbs) := by simp [accum]
  rw [this, accum_dec _ h]
 ·rename_i hn
  have e : n.toNat = n.natAbs := by omega
  rw [e, accum_dec _ h]
def small (n : Int) : Bool := decide (-1125899906842624 ≤ n ∧ n ≤ 1125899906842624)
def parseP (s : List UInt8) : Option Int := match atoiAll (noComma s) with
 | .ok n => if moneyL n = s then some n else none
 | _ => none
def moneyOf (s : List UInt8) : Int × Int := match parseP s with
 | some n => if small n then (n, 0) else (0, 6)
 | none => (0, 6)
def amountN (s : List UInt8) : Int :=
 let u : Int := if s.length ≤ 40 then accum 0 s else 0
 if s.head? = some 45 then -u else u
def amountOf (s : List UInt8) : Int × Int := if small (amountN s) = true ∧ moneyL (amountN s) = s then (amountN s, 0) else (0, 6)
theorem cgrp_length (n : Nat) : ∀ (l : List UInt8) (i : Nat), (cgrp n i l).length ≤ 2 * l.length
 | [], _ => by simp [cgrp]
 | c :: l, i => by
  have := cgrp_length n l (i + 1)
  simp only [cgrp, List.length_append, List.length_cons]
  split <;> simp <;> omega
theorem dec_len : ∀ u : Nat, u ≤ 1125899906842624 → (decDigits u).length ≤ 16 := by
 intro u hu
 rw [decDigits_length]
 have h := lt_pow_nDigits u
 refine Classical.byContradiction fun hc => ?_
 have h17 : 17 ≤ nDigits u := by omega
 have key : ∀ k v : Nat, k + 1 ≤ nDigits v → 10 ^ k ≤ v ∨ k = 0 := by
  intro k
  induction k with
  | zero => intro v _; exact .inr rfl
  | succ k ih =>
   intro v hv
   have hb : ¬ v < 10 := fun hs => by rw [nDigits_small hs] at hv; omega
   rw [nDigits_big hb] at hv
   rcases ih (v / 10) (by omega) with h | h
   ·refine .inl ?_
    have : 10 ^ k * 10 ≤ v := by
     have := Nat.mul_le_mul_right 10 h
     omega
    rw [Nat.pow_succ]; exact this
   ·subst h; exact .inl (by simp; omega)
 rcases key 16 u (by omega) with h | h
 ·simp at h; omega
 ·omega
theorem money_len (n : Int) (h : n.natAbs ≤ 1125899906842624) : (moneyL n).length ≤ 40 := by
 unfold moneyL groupL
 split
 ·have h1 := cgrp_length (decDigits n.natAbs).length (decDigits n.natAbs) 0
  have h2 := dec_len n.natAbs h
  simp only [List.length_cons]; omega
 ·rename_i hn
  have h1 := cgrp_length (decDigits n.toNat).length (decDigits n.toNat) 0
  have h2 := dec_len n.toNat (by omega)
  omega
theorem money_head (n : Int) : (moneyL n).head? = some 45 ↔ n < 0 := by
 unfold moneyL
 split
 ·rename_i hn; simp [hn]
 ·rename_i hn
  simp only [hn, iff_false]
  unfold groupL
  have hd := dec_digit n.toNat
  cases hl : decDigits n.toNat with
  | nil => exact absurd hl (dec_nil _)
  | cons c r =>
   have hc := hd c (by rw [hl]; exact List.mem_cons_self)
   simp only [cgrp]
   rw [if_neg (by omega)]
   simp
   intro e
   rw [e] at hc
   simp at hc
theorem amount_money (n : Int) (h : n.natAbs ≤ 1125899906842624) : amountN (moneyL n) = n := by
 unfold amountN
 simp only
 rw [if_pos (money_len n h), accum_money n h]
 by_cases hn : n < 0
 ·rw [if_pos ((money_head n).2 hn)]; omega
 ·rw [if_neg (fun hc => hn ((money_head n).1 hc))]; omega
theorem readings (s : List UInt8) : moneyOf s = amountOf s := by
 by_cases hex : ∃ n : Int, n.natAbs ≤ 1125899906842624 ∧ moneyL n = s
 ·obtain ⟨n, hn, rfl⟩ := hex
  have hs : small n = true := by unfold small; simp; omega
  have hp : parseP (moneyL n) = some n := by
   unfold parseP
   rw [noComma_money, atoi_itoa n (by omega) (by omega)]
   simp
  unfold moneyOf amountOf
  rw [hp, amount_money n hn]
  simp [hs]
 ·have hno : ∀ n : Int, small n = true → moneyL n ≠ s := fun n hs he => hex ⟨n, by unfold small at hs; simp at hs; omega, he⟩
  have h1 : amountOf s = (0, 6) := by
   unfold amountOf
   rw [if_neg (fun hc => hno _ hc.1 hc.2)]
  have h2 : moneyOf s = (0, 6) := by
   unfold moneyOf
   split
   ·rename_i n hp
    split
    ·rename_i hs
     unfold parseP at hp
     split at hp
     ·split at hp
      ·rename_i m _ hm
       cases hp
       exact absurd hm (hno _ hs)
      ·cases hp
     ·cases hp
    ·rfl
   ·rfl
  rw [h1, h2]
end Go.Proofs.YtedpaajpfaoffaaGreatDoor
namespace Go.Proofs.YtedpaajpfaoffaaGreatDoor
open Go.Lib
theorem comma_index : ∀ s : List UInt8, ((44 : UInt8) ∉ s ∧ index s [44] = -1) ∨ ∃ (i : Nat) (a r : List UInt8), index s [44] = i ∧ s = a ++ 44 :: r ∧ a.length = i ∧ (44 : UInt8) ∉ a
 | [] => .inl ⟨by simp, by simp [index]⟩
 | b :: l => by
  by_cases h : b = 44
  ·subst h
   exact .inr ⟨0, [], l, by simp [index, List.isPrefixOf], rfl, rfl, by simp⟩
  ·have hp : ([44] : List UInt8).isPrefixOf (b :: l) = false := by
    simp [List.isPrefixOf]
    exact fun e => h e.symm
   rcases comma_index l with ⟨h1, h2⟩ | ⟨i, a, r, h1, h2, h3, h4⟩
   ·refine .inl ⟨by simp [h1]; exact fun e => h e.symm, ?_⟩
    simp [index, hp, h2]
   ·refine .inr ⟨i + 1, b :: a, r, ?_, by rw [h2]; rfl, by simp [h3], by simp [h4]; exact fun e => h e.symm⟩
    have hne : ¬ ((i : Int) = -1) := by omega
    simp [index, hp, h1, hne]
theorem noComma_none {s : List UInt8} (h : (44 : UInt8) ∉ s) : noComma s = s := by
 unfold noComma
 rw [List.filter_eq_self]
 intro c hc
 simp
 exact fun e => h (e ▸ hc)
theorem noComma_cut {a r : List UInt8} (h : (44 : UInt8) ∉ a) : noComma (a ++ 44 :: r) = a ++ noComma r := by
 rw [noComma_append, noComma_none h]
 congr 1
theorem replaceK_comma : ∀ (k : Nat) (s : List UInt8), s.count 44 ≤ k → replaceK [44] [] k s = noComma s
 | 0, s, h => by
  have : (44 : UInt8) ∉ s := List.count_eq_zero.1 (by omega)
  rw [noComma_none this]; rfl
 | k + 1, s, h => by
  rcases comma_index s with ⟨h1, h2⟩ | ⟨i, a, r, h1, h2, h3, h4⟩
  ·rw [noComma_none h1]
   simp [replaceK, h2]
  ·have hc : r.count 44 ≤ k := by
    rw [h2, List.count_append, List.count_cons_self] at h
    omega
   rw [replaceK_hit _ _ _ _ i h1]
   subst h2
   rw [noComma_cut h4, ← replaceK_comma k r hc, ← h3]
   simp
theorem countFrom_comma : ∀ (f : Nat) (s : List UInt8), s.length < f → countFrom [44] f s = s.count 44
 | 0, s, h => by omega
 | f + 1, s, h => by
  rcases comma_index s with ⟨h1, h2⟩ | ⟨i, a, r, h1, h2, h3, h4⟩
  ·simp [countFrom, h2, List.count_eq_zero.2 h1]
  ·have hne : ¬ ((i : Int) = -1) := by omega
   have hr : r.length < f := by
    have := congrArg List.length h2
    simp at this
    omega
   have hd : s.drop (i + 1) = r := by
    rw [h2, ← h3]
    simp
   simp only [countFrom, h1]
   simp [hne, hd, countFrom_comma f r hr]
   rw [h2, List.count_append, List.count_cons_self, List.count_eq_zero.2 h4]
   omega
theorem replaceAll_comma (s : List UInt8) : replaceAll s [44] [] = noComma s := by
 unfold replaceAll replace replaceNum
 have : count s [44] = s.count 44 := countFrom_comma _ s (by omega)
 simp [this, replaceK_comma]
end Go.Proofs.YtedpaajpfaoffaaGreatDoor
namespace Go.Proofs.YtedpaajpfaoffaaGreatDoor
open Go.Lib
theorem dec_step {u : Nat} (h : 9 < u) : decDigits u = decDigits (u / 10) ++ [UInt8.ofNat (48 + u % 10)] := by
 rw [decDigits, dif_neg (by omega)]
theorem dec_last {u : Nat} (h : u ≤ 9) : decDigits u = [UInt8.ofNat (48 + u)] := decDigits_one (by omega)
theorem dec_parts (a b : Nat) (ha : 0 < a) (hb : b ≤ 9) : decDigits a ++ decDigits b = decDigits (10 * a + b) := by
 rw [dec_step (u := 10 * a + b) (by omega), dec_last hb]
 congr 2
 ·omega
 ·congr 1; omega
def plainL (n : Int) : List UInt8 :=
 if 0 ≤ n then decDigits n.toNat
 else if n.natAbs / 10 = 0 then 45 :: decDigits (n.natAbs % 10)
 else 45 :: (decDigits (n.natAbs / 10) ++ decDigits (n.natAbs % 10))
theorem plain_itoa (n : Int) : plainL n = itoa n := by
 unfold plainL itoa
 by_cases h : 0 ≤ n
 ·rw [if_pos h, if_neg (by omega)]
 ·rw [if_neg h, if_pos (show n < 0 by omega)]
  by_cases h0 : n.natAbs / 10 = 0
  ·rw [if_pos h0]
   congr 2
   omega
  ·rw [if_neg h0, dec_parts _ _ (by omega) (by omega)]
   congr 2
   omega
theorem cgrp_snoc (n : Nat) : ∀ (l : List UInt8) (i : Nat) (c : UInt8), cgrp n i (l ++ [c]) = cgrp n i l ++ (if 0 < i + l.length ∧ (n - (i + l.length)) % 3 = 0 then [44, c] else [c])
 | [], i, c => by simp [cgrp]
 | d :: l, i, c => by
  simp only [List.cons_append, cgrp, cgrp_snoc n l (i + 1) c, List.append_assoc, List.length_cons]
  rw [show i + 1 + l.length = i + (l.length + 1) by omega]
theorem cgrp_take (s : List UInt8) (k : Nat) (c : UInt8) (hc : s[k]? = some c) : cgrp s.length 0 (s.take (k + 1)) = cgrp s.length 0 (s.take k) ++ (if 0 < k ∧ (s.length - k) % 3 = 0 then [44, c] else [c]) := by
 have hk := (List.getElem?_eq_some_iff.1 hc).1
 have e : s.take (k + 1) = s.take k ++ [c] := by rw [List.take_add_one, hc]; rfl
 rw [e, cgrp_snoc]
 have hl : (s.take k).length = k := by simp; omega
 rw [hl, Nat.zero_add]
end Go.Proofs.YtedpaajpfaoffaaGreatDoor
