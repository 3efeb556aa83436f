/- What is read has one encoding alone (as in XCanon, for the seat of the reports). No program is walked. -/
import Derived.Test.YtedpaajpfaoffaaGreatDoorSdA
import Derived.Test.YtedpaajpfaoffaaGreatDoorSd6a
import Derived.Test.YtedpaajpfaoffaaGreatDoorScA
set_option linter.all false
namespace Go.Proofs.YtedpaajpfaoffaaGreatDoor
open Go.RowKit
theorem pGroup_canon (l : List UInt8) : ∀ (k f i n a m a' : Nat), pGroup l k i n a = .ok (m, a') → k ≤ f + 1 → ∃ q, m = n + q * 2 ^ (7 * i) ∧ (0 < i → 0 < q) ∧ a < a' ∧ a' ≤ l.length ∧ l.drop a = grpF f q ++ l.drop a'
 | 0, f, i, n, a, m, a', h, _ => by unfold pGroup at h; cases h
 | k + 1, f, i, n, a, m, a', h, hf => by
  unfold pGroup at h
  rcases Nat.lt_or_ge a l.length with ha | ha
  ·rw [List.getElem?_eq_getElem ha] at h
   have hd : l.drop a = l[a] :: l.drop (a + 1) := List.drop_eq_getElem_cons ha
   generalize l[a] = b at *
   simp only at h
   by_cases h9 : i = 9 ∧ 1 < b.toNat % 128
   ·rw [if_pos h9] at h; cases h
   ·rw [if_neg h9] at h
    by_cases hb : b.toNat < 128
    ·rw [if_pos hb] at h
     by_cases h0 : b.toNat = 0 ∧ 0 < i
     ·rw [if_pos h0] at h; cases h
     ·rw [if_neg h0] at h
      injection h with h
      injection h with h1 h2
      subst h2
      have e : b.toNat % 128 = b.toNat := by omega
      rw [e] at h1
      refine ⟨b.toNat, h1.symm, fun hi => by omega, by omega, by omega, ?_⟩
      have eb : UInt8.ofNat b.toNat = b := by simp
      have e2 : grpF f b.toNat = [b] := by cases f with
       | zero => unfold grpF; rw [eb]
       | succ f => unfold grpF; rw [if_pos hb, eb]
      rw [e2, hd]
      rfl
    ·rw [if_neg hb] at h
     cases f with
     | zero =>
      obtain rfl : k = 0 := by omega
      unfold pGroup at h
      cases h
     | succ f =>
      obtain ⟨q, hm, hq, ha1, ha2, hdd⟩ := pGroup_canon l k f (i + 1) _ (a + 1) m a' h (by omega)
      have hq0 := hq (by omega)
      have hlt := UInt8.toNat_lt b
      refine ⟨b.toNat % 128 + 128 * q, ?_, fun _ => by omega, by omega, ha2, ?_⟩
      ·rw [hm, two_pow7, Nat.add_mul]
       have : q * (128 * 2 ^ (7 * i)) = 128 * q * 2 ^ (7 * i) := by rw [← Nat.mul_assoc, Nat.mul_comm q 128]
       omega
      ·have e2 : grpF (f + 1) (b.toNat % 128 + 128 * q) = b :: grpF f q := by
        rw [grpF, if_neg (by omega)]
        have e3 : (b.toNat % 128 + 128 * q) % 128 + 128 = b.toNat := by omega
        have e4 : (b.toNat % 128 + 128 * q) / 128 = q := by omega
        rw [e3, e4]
        simp
       rw [e2, hd, hdd]
       rfl
  ·rw [List.getElem?_eq_none ha] at h
   cases h
def Part (l : List UInt8) (a a' : Nat) (e : List UInt8) : Prop := a ≤ a' ∧ a' ≤ l.length ∧ l.drop a = e ++ l.drop a'
theorem Part.take {l e : List UInt8} {a a' : Nat} (h : Part l a a' e) : l.take a' = l.take a ++ e := by
 have h1 : l.take a ++ e ++ l.drop a' = l.take a' ++ l.drop a' := by rw [List.append_assoc, ← h.2.2, List.take_append_drop, List.take_append_drop]
 exact (List.append_cancel_right h1).symm
theorem Part.trans {l e f : List UInt8} {a b c : Nat} (h : Part l a b e) (h2 : Part l b c f) : Part l a c (e ++ f) :=
 ⟨Nat.le_trans h.1 h2.1, h2.2.1, by rw [h.2.2, h2.2.2, List.append_assoc]⟩
section
variable {l : List UInt8} {a : Nat}
theorem canon_group {k m a' : Nat} (h : pGroup l k 0 0 a = .ok (m, a')) (hk : k ≤ 10) : Part l a a' (grp m) := by
 obtain ⟨q, hm, _, h1, h2, h3⟩ := pGroup_canon l k 9 0 0 a m a' h hk
 have : m = q := by simpa using hm
 subst this
 exact ⟨by omega, h2, h3⟩
theorem canon_uint {x : Int} {a' : Nat} (h : pUint l a = .ok (x, a')) : 0 ≤ x ∧ Part l a a' (grp x.toNat) := by
 unfold pUint at h
 cases hg : pGroup l 9 0 0 a with
 | error k => rw [hg] at h; cases h
 | ok y =>
  rw [hg] at h
  injection h with h
  injection h with h1 h2
  subst h1 h2
  exact ⟨by omega, by simpa using canon_group hg (by omega)⟩
theorem fold_unfold (u : Nat) : fold (unfold' u) = u := by
 unfold fold unfold'
 by_cases h : u % 2 = 1
 ·rw [if_pos h, if_pos (by omega)]
  omega
 ·rw [if_neg h, if_neg (by omega)]
  omega
theorem canon_int {x : Int} {a' : Nat} (h : pInt l a = .ok (x, a')) : Part l a a' (grp (fold x)) := by
 unfold pInt at h
 cases hg : pGroup l 10 0 0 a with
 | error k => rw [hg] at h; cases h
 | ok y =>
  rw [hg] at h
  injection h with h
  injection h with h1 h2
  subst h1 h2
  rw [fold_unfold]
  exact canon_group hg (by omega)
theorem canon_count {limit x : Int} {a' : Nat} (h : pCount l limit a = .ok (x, a')) : 0 ≤ x ∧ x ≤ limit ∧ Part l a a' (grp x.toNat) := by
 have h0 := pCount_ok h
 unfold pCount at h
 cases hg : pGroup l 9 0 0 a with
 | error k => rw [hg] at h; cases h
 | ok y =>
  rw [hg] at h
  simp only at h
  split at h
  ·cases h
  ·split at h
   ·cases h
   ·injection h with h
    injection h with h1 h2
    subst h1 h2
    exact ⟨by omega, h0.2.1, by simpa using canon_group hg (by omega)⟩
theorem canon_part {limit : Int} {x : List UInt8} {a' : Nat} (h : pPart l limit a = .ok (x, a')) : (x.length : Int) ≤ limit ∧ Part l a a' (grp x.length ++ x) := by
 unfold pPart at h
 cases hg : pCount l limit a with
 | error k => rw [hg] at h; cases h
 | ok y =>
  rw [hg] at h
  simp only at h
  obtain ⟨h0, h1, h2⟩ := canon_count hg
  split at h
  ·cases h
  ·rename_i hlt
   injection h with h
   injection h with e1 e2
   subst e1 e2
   have hlen : ((l.drop y.2).take y.1.toNat).length = y.1.toNat := by rw [List.length_take, List.length_drop]; omega
   rw [hlen]
   refine ⟨by omega, h2.trans ⟨by omega, by have := h2.2.1; omega, ?_⟩⟩
   rw [← List.drop_drop, List.take_append_drop]
theorem canon_list : ∀ (n a : Nat) (xs : List Int) (a' : Nat), a ≤ l.length → pList l n a = .ok (xs, a') → xs.length = n ∧ Part l a a' (encs xs)
 | 0, a, xs, a', ha, h => by
  unfold pList at h
  injection h with h
  injection h with h1 h2
  subst h1 h2
  exact ⟨rfl, Nat.le_refl _, ha, rfl⟩
 | n + 1, a, xs, a', ha, h => by
  unfold pList at h
  cases hi : pInt l a with
  | error k => rw [hi] at h; cases h
  | ok x =>
   rw [hi] at h
   simp only at h
   have hp := canon_int hi
   cases hl : pList l n x.2 with
   | error k => rw [hl] at h; cases h
   | ok ys =>
    rw [hl] at h
    injection h with h
    injection h with h1 h2
    subst h1 h2
    obtain ⟨e1, e2⟩ := canon_list n x.2 ys.1 ys.2 hp.2.1 hl
    exact ⟨by simp [e1], hp.trans e2⟩
theorem canon_ints {limit : Int} {x : List Int} {a' : Nat} (h : pInts l limit a = .ok (x, a')) : (x.length : Int) ≤ limit ∧ Part l a a' (grp x.length ++ encs x) := by
 unfold pInts at h
 cases hg : pCount l limit a with
 | error k => rw [hg] at h; cases h
 | ok y =>
  rw [hg] at h
  simp only at h
  obtain ⟨h0, h1, h2⟩ := canon_count hg
  obtain ⟨e1, e2⟩ := canon_list _ _ _ _ h2.2.1 h
  rw [← e1] at h2
  exact ⟨by omega, h2.trans e2⟩
end
end Go.Proofs.YtedpaajpfaoffaaGreatDoor
namespace Go.Proofs.YtedpaajpfaoffaaGreatDoor
open Go.RowKit
def splitL : List UInt8 → List (List UInt8)
 | [] => [[]]
 | c :: t => if c = 32 then [] :: splitL t else match splitL t with
  | [] => [[c]]
  | x :: r => (c :: x) :: r
theorem splitL_ne : ∀ s, splitL s ≠ []
 | [] => by simp [splitL]
 | c :: t => by
  unfold splitL
  split
  ·simp
  ·split <;> simp
theorem splitL_cons {c : UInt8} {t : List UInt8} (h : c ≠ 32) {x : List UInt8} {r : List (List UInt8)} (e : splitL t = x :: r) : splitL (c :: t) = (c :: x) :: r := by rw [splitL, if_neg h, e]
theorem splitL_none : ∀ {s : List UInt8}, (32 : UInt8) ∉ s → splitL s = [s]
 | [], _ => rfl
 | c :: t, h => splitL_cons (fun e => h (by simp [e])) (splitL_none (fun hm => h (List.mem_cons_of_mem _ hm)))
theorem splitL_at : ∀ {a r : List UInt8}, (32 : UInt8) ∉ a → splitL (a ++ 32 :: r) = a :: splitL r
 | [], r, h => by simp [splitL]
 | c :: t, r, h => by
  rw [List.cons_append]
  exact splitL_cons (fun e => h (by simp [e])) (splitL_at (fun hm => h (List.mem_cons_of_mem _ hm)))
theorem join_cons2 (x y : List UInt8) (r : List (List UInt8)) : Lib.join (x :: y :: r) [32] = x ++ 32 :: Lib.join (y :: r) [32] := by
 rw [Lib.join_cons, Lib.join_cons]
 simp [Lib.joinTail]
theorem splitL_join : ∀ (xs : List (List UInt8)) (x : List UInt8), (∀ y ∈ x :: xs, (32 : UInt8) ∉ y) → splitL (Lib.join (x :: xs) [32]) = x :: xs
 | [], x, h => by
  rw [Lib.join_one]
  exact splitL_none (h x (by simp))
 | y :: ys, x, h => by
  rw [join_cons2, splitL_at (h x (by simp)), splitL_join ys y (fun z hz => h z (List.mem_cons_of_mem _ hz))]
theorem sp_dec (u : Nat) : (32 : UInt8) ∉ Lib.decDigits u := fun h => by
 have := dec_digit u 32 h
 revert this
 decide
theorem sp_itoa (n : Int) : (32 : UInt8) ∉ Lib.itoa n := by
 unfold Lib.itoa
 split
 ·intro h
  rcases List.mem_cons.1 h with h | h
  ·revert h; decide
  ·exact sp_dec _ h
 ·exact sp_dec _
theorem mem_cgrp (n : Nat) : ∀ (l : List UInt8) (i : Nat) (c : UInt8), c ∈ cgrp n i l → c = 44 ∨ c ∈ l
 | [], i, c, h => by simp [cgrp] at h
 | a :: l, i, c, h => by
  unfold cgrp at h
  rcases List.mem_append.1 h with h | h
  ·split at h
   ·simp at h
    rcases h with h | h
    ·exact .inl h
    ·exact .inr (by simp [h])
   ·simp at h
    exact .inr (by simp [h])
  ·rcases mem_cgrp n l (i + 1) c h with h | h
   ·exact .inl h
   ·exact .inr (List.mem_cons_of_mem _ h)
theorem sp_group (u : Nat) : (32 : UInt8) ∉ groupL (Lib.decDigits u) := fun h => by
 rcases mem_cgrp _ _ _ _ h with h | h
 ·revert h; decide
 ·exact sp_dec _ h
theorem sp_money (n : Int) : (32 : UInt8) ∉ moneyL n := by
 unfold moneyL
 split
 ·intro h
  rcases List.mem_cons.1 h with h | h
  ·revert h; decide
  ·exact sp_group _ h
 ·exact sp_group _
theorem sp_phase (k : Int) : (32 : UInt8) ∉ phaseL k := by unfold phaseL; split <;> (try split) <;> (try split) <;> (try split) <;> decide
theorem sp_kind (k : Int) : (32 : UInt8) ∉ kindL k := by unfold kindL; split <;> (try split) <;> (try split) <;> decide
theorem sp_opt (k : Int) : (32 : UInt8) ∉ optL k := by unfold optL; split <;> (try split) <;> (try split) <;> decide
theorem sp_form {l : List UInt8} {x : Bool × Nat} (h : formI l = some x) : (32 : UInt8) ∉ l := fun hm => by
 obtain ⟨n, N⟩ := x
 obtain ⟨h1, -, -, -⟩ := formI_inv h
 have hd := isDec_all h1
 by_cases h45 : l.head? = some 45
 ·cases l with
  | nil => cases h45
  | cons c t =>
   have hc : c = 45 := by simpa using h45
   subst hc
   rcases List.mem_cons.1 hm with h | h
   ·revert h; decide
   ·have := hd 32 (by rw [unsigned_cons]; exact h)
    revert this; decide
 ·rw [unsigned_other h45] at hd
  have := hd 32 hm
  revert this; decide
theorem sp_rat {l : List UInt8} (h : ratOK l = true) : (32 : UInt8) ∉ l := by
 unfold ratOK at h
 cases hc : cutL l with
 | none =>
  rw [hc] at h
  cases hf : formI l with
  | none => simp only [hf] at h; cases h
  | some x => exact sp_form hf
 | some y =>
  rw [hc] at h
  have e := cutL_eq hc
  cases hf : formI y.1 with
  | none => simp only [hf] at h; cases h
  | some x =>
   cases hg : formI y.2 with
   | none => simp only [hf, hg] at h; cases h
   | some z =>
    intro hm
    rw [e] at hm
    rcases List.mem_append.1 hm with hm | hm
    ·exact sp_form hf hm
    ·rcases List.mem_cons.1 hm with hm | hm
     ·revert hm; decide
     ·exact sp_form hg hm
def numO (s : List UInt8) : Option Int := match Lib.atoiAll s with
 | .ok n => some n
 | _ => none
def idxO : List (List UInt8) → List UInt8 → Option Nat
 | [], _ => none
 | y :: ys, x => if y = x then some 0 else (idxO ys x).map (· + 1)
def phasesN : List (List UInt8) := [phaseL 1, phaseL 2, phaseL 3, phaseL 4, phaseL 5]
def kindsN : List (List UInt8) := [kindL 1, kindL 2, kindL 3, kindL 4]
def optsN : List (List UInt8) := [optL 0, optL 1, optL 2, optL 3]
def foldO {α σ : Type} (f : σ → α → Option σ) : σ → List α → Option σ
 | s, [] => some s
 | s, x :: xs => (f s x).bind fun t => foldO f t xs
def mapO {α β : Type} (f : α → Option β) : List α → Option (List β)
 | [] => some []
 | x :: xs => (f x).bind fun y => (mapO f xs).map fun ys => y :: ys
def evLineW (st : WS) (line : List UInt8) : Option WS := match splitL line with
 | [a, b, c, d] => (numO a).bind fun x => (idxO kindsN b).bind fun k => (idxO optsN c).bind fun o => (parseP d).map fun m => wUint (wUint (wUint (wUint st x) ((k : Int) + 1)) (o : Int)) m
 | _ => none
def evW (st : WS) (body : List (List UInt8)) : Option WS := foldO evLineW (wUint st body.length) body
def tailN : List (List UInt8) → List (List UInt8)
 | [] => []
 | _ :: r => match r with
  | [] => []
  | y :: q => if y = [45] then q else y :: q
def numsO (f : List UInt8 → Option Int) (line : List UInt8) : Option (List Int) := mapO f (tailN (splitL line))
def grpStep (acc : List (List (List (List UInt8)))) (line : List UInt8) : Option (List (List (List (List UInt8)))) :=
 if (splitL line).length = 2 then some (acc ++ [[splitL line]]) else match acc.getLast? with
  | some g => if (splitL line).length = 4 then some (acc.dropLast ++ [g ++ [splitL line]]) else none
  | none => none
def slotW (st : WS) (p : List (List UInt8)) : Option WS := match p with
 | [a, b, c, d] => (numO a).bind fun x => (numO b).bind fun y => (numO c).map fun z => wBytes (wUint (wUint (wUint st x) y) z) d
 | _ => none
def areaW (st : WS) (g : List (List (List UInt8))) : Option WS := match g with
 | [_, b] :: slots => (numO b).bind fun x => foldO slotW (wUint (wUint st x) slots.length) slots
 | _ => none
def areasW (st : WS) (body : List (List UInt8)) : Option WS := (foldO grpStep [] body).bind fun gs => foldO areaW (wUint st gs.length) gs
def bodyW (st : WS) (ph : Nat) (body : List (List UInt8)) : Option WS :=
 if ph = 1 then evW st body
 else if ph = 2 then match body with
  | [x, y] => (numsO numO x).bind fun ns => (numsO parseP y).map fun ms => wInts (wInts st ns) ms
  | _ => none
 else areasW st body
def parseL (xs : List (List UInt8)) : Option (List UInt8) :=
 if xs.length < 2 then none else
 (idxO phasesN (xs.headD [])).bind fun i => match splitL (xs.getLastD []) with
  | [_, q] => (bodyW (wUint (0, []) ((i : Int) + 1)) (i + 1) xs.tail.dropLast).bind fun st => (idxO phasesN q).bind fun j =>
   if (wUint st ((j : Int) + 1)).1 = 0 ∧ resL (wUint st ((j : Int) + 1)).2 = some xs then some (wUint st ((j : Int) + 1)).2 else none
  | _ => none
theorem parseL_res {xs : List (List UInt8)} {b : List UInt8} (h : parseL xs = some b) : resL b = some xs := by
 unfold parseL at h
 split at h
 ·cases h
 ·cases hi : idxO phasesN (xs.headD []) with
  | none => rw [hi] at h; cases h
  | some i =>
   rw [hi] at h
   simp only [Option.bind_some] at h
   split at h
   ·rename_i q hq
    cases hb : bodyW (wUint (0, []) ((i : Int) + 1)) (i + 1) xs.tail.dropLast with
    | none => rw [hb] at h; cases h
    | some st =>
     rw [hb] at h
     simp only [Option.bind_some] at h
     cases hj : idxO phasesN q with
     | none => rw [hj] at h; cases h
     | some j =>
      rw [hj] at h
      simp only [Option.bind_some] at h
      split at h
      ·rename_i hc
       cases h
       exact hc.2
      ·cases h
   ·cases h
theorem idx_phase {k : Int} (h1 : 1 ≤ k) (h5 : k ≤ 5) : idxO phasesN (phaseL k) = some (k - 1).toNat := by
 have : k = 1 ∨ k = 2 ∨ k = 3 ∨ k = 4 ∨ k = 5 := by omega
 rcases this with rfl | rfl | rfl | rfl | rfl <;> decide
theorem idx_kind {k : Int} (h1 : 1 ≤ k) (h4 : k ≤ 4) : idxO kindsN (kindL k) = some (k - 1).toNat := by
 have : k = 1 ∨ k = 2 ∨ k = 3 ∨ k = 4 := by omega
 rcases this with rfl | rfl | rfl | rfl <;> decide
theorem idx_opt {k : Int} (h0 : 0 ≤ k) (h3 : k ≤ 3) : idxO optsN (optL k) = some k.toNat := by
 have : k = 0 ∨ k = 1 ∨ k = 2 ∨ k = 3 := by omega
 rcases this with rfl | rfl | rfl | rfl <;> decide
theorem num_itoa {n : Int} (h0 : -9223372036854775808 ≤ n) (h1 : n ≤ 9223372036854775807) : numO (Lib.itoa n) = some n := by
 unfold numO
 rw [atoi_itoa n h0 h1]
theorem parse_money {n : Int} (h0 : -9223372036854775808 ≤ n) (h1 : n ≤ 9223372036854775807) : parseP (moneyL n) = some n := by
 unfold parseP
 rw [noComma_money, atoi_itoa n h0 h1]
 simp
theorem put_part {l e : List UInt8} {a a' : Nat} (h : Part l a a' e) (hl : l.length ≤ 65536) : wPut (0, l.take a) e = (0, l.take a') := by
 have h2 : (l.take a').length = (l.take a).length + e.length := by rw [h.take, List.length_append]
 have h3 : (l.take a').length ≤ 65536 := by rw [List.length_take]; omega
 unfold wPut
 rw [if_pos rfl, if_pos (by show (l.take a).length + e.length ≤ 65536; omega), h.take]
theorem uint_part {l : List UInt8} {a a' : Nat} {x : Int} (h : pUint l a = .ok (x, a')) (hl : l.length ≤ 65536) : wUint (0, l.take a) x = (0, l.take a') := by
 obtain ⟨h0, hp⟩ := canon_uint h
 unfold wUint
 rw [if_neg (by omega), put_part hp hl]
theorem limO_p {l : List UInt8} {lo hi : Int} {s : Int × Nat} {x : Int × Nat} (h : limO l lo hi s = some x) : s.1 = 0 ∧ pUint l s.2 = .ok x := by
 unfold limO at h
 split at h
 ·rename_i h0
  refine ⟨h0, ?_⟩
  split at h
  ·rename_i y hy
   split at h
   ·cases h; exact hy
   ·cases h
  ·cases h
 ·cases h
theorem lim_part {l : List UInt8} {lo hi : Int} {s x : Int × Nat} (h : limO l lo hi s = some x) (hl : l.length ≤ 65536) : wUint (0, l.take s.2) x.1 = (0, l.take x.2) := uint_part (limO_p h).2 hl
theorem evStep_inv {l : List UInt8} {acc : List (List UInt8)} {a : Nat} {y : List (List UInt8) × Nat} (h : evStep l acc a = some y) : ∃ s k o p, limO l 0 maxI (0, a) = some s ∧ limO l 1 4 (0, s.2) = some k ∧ limO l 0 3 (0, k.2) = some o ∧ limO l 0 maxI (0, o.2) = some p ∧ y = (acc ++ [evLine s.1 k.1 o.1 p.1], p.2) := by
 unfold evStep at h
 cases hs : limO l 0 maxI (0, a) with
 | none => rw [hs] at h; cases h
 | some s =>
  rw [hs] at h
  simp only [Option.bind_some] at h
  cases hk : limO l 1 4 (0, s.2) with
  | none => rw [hk] at h; cases h
  | some k =>
   rw [hk] at h
   simp only [Option.bind_some] at h
   cases ho : limO l 0 3 (0, k.2) with
   | none => rw [ho] at h; cases h
   | some o =>
    rw [ho] at h
    simp only [Option.bind_some] at h
    cases hp : limO l 0 maxI (0, o.2) with
    | none => rw [hp] at h; cases h
    | some p =>
     rw [hp] at h
     simp only [Option.bind_some] at h
     cases h
     exact ⟨s, k, o, p, rfl, hk, ho, hp, rfl⟩
theorem evLine_back {l : List UInt8} (hl : l.length ≤ 65536) {a : Nat} {s k o p : Int × Nat} (hs : limO l 0 maxI (0, a) = some s) (hk : limO l 1 4 (0, s.2) = some k) (ho : limO l 0 3 (0, k.2) = some o) (hp : limO l 0 maxI (0, o.2) = some p) : evLineW (0, l.take a) (evLine s.1 k.1 o.1 p.1) = some (0, l.take p.2) := by
 obtain ⟨-, -, -, s0, s1, -⟩ := limO_some hs
 obtain ⟨-, k1, k4, -⟩ := limO_some hk
 obtain ⟨-, o0, o3, -⟩ := limO_some ho
 obtain ⟨-, -, -, p0, p1, -⟩ := limO_some hp
 unfold evLineW evLine
 rw [splitL_join _ _ (by
  intro y hy
  simp at hy
  rcases hy with rfl | rfl | rfl | rfl
  ·exact sp_itoa _
  ·exact sp_kind _
  ·exact sp_opt _
  ·exact sp_money _)]
 simp only
 rw [num_itoa (by omega) s1, idx_kind k1 k4, idx_opt o0 o3, parse_money (by omega) p1]
 simp only [Option.bind_some, Option.map_some]
 rw [show (((k.1 - 1).toNat : Int) + 1) = k.1 by omega, show ((o.1.toNat : Int)) = o.1 by omega]
 rw [lim_part hs hl, lim_part hk hl, lim_part ho hl, lim_part hp hl]
theorem ev_back {l : List UInt8} (hl : l.length ≤ 65536) : ∀ (n a : Nat) (acc ls : List (List UInt8)) (a' : Nat), rowsB (evStep l) acc n a = some (ls, a') → ∃ new, ls = acc ++ new ∧ new.length = n ∧ foldO evLineW (0, l.take a) new = some (0, l.take a')
 | 0, a, acc, ls, a', h => by
  rw [rowsB_zero] at h
  cases h
  exact ⟨[], by simp, rfl, rfl⟩
 | n + 1, a, acc, ls, a', h => by
  rw [rowsB_succ] at h
  cases hy : evStep l acc a with
  | none => rw [hy] at h; cases h
  | some y =>
   rw [hy] at h
   simp only [Option.bind_some] at h
   obtain ⟨s, k, o, p, hs, hk, ho, hp, rfl⟩ := evStep_inv hy
   obtain ⟨new, h1, h2, h3⟩ := ev_back hl n p.2 _ ls a' h
   refine ⟨evLine s.1 k.1 o.1 p.1 :: new, by rw [h1]; simp, by simp [h2], ?_⟩
   unfold foldO
   rw [evLine_back hl hs hk ho hp]
   exact h3
theorem evL_back {l : List UInt8} (hl : l.length ≤ 65536) {a : Nat} {x : List (List UInt8) × Nat} (h : evL l a = some x) : evW (0, l.take a) x.1 = some (0, l.take x.2) := by
 unfold evL at h
 cases hn : limO l 0 512 (0, a) with
 | none => rw [hn] at h; cases h
 | some n =>
  rw [hn] at h
  simp only [Option.bind_some] at h
  obtain ⟨new, h1, h2, h3⟩ := ev_back hl _ _ _ x.1 x.2 h
  obtain ⟨-, n0, -⟩ := limO_some hn
  rw [List.nil_append] at h1
  unfold evW
  rw [h1, h2, show ((n.1.toNat : Nat) : Int) = n.1 by omega, lim_part hn hl]
  exact h3
theorem mapO_map {α β : Type} {f : α → Option β} {g : β → α} : ∀ (xs : List β), (∀ n ∈ xs, f (g n) = some n) → mapO f (xs.map g) = some xs
 | [], _ => rfl
 | x :: xs, h => by
  rw [List.map_cons, mapO, h x (by simp), Option.bind_some, mapO_map xs (fun n hn => h n (List.mem_cons_of_mem _ hn))]
  rfl
theorem nums_back {f : List UInt8 → Option Int} {g : Int → List UInt8} {name : List UInt8} (hn : (32 : UInt8) ∉ name) (hg : ∀ n, (32 : UInt8) ∉ g n) (hf : f [45] = none) {xs : List Int} (h : ∀ n ∈ xs, f (g n) = some n) : numsO f (listLine name g xs) = some xs := by
 unfold numsO listLine
 cases xs with
 | nil =>
  rw [if_pos rfl]
  have e : name ++ [32, 45] = Lib.join [name, [45]] [32] := by rw [join_cons2, Lib.join_one]
  rw [e, splitL_join _ _ (by
   intro y hy
   simp at hy
   rcases hy with rfl | rfl
   ·exact hn
   ·decide)]
  rfl
 | cons x xs =>
  rw [if_neg (by simp), splitL_join _ _ (by
   intro y hy
   rcases List.mem_cons.1 hy with rfl | hy
   ·exact hn
   ·obtain ⟨m, -, rfl⟩ := List.mem_map.1 hy
    exact hg m)]
  have hx : g x ≠ [45] := fun e => by
   have := h x (by simp)
   rw [e, hf] at this
   cases this
  show mapO f (tailN (name :: g x :: xs.map g)) = _
  unfold tailN
  simp only
  rw [if_neg hx]
  exact mapO_map (x :: xs) h
theorem ints_part {l : List UInt8} {lim : Int} {a : Nat} {xs : List Int} {s : Int × Nat} (hl : l.length ≤ 65536) (h : rRead [] (pInts l lim) (0, a) = (xs, s)) (h0 : s.1 = 0) : wInts (0, l.take a) xs = (0, l.take s.2) := by
 unfold rRead at h
 rw [if_pos rfl] at h
 cases hp : pInts l lim (0, a).2 with
 | ok x =>
  rw [hp] at h
  injection h with h1 h2
  subst h1 h2
  obtain ⟨-, hpt⟩ := canon_ints (x := x.1) (a' := x.2) hp
  unfold wInts
  exact put_part hpt hl
 | error k =>
  rw [hp] at h
  injection h with h1 h2
  subst h2
  exact absurd h0 (pInts_err hp)
def slotWords (x y z : Int) (p : List UInt8) : List (List UInt8) := [Lib.itoa x, Lib.itoa y, Lib.itoa z, p]
theorem slotStep_inv {l : List UInt8} {acc : List (List UInt8)} {a : Nat} {q : List (List UInt8) × Nat} (h : slotStep l acc a = some q) : ∃ x y z p, limO l 0 maxI (0, a) = some x ∧ limO l 0 maxI (0, x.2) = some y ∧ limO l 0 maxI (0, y.2) = some z ∧ pPart l 65536 z.2 = .ok p ∧ ratOK p.1 = true ∧ q = (acc ++ [Lib.join (slotWords x.1 y.1 z.1 p.1) [32]], p.2) := by
 unfold slotStep at h
 cases hx : limO l 0 maxI (0, a) with
 | none => rw [hx] at h; cases h
 | some x =>
  rw [hx] at h
  simp only [Option.bind_some] at h
  cases hy : limO l 0 maxI (0, x.2) with
  | none => rw [hy] at h; cases h
  | some y =>
   rw [hy] at h
   simp only [Option.bind_some] at h
   cases hz : limO l 0 maxI (0, y.2) with
   | none => rw [hz] at h; cases h
   | some z =>
    rw [hz] at h
    simp only [Option.bind_some] at h
    split at h
    ·rename_i p hp
     split at h
     ·rename_i hr
      cases h
      exact ⟨x, y, z, p, rfl, hy, hz, hp, hr, rfl⟩
     ·cases h
    ·cases h
theorem bytes_part {l : List UInt8} (hl : l.length ≤ 65536) {a : Nat} {lim : Int} {p : List UInt8 × Nat} (h : pPart l lim a = .ok p) : wBytes (0, l.take a) p.1 = (0, l.take p.2) := by
 obtain ⟨-, hp⟩ := canon_part (x := p.1) (a' := p.2) h
 unfold wBytes
 exact put_part hp hl
theorem slot_back {l : List UInt8} (hl : l.length ≤ 65536) : ∀ (n a : Nat) (acc ls : List (List UInt8)) (a' : Nat), rowsB (slotStep l) acc n a = some (ls, a') → ∃ new ws, ls = acc ++ new ∧ ws.length = n ∧ (∀ G g, foldO grpStep (G ++ [g]) new = some (G ++ [g ++ ws])) ∧ foldO slotW (0, l.take a) ws = some (0, l.take a')
 | 0, a, acc, ls, a', h => by
  rw [rowsB_zero] at h
  cases h
  exact ⟨[], [], by simp, rfl, fun G g => by simp [foldO], rfl⟩
 | n + 1, a, acc, ls, a', h => by
  rw [rowsB_succ] at h
  cases hq : slotStep l acc a with
  | none => rw [hq] at h; cases h
  | some q =>
   rw [hq] at h
   simp only [Option.bind_some] at h
   obtain ⟨x, y, z, p, hx, hy, hz, hp, hr, rfl⟩ := slotStep_inv hq
   obtain ⟨-, -, -, x0, x1, -⟩ := limO_some hx
   obtain ⟨-, -, -, y0, y1, -⟩ := limO_some hy
   obtain ⟨-, -, -, z0, z1, -⟩ := limO_some hz
   obtain ⟨new, ws, h1, h2, h3, h4⟩ := slot_back hl n p.2 _ ls a' h
   have hsp : splitL (Lib.join (slotWords x.1 y.1 z.1 p.1) [32]) = slotWords x.1 y.1 z.1 p.1 := splitL_join _ _ (by
    intro w hw
    simp at hw
    rcases hw with rfl | rfl | rfl | rfl
    ·exact sp_itoa _
    ·exact sp_itoa _
    ·exact sp_itoa _
    ·exact sp_rat hr)
   refine ⟨Lib.join (slotWords x.1 y.1 z.1 p.1) [32] :: new, slotWords x.1 y.1 z.1 p.1 :: ws, by rw [h1]; simp, by simp [h2], fun G g => ?_, ?_⟩
   ·unfold foldO
    have e : grpStep (G ++ [g]) (Lib.join (slotWords x.1 y.1 z.1 p.1) [32]) = some (G ++ [g ++ [slotWords x.1 y.1 z.1 p.1]]) := by
     unfold grpStep
     rw [hsp, if_neg (by simp [slotWords])]
     simp [slotWords]
    rw [e, Option.bind_some, h3]
    simp
   ·unfold foldO
    have e : slotW (0, l.take a) (slotWords x.1 y.1 z.1 p.1) = some (0, l.take p.2) := by
     unfold slotW slotWords
     simp only
     rw [num_itoa (by omega) x1, num_itoa (by omega) y1, num_itoa (by omega) z1]
     simp only [Option.bind_some, Option.map_some]
     rw [lim_part hx hl, lim_part hy hl, lim_part hz hl, bytes_part hl hp]
    rw [e]
    exact h4
theorem areaStep_inv {l : List UInt8} {acc : List (List UInt8)} {a : Nat} {q : List (List UInt8) × Nat} (h : areaStep l acc a = some q) : ∃ n m, limO l 0 maxI (0, a) = some n ∧ limO l 0 6 (0, n.2) = some m ∧ rowsB (slotStep l) (acc ++ [Lib.join [areaB, Lib.itoa n.1] [32]]) m.1.toNat m.2 = some q := by
 unfold areaStep at h
 cases hn : limO l 0 maxI (0, a) with
 | none => rw [hn] at h; cases h
 | some n =>
  rw [hn] at h
  simp only [Option.bind_some] at h
  cases hm : limO l 0 6 (0, n.2) with
  | none => rw [hm] at h; cases h
  | some m =>
   rw [hm] at h
   exact ⟨n, m, rfl, hm, h⟩
theorem area_back {l : List UInt8} (hl : l.length ≤ 65536) : ∀ (n a : Nat) (acc ls : List (List UInt8)) (a' : Nat), rowsB (areaStep l) acc n a = some (ls, a') → ∃ new gs, ls = acc ++ new ∧ gs.length = n ∧ (∀ G, foldO grpStep G new = some (G ++ gs)) ∧ foldO areaW (0, l.take a) gs = some (0, l.take a')
 | 0, a, acc, ls, a', h => by
  rw [rowsB_zero] at h
  cases h
  exact ⟨[], [], by simp, rfl, fun G => by simp [foldO], rfl⟩
 | n + 1, a, acc, ls, a', h => by
  rw [rowsB_succ] at h
  cases hq : areaStep l acc a with
  | none => rw [hq] at h; cases h
  | some q =>
   rw [hq] at h
   simp only [Option.bind_some] at h
   obtain ⟨k, m, hk, hm, hrow⟩ := areaStep_inv hq
   obtain ⟨-, -, -, k0, k1, -⟩ := limO_some hk
   obtain ⟨-, m0, -⟩ := limO_some hm
   obtain ⟨new1, ws, g1, g2, g3, g4⟩ := slot_back hl _ _ _ q.1 q.2 hrow
   obtain ⟨new, gs, h1, h2, h3, h4⟩ := area_back hl n q.2 q.1 ls a' h
   have hsp : splitL (Lib.join [areaB, Lib.itoa k.1] [32]) = [areaB, Lib.itoa k.1] := splitL_join _ _ (by
    intro w hw
    simp at hw
    rcases hw with rfl | rfl
    ·decide
    ·exact sp_itoa _)
   refine ⟨Lib.join [areaB, Lib.itoa k.1] [32] :: (new1 ++ new), ([areaB, Lib.itoa k.1] :: ws) :: gs, by rw [h1, g1]; simp, by simp [h2], fun G => ?_, ?_⟩
   ·have happ : ∀ (s : List (List (List (List UInt8)))) (xs ys : List (List UInt8)), foldO grpStep s (xs ++ ys) = (foldO grpStep s xs).bind fun t => foldO grpStep t ys := by
     intro s xs
     induction xs generalizing s with
     | nil => intro ys; rfl
     | cons x xs ih =>
      intro ys
      rw [List.cons_append, foldO, foldO]
      cases grpStep s x with
      | none => rfl
      | some t => exact ih t ys
    unfold foldO
    have e : grpStep G (Lib.join [areaB, Lib.itoa k.1] [32]) = some (G ++ [[[areaB, Lib.itoa k.1]]]) := by
     unfold grpStep
     rw [hsp]
     exact if_pos rfl
    rw [e, Option.bind_some, happ, g3, Option.bind_some, h3]
    simp
   ·unfold foldO
    have e : areaW (0, l.take a) ([areaB, Lib.itoa k.1] :: ws) = some (0, l.take q.2) := by
     unfold areaW
     simp only
     rw [num_itoa (by omega) k1, Option.bind_some, g2, show ((m.1.toNat : Nat) : Int) = m.1 by omega, lim_part hk hl, lim_part hm hl]
     exact g4
    rw [e]
    exact h4
theorem areasL_back {l : List UInt8} (hl : l.length ≤ 65536) {a : Nat} {x : List (List UInt8) × Nat} (h : areasL l a = some x) : areasW (0, l.take a) x.1 = some (0, l.take x.2) := by
 unfold areasL at h
 cases hn : limO l 0 64 (0, a) with
 | none => rw [hn] at h; cases h
 | some n =>
  rw [hn] at h
  simp only [Option.bind_some] at h
  obtain ⟨new, gs, h1, h2, h3, h4⟩ := area_back hl _ _ _ x.1 x.2 h
  obtain ⟨-, n0, -⟩ := limO_some hn
  rw [List.nil_append] at h1
  unfold areasW
  rw [h1, h3, List.nil_append, Option.bind_some, h2, show ((n.1.toNat : Nat) : Int) = n.1 by omega, lim_part hn hl]
  exact h4
theorem body_back {l : List UInt8} (hl : l.length ≤ 65536) {k : Int} {a : Nat} {b : List (List UInt8)} {s : Int × Nat} (k1 : 1 ≤ k) (h : bodyL l k a = some (b, s)) (hs : s.1 = 0) (ha : a ≤ l.length) : bodyW (0, l.take a) k.toNat b = some (0, l.take s.2) := by
 unfold bodyL at h
 unfold bodyW
 by_cases e1 : k = 1
 ·rw [if_pos e1] at h
  rw [if_pos (by omega)]
  cases hx : evL l a with
  | none => rw [hx] at h; cases h
  | some x =>
   rw [hx] at h
   injection h with h
   injection h with h1 h2
   subst h1 h2
   exact evL_back hl hx
 ·rw [if_neg e1] at h
  rw [if_neg (by omega)]
  by_cases e2 : k = 2
  ·rw [if_pos e2] at h
   rw [if_pos (by omega)]
   simp only at h
   generalize hR1 : rRead [] (pInts l 128) (0, a) = x1 at h
   obtain ⟨xs, s1⟩ := x1
   simp only at h
   generalize hR2 : rRead [] (pInts l 128) s1 = x2 at h
   obtain ⟨ys, s2⟩ := x2
   simp only at h
   injection h with h
   injection h with h1 h2
   subst h1 h2
   obtain ⟨e', a'⟩ := s2
   simp only at hs
   subst hs
   obtain ⟨e1', a1⟩ := s1
   obtain rfl := read_ok hR2
   have F1 := rInts_in l 128 (0, a) (by omega) ha
   rw [hR1] at F1
   have F2 := rInts_in l 128 (0, a1) (by omega) F1.2.2
   rw [hR2] at F2
   have i1 := ints_part hl hR1 rfl
   have i2 := ints_part hl hR2 rfl
   simp only at i1 i2
   simp only
   rw [nums_back (f := numO) (g := Lib.itoa) (by decide) sp_itoa (by decide) (fun n hn => num_itoa (F1.1 n hn).1 (F1.1 n hn).2)]
   rw [Option.bind_some, nums_back (f := parseP) (g := moneyL) (by decide) sp_money (by decide) (fun n hn => parse_money (F2.1 n hn).1 (F2.1 n hn).2)]
   rw [Option.map_some, i1, i2]
  ·rw [if_neg e2] at h
   rw [if_neg (by omega)]
   cases hx : areasL l a with
   | none => rw [hx] at h; cases h
   | some x =>
    rw [hx] at h
    injection h with h
    injection h with h1 h2
    subst h1 h2
    exact areasL_back hl hx
theorem parse_back {l : List UInt8} {xs : List (List UInt8)} (hl : l.length ≤ 65536) (h : resL l = some xs) : parseL xs = some l := by
 have hres := h
 rw [resL_eq] at h
 cases hp : limO l 1 3 (0, 0) with
 | none => rw [hp] at h; cases h
 | some ph =>
  rw [hp] at h
  simp only [Option.bind_some] at h
  obtain ⟨-, p1, p3, -, -, -, pa⟩ := limO_some hp
  unfold tailL at h
  cases hb : bodyL l ph.1 ph.2 with
  | none => rw [hb] at h; cases h
  | some bs =>
   obtain ⟨b, s⟩ := bs
   rw [hb] at h
   simp only [Option.bind_some] at h
   cases hn : limO l 1 5 s with
   | none => rw [hn] at h; cases h
   | some nx =>
    rw [hn] at h
    simp only [Option.bind_some] at h
    obtain ⟨-, n1, n5, -⟩ := limO_some hn
    split at h
    ·rename_i hend
     injection h with h
     have hs0 := (limO_p hn).1
     have hbw := body_back hl p1 hb hs0 pa
     have w0 : wUint (0, []) ph.1 = (0, l.take ph.2) := by have := lim_part hp hl; simpa using this
     have w1 : wUint (0, l.take s.2) nx.1 = (0, l) := by
      have := lim_part hn hl
      rw [hend, List.take_length] at this
      exact this
     unfold parseL
     have hhd : xs.headD [] = phaseL ph.1 := by rw [← h]; rfl
     have hlast : xs.getLastD [] = Lib.join [nextB, phaseL nx.1] [32] := by rw [← h, List.getLastD_eq_getLast?, List.getLast?_concat]; rfl
     have hmid : xs.tail.dropLast = b := by rw [← h]; simp
     have hlen : ¬ xs.length < 2 := by rw [← h]; simp
     rw [if_neg hlen, hhd, idx_phase p1 (by omega), Option.bind_some, hlast, splitL_join _ _ (by
      intro w hw
      simp at hw
      rcases hw with rfl | rfl
      ·decide
      ·exact sp_phase _)]
     simp only
     rw [show (((ph.1 - 1).toNat : Int) + 1) = ph.1 by omega, show (ph.1 - 1).toNat + 1 = ph.1.toNat by omega, hmid, w0, hbw, Option.bind_some, idx_phase n1 n5, Option.bind_some, show (((nx.1 - 1).toNat : Int) + 1) = nx.1 by omega, w1]
     rw [if_pos ⟨rfl, hres⟩]
    ·cases h
end Go.Proofs.YtedpaajpfaoffaaGreatDoor
namespace Go.Proofs.YtedpaajpfaoffaaGreatDoor
open Go.RowKit
theorem splitL_word : ∀ (s : List UInt8), ∀ y ∈ splitL s, y.length ≤ s.length
 | [], y, h => by simp [splitL] at h; simp [h]
 | c :: t, y, h => by
  have ih := splitL_word t
  unfold splitL at h
  split at h
  ·rcases List.mem_cons.1 h with h | h
   ·simp [h]
   ·have := ih y h
    simp
    omega
  ·split at h
   ·simp at h; simp [h]
   ·rename_i x r e
    rw [e] at ih
    rcases List.mem_cons.1 h with h | h
    ·have := ih x (by simp)
     rw [h]
     simp
     omega
    ·have := ih y (List.mem_cons_of_mem _ h)
     simp
     omega
def LongL (y : List UInt8) : Prop := y.length ≤ 100000
theorem rowsB_all {f : List (List UInt8) → Nat → Option (List (List UInt8) × Nat)} {c : Nat} (hf : ∀ acc a x, f acc a = some x → ∃ new : List (List UInt8), x.1 = acc ++ new ∧ new.length ≤ c ∧ ∀ y ∈ new, LongL y) : ∀ (n a : Nat) (acc : List (List UInt8)) (x : List (List UInt8) × Nat), rowsB f acc n a = some x → ∃ new : List (List UInt8), x.1 = acc ++ new ∧ new.length ≤ c * n ∧ ∀ y ∈ new, LongL y
 | 0, a, acc, x, h => by
  rw [rowsB_zero] at h
  cases h
  exact ⟨[], by simp, by simp, by simp⟩
 | n + 1, a, acc, x, h => by
  rw [rowsB_succ] at h
  cases hy : f acc a with
  | none => rw [hy] at h; cases h
  | some z =>
   rw [hy] at h
   obtain ⟨n1, e1, l1, p1⟩ := hf acc a z hy
   obtain ⟨n2, e2, l2, p2⟩ := rowsB_all hf n z.2 z.1 x h
   refine ⟨n1 ++ n2, by rw [e2, e1, List.append_assoc], by rw [List.length_append, Nat.mul_succ]; omega, fun y hy => ?_⟩
   rcases List.mem_append.1 hy with h1 | h1
   ·exact p1 y h1
   ·exact p2 y h1
theorem join2_le {a b : List UInt8} {n : Nat} (h : a.length + b.length + 1 ≤ n) : (Lib.join [a, b] [32]).length ≤ n := by
 rw [Lib.join_length]
 simp [Lib.lens]
 omega
section
variable {l : List UInt8}
theorem ev_long (acc : List (List UInt8)) (a : Nat) (x : List (List UInt8) × Nat) (h : evStep l acc a = some x) : ∃ new : List (List UInt8), x.1 = acc ++ new ∧ new.length ≤ 1 ∧ ∀ y ∈ new, LongL y := by
 obtain ⟨s, k, o, p, hs, hk, ho, hp, rfl⟩ := evStep_inv h
 obtain ⟨-, -, -, s0, s1, -⟩ := limO_some hs
 obtain ⟨-, -, -, p0, p1, -⟩ := limO_some hp
 refine ⟨[evLine s.1 k.1 o.1 p.1], rfl, by simp, fun y hy => ?_⟩
 rw [List.mem_singleton] at hy
 subst hy
 have h1 := itoa_le s.1 s0 s1
 have h2 := kind_le k.1
 have h3 := opt_le o.1
 have h4 := money_le p.1 (by omega) p1
 exact join4_le (by omega)
theorem slot_long (acc : List (List UInt8)) (a : Nat) (x : List (List UInt8) × Nat) (h : slotStep l acc a = some x) : ∃ new : List (List UInt8), x.1 = acc ++ new ∧ new.length ≤ 1 ∧ ∀ y ∈ new, LongL y := by
 obtain ⟨n, m, z, p, hx, hy, hz, hp, hr, rfl⟩ := slotStep_inv h
 obtain ⟨-, -, -, x0, x1, -⟩ := limO_some hx
 obtain ⟨-, -, -, y0, y1, -⟩ := limO_some hy
 obtain ⟨-, -, -, z0, z1, -⟩ := limO_some hz
 obtain ⟨hl, -⟩ := canon_part (x := p.1) (a' := p.2) hp
 refine ⟨[Lib.join (slotWords n.1 m.1 z.1 p.1) [32]], rfl, by simp, fun y hy => ?_⟩
 rw [List.mem_singleton] at hy
 subst hy
 have h1 := itoa_le n.1 x0 x1
 have h2 := itoa_le m.1 y0 y1
 have h3 := itoa_le z.1 z0 z1
 exact join4_le (by omega)
theorem area_long (acc : List (List UInt8)) (a : Nat) (x : List (List UInt8) × Nat) (h : areaStep l acc a = some x) : ∃ new : List (List UInt8), x.1 = acc ++ new ∧ new.length ≤ 7 ∧ ∀ y ∈ new, LongL y := by
 obtain ⟨k, m, hk, hm, hrow⟩ := areaStep_inv h
 obtain ⟨-, -, -, k0, k1, -⟩ := limO_some hk
 obtain ⟨-, m0, m6, -⟩ := limO_some hm
 obtain ⟨new, e, hl, hp⟩ := rowsB_all slot_long _ _ _ _ hrow
 refine ⟨Lib.join [areaB, Lib.itoa k.1] [32] :: new, by rw [e]; simp, by simp; omega, fun y hy => ?_⟩
 rcases List.mem_cons.1 hy with h1 | h1
 ·subst h1
  have := itoa_le k.1 k0 k1
  exact join2_le (by simp [areaB]; omega)
 ·exact hp y h1
theorem list_long {name : List UInt8} {f : Int → List UInt8} {xs : List Int} (hn : name.length ≤ 100) (hf : ∀ n ∈ xs, (f n).length ≤ 100) (hl : xs.length ≤ 128) : LongL (listLine name f xs) := by
 unfold LongL listLine
 split
 ·simp; omega
 ·exact join_list_le hn hf hl
theorem body_long {k : Int} {a : Nat} {b : List (List UInt8)} {s : Int × Nat} (h : bodyL l k a = some (b, s)) (ha : a ≤ l.length) : b.length ≤ 900 ∧ ∀ y ∈ b, LongL y := by
 unfold bodyL at h
 split at h
 ·cases hx : evL l a with
  | none => rw [hx] at h; cases h
  | some x =>
   rw [hx] at h
   injection h with h
   injection h with h1 h2
   subst h1
   unfold evL at hx
   cases hn : limO l 0 512 (0, a) with
   | none => rw [hn] at hx; cases hx
   | some n =>
    rw [hn] at hx
    simp only [Option.bind_some] at hx
    obtain ⟨-, n0, n1, -⟩ := limO_some hn
    obtain ⟨new, e, hl, hp⟩ := rowsB_all ev_long _ _ _ _ hx
    rw [List.nil_append] at e
    rw [e]
    exact ⟨by omega, hp⟩
 ·split at h
  ·simp only at h
   have F1 := rInts_in l 128 (0, a) (by omega) ha
   generalize rRead [] (pInts l 128) (0, a) = x1 at h F1
   obtain ⟨xs, s1⟩ := x1
   simp only at h F1
   have F2 := rInts_in l 128 s1 (by omega) F1.2.2
   generalize rRead [] (pInts l 128) s1 = x2 at h F2
   obtain ⟨ys, s2⟩ := x2
   simp only at h F2
   injection h with h
   injection h with h1 h2
   subst h1
   refine ⟨by simp, fun y hy => ?_⟩
   simp at hy
   rcases hy with rfl | rfl
   ·exact list_long (by decide) (fun n hn => Nat.le_trans (itoa_le20 n (F1.1 n hn).1 (F1.1 n hn).2) (by omega)) (by omega)
   ·exact list_long (by decide) (fun n hn => money_le n (F2.1 n hn).1 (F2.1 n hn).2) (by omega)
  ·cases hx : areasL l a with
   | none => rw [hx] at h; cases h
   | some x =>
    rw [hx] at h
    injection h with h
    injection h with h1 h2
    subst h1
    unfold areasL at hx
    cases hn : limO l 0 64 (0, a) with
    | none => rw [hn] at hx; cases hx
    | some n =>
     rw [hn] at hx
     simp only [Option.bind_some] at hx
     obtain ⟨-, n0, n1, -⟩ := limO_some hn
     obtain ⟨new, e, hl, hp⟩ := rowsB_all area_long _ _ _ _ hx
     rw [List.nil_append] at e
     rw [e]
     exact ⟨by omega, hp⟩
theorem res_long {xs : List (List UInt8)} (h : resL l = some xs) : 2 ≤ xs.length ∧ xs.length ≤ 1000 ∧ ∀ y ∈ xs, LongL y := by
 rw [resL_eq] at h
 cases hp : limO l 1 3 (0, 0) with
 | none => rw [hp] at h; cases h
 | some ph =>
  rw [hp] at h
  simp only [Option.bind_some] at h
  obtain ⟨-, p1, p3, -, -, -, pa⟩ := limO_some hp
  unfold tailL at h
  cases hb : bodyL l ph.1 ph.2 with
  | none => rw [hb] at h; cases h
  | some bs =>
   obtain ⟨b, s⟩ := bs
   rw [hb] at h
   simp only [Option.bind_some] at h
   cases hn : limO l 1 5 s with
   | none => rw [hn] at h; cases h
   | some nx =>
    rw [hn] at h
    simp only [Option.bind_some] at h
    split at h
    ·injection h with h
     obtain ⟨h1, h2⟩ := body_long hb pa
     rw [← h]
     refine ⟨by simp, by simp; omega, fun y hy => ?_⟩
     simp at hy
     rcases hy with rfl | hy | rfl
     ·have := phase_le ph.1
      unfold LongL
      omega
     ·exact h2 y hy
     ·have := phase_le nx.1
      exact join2_le (by simp [nextB]; omega)
    ·cases h
end
end Go.Proofs.YtedpaajpfaoffaaGreatDoor
