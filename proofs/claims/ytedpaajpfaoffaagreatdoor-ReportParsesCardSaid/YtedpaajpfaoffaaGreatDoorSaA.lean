/- The shelf's contract of strings.Cut at this dump, in plain words (written by the kit's lay-shelf.mjs and lay-plain.mjs, kept by shelf_cut.py). -/
import Derived.Shelf.Strings.Cut
import Derived.Test.YtedpaajpfaoffaaGreatDoorProg
import Derived.Shelf.Strings.Search3
import Derived.Test.YtedpaajpfaoffaaGreatDoorMr1
import Derived.Test.YtedpaajpfaoffaaGreatDoorSa0
set_option linter.all false
set_option maxHeartbeats 4000000
set_option maxRecDepth 100000
namespace Go.Proofs
open Go.Shelf
def Tryz.lays145_ren : Go.Shelf.Ren := ⟨fun | 145 => 142 | 220 => 180 | 219 => 193 | 217 => 205 | 225 => 206 | 224 => 207 | 267 => 208 | 266 => 211 | 314 => 212 | n => n, fun | 9 => 9 | 4 => 4 | 59 => 187 | 3 => 3 | 5 => 5 | 46 => 48 | 146 => 245 | 51 => 178 | n => n, fun | 1 => 6 | n => n⟩
theorem Tryz.lays145 : Go.Proofs.Lays.n145 Tryz.prog Tryz.lays145_ren := {
 mixed := by kernel_rfl
 f145 := Tryz.func142.trans (congrArg some (by kernel_rfl))
 f217 := Tryz.func205.trans (congrArg some (by kernel_rfl))
 f219 := Tryz.func193.trans (congrArg some (by kernel_rfl))
 f220 := Tryz.func180.trans (congrArg some (by kernel_rfl))
 f224 := Tryz.func207.trans (congrArg some (by kernel_rfl))
 f225 := Tryz.func206.trans (congrArg some (by kernel_rfl))
 f266 := Tryz.func211.trans (congrArg some (by kernel_rfl))
 f267 := Tryz.func208.trans (congrArg some (by kernel_rfl))
 f314 := Tryz.func212.trans (congrArg some (by kernel_rfl))
 t3 := Tryz.underlying3
 a3 := Tryz.isAgg3
 z3 := Tryz.sizeOf3
 v3 := Tryz.zeroValue3
 t4 := Tryz.underlying4
 a4 := Tryz.isAgg4
 z4 := Tryz.sizeOf4
 v4 := Tryz.zeroValue4
 t5 := Tryz.underlying5
 a5 := Tryz.isAgg5
 z5 := Tryz.sizeOf5
 v5 := Tryz.zeroValue5
 t9 := Tryz.underlying9
 a9 := Tryz.isAgg9
 z9 := Tryz.sizeOf9
 v9 := Tryz.zeroValue9
 t46 := Tryz.underlying48
 a46 := Tryz.isAgg48
 z46 := Tryz.sizeOf48
 v46 := Tryz.zeroValue48
 t51 := Tryz.underlying178
 a51 := Tryz.isAgg178
 z51 := Tryz.sizeOf178
 v51 := Tryz.zeroValue178
 t59 := Tryz.underlying187
 a59 := Tryz.isAgg187
 z59 := Tryz.sizeOf187
 v59 := Tryz.zeroValue187
 t146 := Tryz.underlying245
 a146 := Tryz.isAgg245
 z146 := Tryz.sizeOf245
 v146 := Tryz.zeroValue245
 g1 := by kernel_rfl }
open Go.RowKit Go.Lib in
theorem Tryz.strings_Cut (s sep : ByteArray) (m : Int) (w : World) (hs : s.size < 4294967281) (hm : w.cell? ⟨6, 0, none⟩ = some (.int .i64 m)) :
  Calls Tryz.prog 142 #[.string s, .string sep] w fun e w' => e = .returned (.tuple #[.string ⟨(Lib.cut s.data.toList sep.data.toList).1.toArray⟩, .string ⟨(Lib.cut s.data.toList sep.data.toList).2.1.toArray⟩, .bool (Lib.cut s.data.toList sep.data.toList).2.2]) ∧ ∃ n, w' = w.drewN n := Any.strings_Cut Tryz.lays145 s sep m w hs hm
end Go.Proofs
namespace Go.Proofs
open Go.Shelf
def Tryz.lays143_ren : Go.Shelf.Ren := ⟨fun | 143 => 163 | 219 => 193 | 217 => 205 | 225 => 206 | 224 => 207 | 267 => 208 | 266 => 211 | 314 => 212 | n => n, fun | 9 => 9 | 3 => 3 | 4 => 4 | 5 => 5 | 46 => 48 | 146 => 245 | 51 => 178 | n => n, fun | 1 => 6 | n => n⟩
theorem Tryz.lays143 : Go.Proofs.Lays.n143 Tryz.prog Tryz.lays143_ren := {
 mixed := by kernel_rfl
 f143 := Tryz.func163.trans (congrArg some (by kernel_rfl))
 f217 := Tryz.func205.trans (congrArg some (by kernel_rfl))
 f219 := Tryz.func193.trans (congrArg some (by kernel_rfl))
 f224 := Tryz.func207.trans (congrArg some (by kernel_rfl))
 f225 := Tryz.func206.trans (congrArg some (by kernel_rfl))
 f266 := Tryz.func211.trans (congrArg some (by kernel_rfl))
 f267 := Tryz.func208.trans (congrArg some (by kernel_rfl))
 f314 := Tryz.func212.trans (congrArg some (by kernel_rfl))
 t3 := Tryz.underlying3
 a3 := Tryz.isAgg3
 z3 := Tryz.sizeOf3
 v3 := Tryz.zeroValue3
 t4 := Tryz.underlying4
 a4 := Tryz.isAgg4
 z4 := Tryz.sizeOf4
 v4 := Tryz.zeroValue4
 t5 := Tryz.underlying5
 a5 := Tryz.isAgg5
 z5 := Tryz.sizeOf5
 v5 := Tryz.zeroValue5
 t9 := Tryz.underlying9
 a9 := Tryz.isAgg9
 z9 := Tryz.sizeOf9
 v9 := Tryz.zeroValue9
 t46 := Tryz.underlying48
 a46 := Tryz.isAgg48
 z46 := Tryz.sizeOf48
 v46 := Tryz.zeroValue48
 t51 := Tryz.underlying178
 a51 := Tryz.isAgg178
 z51 := Tryz.sizeOf178
 v51 := Tryz.zeroValue178
 t146 := Tryz.underlying245
 a146 := Tryz.isAgg245
 z146 := Tryz.sizeOf245
 v146 := Tryz.zeroValue245
 g1 := by kernel_rfl }
open Go.RowKit Go.Lib in
theorem Tryz.strings_Index_one (s : ByteArray) (c : UInt8) (w : World) :
  Calls Tryz.prog 163 #[.string s, .string ⟨#[c]⟩] w fun e w' => e = .returned (.int .i64 (Lib.indexByte s.data.toList c)) ∧ w' = w := Any.strings_Index_one Tryz.lays143 s c w
end Go.Proofs
namespace Go.Proofs.YtedpaajpfaoffaaGreatDoor
open Go.RowKit
def str (y : List UInt8) : Value := .string ⟨y.toArray⟩
theorem pUint_in {l : List UInt8} {a : Nat} {x : Int × Nat} (h : pUint l a = .ok x) : 0 ≤ x.1 ∧ x.1 ≤ 9223372036854775807 ∧ a < x.2 ∧ x.2 ≤ l.length := by
 unfold pUint at h
 cases hg : pGroup l 9 0 0 a with
 | error k => rw [hg] at h; cases h
 | ok y =>
  rw [hg] at h
  have := pGroup9 hg
  cases h
  simp only
  omega
def limO (l : List UInt8) (low lim : Int) (s : Int × Nat) : Option (Int × Nat) := if s.1 = 0 then (match pUint l s.2 with
 | .ok x => if low ≤ x.1 ∧ x.1 ≤ lim then some x else none
 | .error _ => none) else none
theorem limO_some {l : List UInt8} {low lim : Int} {s : Int × Nat} {x : Int × Nat} (h : limO l low lim s = some x) : rRead 0 (pUint l) s = (x.1, (0, x.2)) ∧ low ≤ x.1 ∧ x.1 ≤ lim ∧ 0 ≤ x.1 ∧ x.1 ≤ 9223372036854775807 ∧ s.2 < x.2 ∧ x.2 ≤ l.length := by
 unfold limO at h
 split at h
 ·rename_i h0
  split at h
  ·rename_i y hy
   split at h
   ·rename_i hb
    cases h
    have := pUint_in hy
    refine ⟨?_, hb.1, hb.2, this.1, this.2.1, this.2.2⟩
    unfold rRead
    rw [if_pos h0, hy]
   ·cases h
  ·cases h
 ·cases h
theorem limO_none {l : List UInt8} {low lim : Int} {s : Int × Nat} (h : limO l low lim s = none) : ¬ ((rRead 0 (pUint l) s).2.1 = 0 ∧ low ≤ (rRead 0 (pUint l) s).1 ∧ (rRead 0 (pUint l) s).1 ≤ lim) := by
 unfold limO at h
 unfold rRead
 by_cases h0 : s.1 = 0
 ·rw [if_pos h0] at h ⊢
  cases hp : pUint l s.2 with
  | ok y =>
   rw [hp] at h
   simp only at h
   split at h
   ·cases h
   ·rename_i hb
    simp only
    rintro ⟨-, h1, h2⟩
    exact hb ⟨h1, h2⟩
  | error k =>
   have := pUint_err hp
   simp only
   rintro ⟨h1, -⟩
   exact this h1
 ·rw [if_neg h0]
  simp only
  rintro ⟨h1, -⟩
  exact h0 h1
def maxI : Int := 9223372036854775807
def phaseL (k : Int) : List UInt8 := if k = 1 then [114, 101, 118, 101, 114, 115, 101] else if k = 2 then [102, 111, 114, 119, 97, 114, 100] else if k = 3 then [97, 115, 115, 105, 103, 110] else if k = 4 then [115, 111, 108, 100] else [102, 97, 105, 108, 101, 100]
def kindL (k : Int) : List UInt8 := if k = 1 then [115, 116, 97, 121] else if k = 2 then [109, 111, 118, 101] else if k = 3 then [101, 120, 105, 116] else [102, 114, 101, 101, 122, 101]
def optL (k : Int) : List UInt8 := if k = 0 then [111, 102, 102] else if k = 1 then [108, 111, 119] else if k = 2 then [104, 105, 103, 104] else [117, 104, 102]
def rowsB {σ : Type} (f : σ → Nat → Option (σ × Nat)) : σ → Nat → Nat → Option (σ × Nat)
 | acc, 0, a => some (acc, a)
 | acc, n + 1, a => (f acc a).bind fun x => rowsB f x.1 n x.2
def evLine (s k o p : Int) : List UInt8 := Lib.join [Lib.itoa s, kindL k, optL o, moneyL p] [32]
def evStep (l : List UInt8) (acc : List (List UInt8)) (a : Nat) : Option (List (List UInt8) × Nat) :=
 (limO l 0 maxI (0, a)).bind fun s => (limO l 1 4 (0, s.2)).bind fun k => (limO l 0 3 (0, k.2)).bind fun o => (limO l 0 maxI (0, o.2)).bind fun p => some (acc ++ [evLine s.1 k.1 o.1 p.1], p.2)
def evL (l : List UInt8) (a : Nat) : Option (List (List UInt8) × Nat) := (limO l 0 512 (0, a)).bind fun n => rowsB (evStep l) [] n.1.toNat n.2
def listLine (name : List UInt8) (f : Int → List UInt8) (xs : List Int) : List UInt8 := if xs = [] then name ++ [32, 45] else Lib.join (name :: xs.map f) [32]
def appliedB : List UInt8 := [97, 112, 112, 108, 105, 101, 100]
def pricesB : List UInt8 := [112, 114, 105, 99, 101, 115]
def areaB : List UInt8 := [97, 114, 101, 97]
def nextB : List UInt8 := [110, 101, 120, 116]
def isDigit (c : UInt8) : Bool := decide (48 ≤ c.toNat) && decide (c.toNat ≤ 57)
def isDec (d : List UInt8) : Bool := match d with
 | [] => false
 | c :: t => (c != 48 || t.isEmpty) && (c :: t).all isDigit
def decVal (d : List UInt8) : Nat := d.foldl (fun n c => 10 * n + (c.toNat - 48)) 0
def unsigned (l : List UInt8) : List UInt8 := if l.head? = some 45 then l.tail else l
def formI (l : List UInt8) : Option (Bool × Nat) := if isDec (unsigned l) = true ∧ ¬ (l.head? = some 45 ∧ unsigned l = [48]) then some (decide (l.head? = some 45), decVal (unsigned l)) else none
def cutL : List UInt8 → Option (List UInt8 × List UInt8)
 | [] => none
 | c :: t => if c = 47 then some ([], t) else (cutL t).map fun x => (c :: x.1, x.2)
def ratOK (l : List UInt8) : Bool := match cutL l with
 | none => match formI l with
  | some x => decide (x.2 < 256 ^ 64)
  | none => false
 | some y => match formI y.1, formI y.2 with
  | some x, some z => decide (x.2 < 256 ^ 64) && decide (z.2 < 256 ^ 64) && !z.1 && decide (1 < z.2) && decide (Nat.gcd x.2 z.2 = 1)
  | _, _ => false
def slotStep (l : List UInt8) (acc : List (List UInt8)) (a : Nat) : Option (List (List UInt8) × Nat) :=
 (limO l 0 maxI (0, a)).bind fun x => (limO l 0 maxI (0, x.2)).bind fun y => (limO l 0 maxI (0, y.2)).bind fun z => match pPart l 65536 z.2 with
  | .ok p => if ratOK p.1 = true then some (acc ++ [Lib.join [Lib.itoa x.1, Lib.itoa y.1, Lib.itoa z.1, p.1] [32]], p.2) else none
  | .error _ => none
def areaStep (l : List UInt8) (acc : List (List UInt8)) (a : Nat) : Option (List (List UInt8) × Nat) :=
 (limO l 0 maxI (0, a)).bind fun n => (limO l 0 6 (0, n.2)).bind fun m => rowsB (slotStep l) (acc ++ [Lib.join [areaB, Lib.itoa n.1] [32]]) m.1.toNat m.2
def areasL (l : List UInt8) (a : Nat) : Option (List (List UInt8) × Nat) := (limO l 0 64 (0, a)).bind fun n => rowsB (areaStep l) [] n.1.toNat n.2
def bodyL (l : List UInt8) (phase : Int) (a : Nat) : Option (List (List UInt8) × (Int × Nat)) :=
 if phase = 1 then (evL l a).map fun x => (x.1, (0, x.2))
 else if phase = 2 then
  let s := rRead [] (pInts l 128) (0, a)
  let t := rRead [] (pInts l 128) s.2
  some ([listLine appliedB Lib.itoa s.1, listLine pricesB moneyL t.1], t.2)
 else (areasL l a).map fun x => (x.1, (0, x.2))
def resL (l : List UInt8) : Option (List (List UInt8)) :=
 (limO l 1 3 (0, 0)).bind fun ph => (bodyL l ph.1 ph.2).bind fun b => (limO l 1 5 b.2).bind fun nx => if nx.2 = l.length then some (phaseL ph.1 :: b.1 ++ [Lib.join [nextB, phaseL nx.1] [32]]) else none
theorem rowsB_succ {σ : Type} (f : σ → Nat → Option (σ × Nat)) (acc : σ) (n a : Nat) : rowsB f acc (n + 1) a = (f acc a).bind fun x => rowsB f x.1 n x.2 := rfl
theorem rowsB_zero {σ : Type} (f : σ → Nat → Option (σ × Nat)) (acc : σ) (a : Nat) : rowsB f acc 0 a = some (acc, a) := rfl
end Go.Proofs.YtedpaajpfaoffaaGreatDoor
namespace Go.Proofs.YtedpaajpfaoffaaGreatDoor
open Go.RowKit
theorem digit_iff {c : UInt8} : isDigit c = true ↔ 48 ≤ c.toNat ∧ c.toNat ≤ 57 := by unfold isDigit; simp
theorem isDec_cons (c : UInt8) (t : List UInt8) : isDec (c :: t) = ((c != 48 || t.isEmpty) && (c :: t).all isDigit) := rfl
theorem isDec_all {d : List UInt8} (h : isDec d = true) : ∀ c ∈ d, 48 ≤ c.toNat ∧ c.toNat ≤ 57 := by
 cases d with
 | nil => intro c hc; cases hc
 | cons c t =>
  rw [isDec_cons, Bool.and_eq_true] at h
  exact fun x hx => digit_iff.1 (List.all_eq_true.1 h.2 x hx)
theorem isDec_ne {d : List UInt8} (h : isDec d = true) : d ≠ [] := by rintro rfl; cases h
theorem isDec_head {c : UInt8} {t : List UInt8} (h : isDec (c :: t) = true) (ht : t ≠ []) : c ≠ 48 := by
 rw [isDec_cons, Bool.and_eq_true] at h
 rintro rfl
 have := h.1
 cases t with
 | nil => exact ht rfl
 | cons x y => simp at this
theorem isDec_of {d : List UInt8} (h0 : d ≠ []) (h1 : ∀ c, d[0]? = some c → c = 48 → d.length ≤ 1) (h2 : ∀ c ∈ d, 48 ≤ c.toNat ∧ c.toNat ≤ 57) : isDec d = true := by
 cases d with
 | nil => exact absurd rfl h0
 | cons c t =>
  rw [isDec_cons, Bool.and_eq_true]
  refine ⟨?_, List.all_eq_true.2 fun x hx => digit_iff.2 (h2 x hx)⟩
  by_cases hc : c = 48
  ·have := h1 c rfl hc
   have ht : t = [] := by simpa using this
   simp [ht]
  ·simp [hc]
theorem isDec_zero {d : List UInt8} (h : d[0]? = some 48) (hl : 1 < d.length) : isDec d = false := by
 cases d with
 | nil => cases h
 | cons c t =>
  have hc : c = 48 := by simpa using h
  subst hc
  rw [isDec_cons]
  cases t with
  | nil => simp at hl
  | cons x y => simp
theorem isDec_bad {d : List UInt8} {i : Nat} (hi : i < d.length) (h : ¬ (48 ≤ d[i].toNat ∧ d[i].toNat ≤ 57)) : isDec d = false := by
 cases hd : isDec d with
 | false => rfl
 | true => exact absurd (isDec_all hd _ (List.getElem_mem hi)) h
theorem decVal_snoc (d : List UInt8) (c : UInt8) : decVal (d ++ [c]) = 10 * decVal d + (c.toNat - 48) := by unfold decVal; rw [List.foldl_append]; rfl
theorem decVal_succ {d : List UInt8} {i : Nat} (hi : i < d.length) : decVal (d.take (i + 1)) = 10 * decVal (d.take i) + (d[i].toNat - 48) := by
 rw [List.take_succ_eq_append_getElem hi, decVal_snoc]
theorem decVal_lt : ∀ (n : Nat) (d : List UInt8), d.length = n → (∀ c ∈ d, 48 ≤ c.toNat ∧ c.toNat ≤ 57) → decVal d < 10 ^ n := by
 intro n
 induction n with
 | zero =>
  intro d hd _
  have : d = [] := List.eq_nil_of_length_eq_zero hd
  subst this
  simp [decVal]
 | succ n ih =>
  intro d hd h
  have hi : n < d.length := by omega
  have e := decVal_succ hi
  rw [List.take_of_length_le (by omega)] at e
  have h1 := ih (d.take n) (by simp; omega) (fun c hc => h c (List.mem_of_mem_take hc))
  have h2 := h _ (List.getElem_mem hi)
  rw [Nat.pow_succ]
  omega
theorem decVal_ge {c : UInt8} (hc : 49 ≤ c.toNat) : ∀ (n : Nat) (t : List UInt8), t.length = n → (∀ x ∈ t, 48 ≤ x.toNat ∧ x.toNat ≤ 57) → 10 ^ n ≤ decVal (c :: t) := by
 intro n
 induction n with
 | zero =>
  intro t ht _
  have : t = [] := List.eq_nil_of_length_eq_zero ht
  subst this
  simp [decVal]
  omega
 | succ n ih =>
  intro t ht h
  have hi : n < t.length := by omega
  have e : c :: t = (c :: t.take n) ++ [t[n]] := by
   rw [List.cons_append, ← List.take_succ_eq_append_getElem hi, List.take_of_length_le (by omega)]
  rw [e, decVal_snoc, Nat.pow_succ]
  have h1 := ih (t.take n) (by simp; omega) (fun c hc => h c (List.mem_of_mem_take hc))
  omega
theorem decVal_long {d : List UInt8} (h : isDec d = true) (hl : 155 < d.length) : ¬ decVal d < 256 ^ 64 := by
 cases d with
 | nil => simp at hl
 | cons c t =>
  have hne := isDec_head h (by intro e; subst e; simp at hl)
  have ha := isDec_all h
  have hc := ha c (by simp)
  have hc2 : 49 ≤ c.toNat := by
   rcases Nat.lt_or_ge c.toNat 49 with h1 | h1
   ·exact absurd (UInt8.toNat_inj.1 (show c.toNat = (48 : UInt8).toNat by show c.toNat = 48; omega)) hne
   ·exact h1
  have h1 := decVal_ge hc2 t.length t rfl (fun x hx => ha x (by simp [hx]))
  have h2 : 10 ^ 155 ≤ 10 ^ t.length := Nat.pow_le_pow_right (by omega) (by simp at hl; omega)
  have h3 : 256 ^ 64 ≤ 10 ^ 155 := by decide
  omega
theorem decVal_pos {d : List UInt8} (h : isDec d = true) (hz : d ≠ [48]) : 0 < decVal d := by
 cases d with
 | nil => cases h
 | cons c t =>
  have ha := isDec_all h
  have hc := ha c (by simp)
  have hne : c ≠ 48 := by
   intro e
   cases t with
   | nil => exact hz (by rw [e])
   | cons x y => exact isDec_head h (by simp) e
  have hc2 : 49 ≤ c.toNat := by
   rcases Nat.lt_or_ge c.toNat 49 with h1 | h1
   ·exact absurd (UInt8.toNat_inj.1 (show c.toNat = (48 : UInt8).toNat by show c.toNat = 48; omega)) hne
   ·exact h1
  have h1 := decVal_ge hc2 t.length t rfl (fun x hx => ha x (by simp [hx]))
  have h2 : 1 ≤ 10 ^ t.length := Nat.one_le_pow _ _ (by omega)
  omega
theorem decVal_small {d : List UInt8} (h : ∀ c ∈ d, 48 ≤ c.toNat ∧ c.toNat ≤ 57) {n : Nat} (hl : d.length ≤ n) : decVal d < 10 ^ n := Nat.lt_of_lt_of_le (decVal_lt d.length d rfl h) (Nat.pow_le_pow_right (by omega) hl)
theorem form_none {l : List UInt8} (h : isDec (unsigned l) = false) : formI l = none := by
 unfold formI
 rw [if_neg (by rw [h]; simp)]
theorem form_minus {l : List UInt8} (h : l.head? = some 45) (h2 : unsigned l = [48]) : formI l = none := by
 unfold formI
 rw [if_neg (by rintro ⟨-, h3⟩; exact h3 ⟨h, h2⟩)]
theorem form_some {l : List UInt8} (h : isDec (unsigned l) = true) (h2 : ¬ (l.head? = some 45 ∧ unsigned l = [48])) : formI l = some (decide (l.head? = some 45), decVal (unsigned l)) := by
 unfold formI
 rw [if_pos ⟨h, h2⟩]
theorem formI_inv {l : List UInt8} {n : Bool} {N : Nat} (h : formI l = some (n, N)) : isDec (unsigned l) = true ∧ n = decide (l.head? = some 45) ∧ N = decVal (unsigned l) ∧ (n = true → 0 < N) := by
 unfold formI at h
 split at h
 ·rename_i hc
  injection h with h
  injection h with h1 h2
  subst h1 h2
  refine ⟨hc.1, rfl, rfl, fun hn => ?_⟩
  have hn' : l.head? = some 45 := by simpa using hn
  exact decVal_pos hc.1 (fun e => hc.2 ⟨hn', e⟩)
 ·cases h
theorem unsigned_cons (t : List UInt8) : unsigned (45 :: t) = t := rfl
theorem unsigned_other {l : List UInt8} (h : l.head? ≠ some 45) : unsigned l = l := by unfold unsigned; rw [if_neg h]
theorem unsigned_le (l : List UInt8) : (unsigned l).length ≤ l.length := by unfold unsigned; split <;> simp
theorem cutL_len : ∀ {l : List UInt8} {y : List UInt8 × List UInt8}, cutL l = some y → y.1.length ≤ l.length ∧ y.2.length ≤ l.length
 | [], y, h => by cases h
 | c :: t, y, h => by
  unfold cutL at h
  split at h
  ·cases h; simp
  ·cases ht : cutL t with
   | none => rw [ht] at h; cases h
   | some z =>
    rw [ht] at h
    cases h
    have := cutL_len ht
    simp
    omega
theorem cutL_eq : ∀ {l : List UInt8} {y : List UInt8 × List UInt8}, cutL l = some y → l = y.1 ++ 47 :: y.2
 | [], y, h => by cases h
 | c :: t, y, h => by
  unfold cutL at h
  split at h
  ·rename_i hc
   cases h
   rw [hc]
   rfl
  ·cases ht : cutL t with
   | none => rw [ht] at h; cases h
   | some z =>
    rw [ht] at h
    cases h
    have := cutL_eq ht
    simp [← this]
theorem index_cut : ∀ l : List UInt8, Lib.index l [47] = match cutL l with | none => -1 | some y => (y.1.length : Int)
 | [] => rfl
 | c :: t => by
  unfold Lib.index cutL
  by_cases hc : c = 47
  ·subst hc
   simp [List.isPrefixOf]
  ·rw [if_neg hc, if_neg (by simp [List.isPrefixOf]; exact fun e => hc e.symm), index_cut t]
   cases cutL t with
   | none => rfl
   | some y =>
    simp only [Option.map_some]
    have e : ((y.1.length : Int) == -1) = false := by rw [beq_eq_false_iff_ne]; omega
    rw [e]
    simp
theorem cut_slash (l : List UInt8) : Lib.cut l [47] = match cutL l with | none => (l, [], false) | some y => (y.1, y.2, true) := by
 unfold Lib.cut
 rw [index_cut l]
 cases h : cutL l with
 | none => rfl
 | some y =>
  simp only
  rw [if_pos (by omega)]
  have e := cutL_eq h
  generalize y.1 = a at *
  generalize y.2 = b at *
  subst e
  simp
end Go.Proofs.YtedpaajpfaoffaaGreatDoor
namespace Go.Proofs.YtedpaajpfaoffaaGreatDoor
open Go.RowKit
def unread : Ending := .panicked [{ v := .iface 138 (.agg #[]), recovered := false }]
theorem must_false (w : World) : Calls Tryz.prog 39 #[.bool false] w fun r w' => r = unread ∧ w' = w := by
 go_enter Tryz.func39, Tryz.ntmps39
 go_wp2_with fail
 exact ⟨rfl, rfl, rfl⟩
def LimPost (p : Nat) (inp : Value) (l : List UInt8) (o : Option (Int × Nat)) (w : World) (r : Ending) (w' : World) : Prop :=
 Touch [p] w w' ∧ match o with
  | some x => r = .returned (.int .i64 x.1) ∧ Rd w' p inp l 0 x.2
  | none => r = unread
theorem limited_any (low lim : Int) (v p : Nat) (inp : Value) (l : List UInt8) (s : Int × Nat) (w : World) (h : Rd w p inp l s.1 s.2) (hv : Blk w v 71 #[.pointer (some ⟨p, 0, none⟩)]) (hvp : v ≠ p) :
  Calls Tryz.prog 41 #[.int .i64 low, .int .i64 lim, .pointer (some ⟨v, 0, none⟩)] w (LimPost p inp l (limO l low lim s) w) := by
 cases hx : limO l low lim s with
 | some x =>
  obtain ⟨h1, h2, h3, -⟩ := limO_some hx
  refine (limited_ok low lim v p inp l s w h hv hvp x.1 x.2 h1 h2 h3).mono ?_
  rintro r w' ⟨rfl, hr, ht⟩
  exact ⟨ht, rfl, hr⟩
 | none =>
  have hn := limO_none hx
  have H1 := Lib.hid (rd_uint p inp l s w h)
  have H2 := Lib.hid (fun e a w1 (hw : Rd w1 p inp l e a) => rd_err p inp l e a w1 hw)
  have HM := Lib.hid must_false
  have c0 := hv.cell 0
  simp at c0
  have HV := Lib.hid hv
  generalize rRead 0 (pUint l) s = x at *
  obtain ⟨n, e, a⟩ := x
  simp only at hn
  clear h hv hx
  by_cases he : e = 0
  ·subst he
   by_cases hlo : low ≤ n
   ·have hhi : ¬ n ≤ lim := fun h => hn ⟨rfl, hlo, h⟩
    clear hn
    go_enter Tryz.func41, Tryz.ntmps41
    go_wp2_with fail
    refine H1.out.mono ?_
    rintro r w1 ⟨rfl, hR1, ht1⟩
    simp only at hR1
    have c1 := (HV.out.touch ht1 (by simpa using hvp)).cell 0
    simp at c1
    have HR1 := Lib.hid hR1
    clear hR1
    go_wp2_with fail
    refine (H2.out _ _ w1 HR1.out).mono ?_
    rintro r w2 ⟨rfl, rfl⟩
    go_wp2_with fail
    rw [show decide (n ≤ lim) = false from decide_eq_false (by omega)]
    refine (HM.out _).mono ?_
    rintro r w3 ⟨rfl, rfl⟩
    unfold unread
    go_wp2_with fail
    exact ⟨rfl, ht1, rfl⟩
   ·clear hn
    go_enter Tryz.func41, Tryz.ntmps41
    go_wp2_with fail
    refine H1.out.mono ?_
    rintro r w1 ⟨rfl, hR1, ht1⟩
    simp only at hR1
    have c1 := (HV.out.touch ht1 (by simpa using hvp)).cell 0
    simp at c1
    have HR1 := Lib.hid hR1
    clear hR1
    go_wp2_with fail
    refine (H2.out _ _ w1 HR1.out).mono ?_
    rintro r w2 ⟨rfl, rfl⟩
    go_wp2_with fail
    refine (HM.out _).mono ?_
    rintro r w3 ⟨rfl, rfl⟩
    unfold unread
    go_wp2_with fail
    exact ⟨rfl, ht1, rfl⟩
  ·have he2 : (e == 0) = false := by simpa using he
   clear hn he
   go_enter Tryz.func41, Tryz.ntmps41
   go_wp2_with fail
   refine H1.out.mono ?_
   rintro r w1 ⟨rfl, hR1, ht1⟩
   simp only at hR1
   have c1 := (HV.out.touch ht1 (by simpa using hvp)).cell 0
   simp at c1
   have HR1 := Lib.hid hR1
   clear hR1
   go_wp2_with fail
   refine (H2.out _ _ w1 HR1.out).mono ?_
   rintro r w2 ⟨rfl, rfl⟩
   go_wp2_with fail
   refine (HM.out _).mono ?_
   rintro r w3 ⟨rfl, rfl⟩
   unfold unread
   go_wp2_with fail
   exact ⟨rfl, ht1, rfl⟩
theorem tx_getI (l : List UInt8) (k : Nat) (c : UInt8) (hc : l[k]? = some c) (h : k < (ByteArray.mk l.toArray).size) : (ByteArray.mk l.toArray)[k]'h = c := by
 obtain ⟨hk, rfl⟩ := List.getElem?_eq_some_iff.1 hc
 rfl
theorem isDecimal_any (d : List UInt8) (w : World) (hl : d.length ≤ 65536) : Calls Tryz.prog 182 #[.string ⟨d.toArray⟩] w fun r w' => r = .returned (.bool (isDec d)) ∧ w' = w := by
  cases hd0 : d with
  | nil =>
    go_enter Tryz.func182, Tryz.ntmps182
    go_wp2_with fail
    go_ret
    exact ⟨rfl, rfl⟩
  | cons c t =>
    rw [← hd0]
    have hpos : 0 < d.length := by rw [hd0]; simp
    have h0 : d[0]? = some c := by rw [hd0]; rfl
    clear hd0
    have hne : ((d.length : Int) == 0) = false := by rw [beq_eq_false_iff_ne]; omega
    have HG0 := Lib.hid (tx_getI d 0 c h0)
    have hsz := tx_size d
    by_cases hz : c = 48 ∧ 1 < d.length
    · have HZ := Lib.hid (isDec_zero (d := d) (by rw [h0, hz.1]) hz.2)
      obtain ⟨rfl, hl1⟩ := hz
      have hl1' : (1 : Int) < (d.length : Int) := by omega
      have hb : ∀ h : 0 < (ByteArray.mk d.toArray).size, ((((ByteArray.mk d.toArray)[0]'h).toNat : Int) == 48) = true := fun h => by rw [HG0.out]; rfl
      go_enter Tryz.func182, Tryz.ntmps182
      go_wp2_with fail
      go_ret
      exact ⟨by rw [HZ.out]; rfl, rfl⟩
    have HE : Hid (∀ x, d[0]? = some x → x = 48 → d.length ≤ 1) := Lib.hid (fun x hx e => by
      rw [h0] at hx
      injection hx with hx
      subst hx
      by_cases h1 : 1 < d.length
      · exact absurd ⟨e, h1⟩ hz
      · omega)
    by_cases hc : c = 48
    · have hl1 : ¬ (1 : Int) < (d.length : Int) := fun h => hz ⟨hc, by omega⟩
      have hb : ∀ h : 0 < (ByteArray.mk d.toArray).size, ((((ByteArray.mk d.toArray)[0]'h).toNat : Int) == 48) = true := fun h => by rw [HG0.out, hc]; rfl
      clear hz h0 hc
      go_enter Tryz.func182, Tryz.ntmps182
      go_wp2_with fail
      go_loopw [19] (fun ti wr => ∃ k : Nat, k ≤ d.length ∧ ti = .int .i64 k ∧ wr = w ∧ Hid (∀ j, j < k → ∀ x, d[j]? = some x → 48 ≤ x.toNat ∧ x.toNat ≤ 57)) (fun ti _ => d.length - (intOf ti).toNat)
      case atStart => exact ⟨0, by omega, rfl, rfl, Lib.hid (fun j hj => by omega)⟩
      case round =>
        obtain ⟨k, hk, rfl, rfl, HD⟩ := hrel
        by_cases hlt : k < d.length
        · obtain ⟨x, hx⟩ : ∃ x, d[k]? = some x := ⟨_, List.getElem?_eq_getElem hlt⟩
          have hlt' : (k : Int) < (d.length : Int) := by omega
          have HG := Lib.hid (tx_getI d k x hx)
          have HB : Hid (¬ (48 ≤ x.toNat ∧ x.toNat ≤ 57) → isDec d = false) := Lib.hid (fun h => isDec_bad hlt (by rw [List.getElem?_eq_getElem hlt] at hx; injection hx with hx; rw [hx]; exact h))
          have HN : Hid ((48 ≤ x.toNat ∧ x.toNat ≤ 57) → ∀ j, j < k + 1 → ∀ y, d[j]? = some y → 48 ≤ y.toNat ∧ y.toNat ≤ 57) := Lib.hid (fun h j hj y hy => by
            by_cases e : j < k
            · exact HD.out j e y hy
            · obtain rfl : j = k := by omega
              rw [hx] at hy
              injection hy with hy
              rw [← hy]; exact h)
          clear hx HD
          go_wp2_with fail
          all_goals simp only [HG.out] at *
          all_goals first
            | (go_ret
               refine ⟨?_, rfl⟩
               rw [HB.out (by omega)]
               rfl)
            | (go_roundw
               case rel => exact ⟨k + 1, by omega, by go_num, by trivial, Lib.hid (HN.out (by omega))⟩
               case measure => simp [intOf]; omega)
        · have hlt' : ¬ (k : Int) < (d.length : Int) := by omega
          have HK := Lib.hid (show k = d.length by omega)
          clear hk
          go_wp2_with fail
          go_ret
          refine ⟨?_, rfl⟩
          rw [isDec_of (d := d) (by intro e; rw [e] at hpos; simp at hpos) (HE.out) (fun y hy => by
            obtain ⟨j, hj, rfl⟩ := List.getElem_of_mem hy
            exact HD.out j (by rw [HK.out]; exact hj) _ (List.getElem?_eq_getElem hj))]
          rfl
    · have hb : ∀ h : 0 < (ByteArray.mk d.toArray).size, ((((ByteArray.mk d.toArray)[0]'h).toNat : Int) == 48) = false := fun h => by
        rw [HG0.out]
        simp
        exact fun e => hc (UInt8.toNat_inj.1 (by show c.toNat = 48; omega))
      clear hz h0 hc
      go_enter Tryz.func182, Tryz.ntmps182
      go_wp2_with fail
      go_loopw [19] (fun ti wr => ∃ k : Nat, k ≤ d.length ∧ ti = .int .i64 k ∧ wr = w ∧ Hid (∀ j, j < k → ∀ x, d[j]? = some x → 48 ≤ x.toNat ∧ x.toNat ≤ 57)) (fun ti _ => d.length - (intOf ti).toNat)
      case atStart => exact ⟨0, by omega, rfl, rfl, Lib.hid (fun j hj => by omega)⟩
      case round =>
        obtain ⟨k, hk, rfl, rfl, HD⟩ := hrel
        by_cases hlt : k < d.length
        · obtain ⟨x, hx⟩ : ∃ x, d[k]? = some x := ⟨_, List.getElem?_eq_getElem hlt⟩
          have hlt' : (k : Int) < (d.length : Int) := by omega
          have HG := Lib.hid (tx_getI d k x hx)
          have HB : Hid (¬ (48 ≤ x.toNat ∧ x.toNat ≤ 57) → isDec d = false) := Lib.hid (fun h => isDec_bad hlt (by rw [List.getElem?_eq_getElem hlt] at hx; injection hx with hx; rw [hx]; exact h))
          have HN : Hid ((48 ≤ x.toNat ∧ x.toNat ≤ 57) → ∀ j, j < k + 1 → ∀ y, d[j]? = some y → 48 ≤ y.toNat ∧ y.toNat ≤ 57) := Lib.hid (fun h j hj y hy => by
            by_cases e : j < k
            · exact HD.out j e y hy
            · obtain rfl : j = k := by omega
              rw [hx] at hy
              injection hy with hy
              rw [← hy]; exact h)
          clear hx HD
          go_wp2_with fail
          all_goals simp only [HG.out] at *
          all_goals first
            | (go_ret
               refine ⟨?_, rfl⟩
               rw [HB.out (by omega)]
               rfl)
            | (go_roundw
               case rel => exact ⟨k + 1, by omega, by go_num, by trivial, Lib.hid (HN.out (by omega))⟩
               case measure => simp [intOf]; omega)
        · have hlt' : ¬ (k : Int) < (d.length : Int) := by omega
          have HK := Lib.hid (show k = d.length by omega)
          clear hk
          go_wp2_with fail
          go_ret
          refine ⟨?_, rfl⟩
          rw [isDec_of (d := d) (by intro e; rw [e] at hpos; simp at hpos) (HE.out) (fun y hy => by
            obtain ⟨j, hj, rfl⟩ := List.getElem_of_mem hy
            exact HD.out j (by rw [HK.out]; exact hj) _ (List.getElem?_eq_getElem hj))]
          rfl
end Go.Proofs.YtedpaajpfaoffaaGreatDoor
