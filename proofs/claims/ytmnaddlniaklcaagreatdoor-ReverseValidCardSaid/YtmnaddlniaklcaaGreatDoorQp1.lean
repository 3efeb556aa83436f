/- A quick interpreter for the kernel: proofs, first part: frames. No program in sight. -/
import Derived.Test.YtmnaddlniaklcaaGreatDoorQ4
namespace Go.Proofs.YtmnaddlniaklcaaGreatDoor.Ev
open Go

def R8.at (r : R8) : I8 → FV
  | .i0 => r.1
  | .i1 => r.2
  | .i2 => r.3
  | .i3 => r.4
  | .i4 => r.5
  | .i5 => r.6
  | .i6 => r.7
  | .i7 => r.8
def Fm.at (f : Fm) : I8 → R8
  | .i0 => f.1
  | .i1 => f.2
  | .i2 => f.3
  | .i3 => f.4
  | .i4 => f.5
  | .i5 => f.6
  | .i6 => f.7
  | .i7 => f.8
def R8.set (r : R8) (v : FV) : I8 → R8
  | .i0 => ⟨v, r.2, r.3, r.4, r.5, r.6, r.7, r.8⟩
  | .i1 => ⟨r.1, v, r.3, r.4, r.5, r.6, r.7, r.8⟩
  | .i2 => ⟨r.1, r.2, v, r.4, r.5, r.6, r.7, r.8⟩
  | .i3 => ⟨r.1, r.2, r.3, v, r.5, r.6, r.7, r.8⟩
  | .i4 => ⟨r.1, r.2, r.3, r.4, v, r.6, r.7, r.8⟩
  | .i5 => ⟨r.1, r.2, r.3, r.4, r.5, v, r.7, r.8⟩
  | .i6 => ⟨r.1, r.2, r.3, r.4, r.5, r.6, v, r.8⟩
  | .i7 => ⟨r.1, r.2, r.3, r.4, r.5, r.6, r.7, v⟩
def Fm.setR (f : Fm) (r : R8) : I8 → Fm
  | .i0 => ⟨r, f.2, f.3, f.4, f.5, f.6, f.7, f.8, f.9⟩
  | .i1 => ⟨f.1, r, f.3, f.4, f.5, f.6, f.7, f.8, f.9⟩
  | .i2 => ⟨f.1, f.2, r, f.4, f.5, f.6, f.7, f.8, f.9⟩
  | .i3 => ⟨f.1, f.2, f.3, r, f.5, f.6, f.7, f.8, f.9⟩
  | .i4 => ⟨f.1, f.2, f.3, f.4, r, f.6, f.7, f.8, f.9⟩
  | .i5 => ⟨f.1, f.2, f.3, f.4, f.5, r, f.7, f.8, f.9⟩
  | .i6 => ⟨f.1, f.2, f.3, f.4, f.5, f.6, r, f.8, f.9⟩
  | .i7 => ⟨f.1, f.2, f.3, f.4, f.5, f.6, f.7, r, f.9⟩
theorem R8.at_set (r : R8) (v : FV) (j j' : I8) : (r.set v j).at j' = if j' = j then v else r.at j' := by cases j <;> cases j' <;> rfl
theorem Fm.at_setR (f : Fm) (r : R8) (i i' : I8) : (f.setR r i).at i' = if i' = i then r else f.at i' := by cases i <;> cases i' <;> rfl
theorem Fm.more_setR (f : Fm) (r : R8) (i : I8) : (f.setR r i).more = f.more := by cases i <;> rfl
theorem Fm.at_withMore (f : Fm) (t : Tr V) (i : I8) : (f.withMore t).at i = f.at i := by cases i <;> rfl
theorem Fm.more_withMore (f : Fm) (t : Tr V) : (f.withMore t).more = t := rfl

theorem gsOf_lt : ∀ t, t < 64 → gsOf t = some (fun f => (f.at (i8 (t / 8))).at (i8 (t % 8)))
  | 0, _ => rfl
  | 1, _ => rfl
  | 2, _ => rfl
  | 3, _ => rfl
  | 4, _ => rfl
  | 5, _ => rfl
  | 6, _ => rfl
  | 7, _ => rfl
  | 8, _ => rfl
  | 9, _ => rfl
  | 10, _ => rfl
  | 11, _ => rfl
  | 12, _ => rfl
  | 13, _ => rfl
  | 14, _ => rfl
  | 15, _ => rfl
  | 16, _ => rfl
  | 17, _ => rfl
  | 18, _ => rfl
  | 19, _ => rfl
  | 20, _ => rfl
  | 21, _ => rfl
  | 22, _ => rfl
  | 23, _ => rfl
  | 24, _ => rfl
  | 25, _ => rfl
  | 26, _ => rfl
  | 27, _ => rfl
  | 28, _ => rfl
  | 29, _ => rfl
  | 30, _ => rfl
  | 31, _ => rfl
  | 32, _ => rfl
  | 33, _ => rfl
  | 34, _ => rfl
  | 35, _ => rfl
  | 36, _ => rfl
  | 37, _ => rfl
  | 38, _ => rfl
  | 39, _ => rfl
  | 40, _ => rfl
  | 41, _ => rfl
  | 42, _ => rfl
  | 43, _ => rfl
  | 44, _ => rfl
  | 45, _ => rfl
  | 46, _ => rfl
  | 47, _ => rfl
  | 48, _ => rfl
  | 49, _ => rfl
  | 50, _ => rfl
  | 51, _ => rfl
  | 52, _ => rfl
  | 53, _ => rfl
  | 54, _ => rfl
  | 55, _ => rfl
  | 56, _ => rfl
  | 57, _ => rfl
  | 58, _ => rfl
  | 59, _ => rfl
  | 60, _ => rfl
  | 61, _ => rfl
  | 62, _ => rfl
  | 63, _ => rfl
  | n + 64, h => absurd h (by omega)
theorem gsOf_ge (n : Nat) : gsOf (n + 64) = none := rfl
noncomputable def ptIJ (i j : I8) (v : FV) (f : Fm) (k : Fm → RR) : RR := k (f.setR ((f.at i).set v j) i)
theorem ptOf_lt : ∀ t, t < 64 → ptOf t = some (ptIJ (i8 (t / 8)) (i8 (t % 8)))
  | 0, _ => rfl
  | 1, _ => rfl
  | 2, _ => rfl
  | 3, _ => rfl
  | 4, _ => rfl
  | 5, _ => rfl
  | 6, _ => rfl
  | 7, _ => rfl
  | 8, _ => rfl
  | 9, _ => rfl
  | 10, _ => rfl
  | 11, _ => rfl
  | 12, _ => rfl
  | 13, _ => rfl
  | 14, _ => rfl
  | 15, _ => rfl
  | 16, _ => rfl
  | 17, _ => rfl
  | 18, _ => rfl
  | 19, _ => rfl
  | 20, _ => rfl
  | 21, _ => rfl
  | 22, _ => rfl
  | 23, _ => rfl
  | 24, _ => rfl
  | 25, _ => rfl
  | 26, _ => rfl
  | 27, _ => rfl
  | 28, _ => rfl
  | 29, _ => rfl
  | 30, _ => rfl
  | 31, _ => rfl
  | 32, _ => rfl
  | 33, _ => rfl
  | 34, _ => rfl
  | 35, _ => rfl
  | 36, _ => rfl
  | 37, _ => rfl
  | 38, _ => rfl
  | 39, _ => rfl
  | 40, _ => rfl
  | 41, _ => rfl
  | 42, _ => rfl
  | 43, _ => rfl
  | 44, _ => rfl
  | 45, _ => rfl
  | 46, _ => rfl
  | 47, _ => rfl
  | 48, _ => rfl
  | 49, _ => rfl
  | 50, _ => rfl
  | 51, _ => rfl
  | 52, _ => rfl
  | 53, _ => rfl
  | 54, _ => rfl
  | 55, _ => rfl
  | 56, _ => rfl
  | 57, _ => rfl
  | 58, _ => rfl
  | 59, _ => rfl
  | 60, _ => rfl
  | 61, _ => rfl
  | 62, _ => rfl
  | 63, _ => rfl
  | n + 64, h => absurd h (by omega)
theorem ptOf_ge (n : Nat) : ptOf (n + 64) = none := rfl

theorem slot_inj {t u : Nat} (ht : t < 64) (hu : u < 64) (h1 : i8 (t / 8) = i8 (u / 8)) (h2 : i8 (t % 8) = i8 (u % 8)) : t = u := by
  have e1 := i8_inj (by omega) (by omega) h1
  have e2 := i8_inj (by omega) (by omega) h2
  omega

/-! ### What is in a slot -/
theorem FV.toV_ofAt (x : At) : (FV.ofAt x).toV = some (.one x) := by
  cases x <;> try rfl
  rename_i k n
  cases k <;> cases n <;> rfl
theorem FV.toV_ofV (x : V) : (FV.ofV x).toV = some x := by
  cases x with
  | tup l => rfl
  | c g l =>
    cases g with
    | true => rfl
    | false =>
      cases l with
      | nil => rfl
      | cons y l => cases l with
        | nil => exact FV.toV_ofAt y
        | cons z l => rfl
theorem FV.toV_ofO (x : Option V) : (FV.ofO x).toV = x := by
  cases x with
  | none => rfl
  | some y => exact FV.toV_ofV y

theorem Fm.val_lt (f : Fm) {t : Nat} (h : t < 64) : f.val t = ((f.at (i8 (t / 8))).at (i8 (t % 8))).toV := by
  unfold Fm.val opdT; rw [gsOf_lt t h]; rfl
theorem Fm.val_ge (f : Fm) {t : Nat} (h : 64 ≤ t) : f.val t = f.more.get t := by
  obtain ⟨n, rfl⟩ : ∃ n, t = n + 64 := ⟨t - 64, by omega⟩
  unfold Fm.val opdT; rw [gsOf_ge]; exact FV.toV_ofO _
theorem Fm.opdT_val (f : Fm) (t : Nat) : ((opdT t).get f).toV = f.val t := rfl

/-- A slot is written. -/
noncomputable def Fm.set (f : Fm) (t : Nat) (v : FV) : Fm :=
  if t < 64 then f.setR ((f.at (i8 (t / 8))).set v (i8 (t % 8))) (i8 (t / 8)) else f.withMore (f.more.put v.toV t)
theorem Fm.val_set (f : Fm) (t : Nat) (v : FV) (u : Nat) : (f.set t v).val u = if u = t then v.toV else f.val u := by
  unfold Fm.set
  by_cases ht : t < 64
  · rw [if_pos ht]
    by_cases hu : u < 64
    · rw [Fm.val_lt _ hu, Fm.at_setR]
      by_cases e : u = t
      · subst e; rw [if_pos rfl, if_pos rfl, R8.at_set, if_pos rfl]
      · rw [if_neg e, Fm.val_lt _ hu]
        by_cases e1 : i8 (u / 8) = i8 (t / 8)
        · rw [if_pos e1, R8.at_set, if_neg (fun e2 => e (slot_inj hu ht e1 e2)), e1]
        · rw [if_neg e1]
    · rw [Fm.val_ge _ (by omega), Fm.more_setR, if_neg (by omega), Fm.val_ge _ (by omega)]
  · rw [if_neg ht]
    by_cases hu : u < 64
    · rw [Fm.val_lt _ hu, Fm.at_withMore, if_neg (by omega), Fm.val_lt _ hu]
    · rw [Fm.val_ge _ (by omega), Fm.more_withMore, Tr.get_put, Fm.val_ge f (by omega)]
theorem putK_some (t : Nat) (v : FV) (f : Fm) (k : Fm → RR) : (dstOf (some t)).putK v f k = k (f.set t v) := by
  show (dstS t (ptOf t)).putK v f k = _
  unfold Fm.set
  by_cases ht : t < 64
  · rw [ptOf_lt t ht, if_pos ht]; rfl
  · obtain ⟨n, rfl⟩ : ∃ n, t = n + 64 := ⟨t - 64, by omega⟩
    rw [ptOf_ge, if_neg ht]; rfl
noncomputable def Fm.setO (f : Fm) (d : Option Tmp) (v : FV) : Fm := match d with | .some t => f.set t v | .none => f
theorem putK_eq (d : Option Tmp) (v : FV) (f : Fm) (k : Fm → RR) : (dstOf d).putK v f k = k (f.setO d v) := by
  cases d with
  | none => rfl
  | some t => exact putK_some t v f k

/-! ### The frame as a trie -/
theorem Fm.get_trN (f : Fm) : ∀ n t, n ≤ 64 → (f.trN n).get t = if t < n then f.val t else f.more.get t
  | 0, t, _ => by simp [Fm.trN]
  | n + 1, t, h => by
    simp only [Fm.trN, Tr.get_put]
    by_cases e : t = n
    · subst e; simp
    · rw [if_neg e, Fm.get_trN f n t (by omega)]
      by_cases h1 : t < n
      · rw [if_pos h1, if_pos (by omega)]
      · rw [if_neg h1, if_neg (by omega)]
theorem Fm.get_tr (f : Fm) (t : Nat) : f.tr.get t = f.val t := by
  unfold Fm.tr
  rw [Fm.get_trN f 64 t (Nat.le_refl _)]
  by_cases h : t < 64
  · rw [if_pos h]
  · rw [if_neg h, Fm.val_ge f (by omega)]
theorem fvs_toV (t : Tr V) (n : Nat) : (fvs t n).toV = t.get n := FV.toV_ofO _
theorem row8_at (t : Tr V) (n : Nat) : ∀ j, j < 8 → ((row8 t n).at (i8 j)).toV = t.get (n + j)
  | 0, _ => fvs_toV t n | 1, _ => fvs_toV t (n + 1) | 2, _ => fvs_toV t (n + 2) | 3, _ => fvs_toV t (n + 3) | 4, _ => fvs_toV t (n + 4) | 5, _ => fvs_toV t (n + 5) | 6, _ => fvs_toV t (n + 6) | 7, _ => fvs_toV t (n + 7)
  | n + 8, h => absurd h (by omega)
theorem ofTr_at (t : Tr V) : ∀ i, i < 8 → (Fm.ofTr t).at (i8 i) = row8 t (8 * i)
  | 0, _ => rfl | 1, _ => rfl | 2, _ => rfl | 3, _ => rfl | 4, _ => rfl | 5, _ => rfl | 6, _ => rfl | 7, _ => rfl
  | n + 8, h => absurd h (by omega)
theorem Fm.get_ofTr (t : Tr V) (u : Nat) : (Fm.ofTr t).tr.get u = t.get u := by
  rw [Fm.get_tr]
  by_cases h : u < 64
  · rw [Fm.val_lt _ h, ofTr_at t _ (by omega), row8_at _ _ _ (by omega)]; congr 1; omega
  · rw [Fm.val_ge _ (by omega)]; rfl

/-! ### Values, taken apart -/
theorem forceN_eq (n : Nat) (k : Nat → RR) : forceN n k = k n := by cases n <;> rfl
theorem forceH_eq (H : Tr AObj) (k : Tr AObj → RR) : forceH H k = k H := by cases H <;> rfl
theorem orK_no (k : FV → RR) (s : RR) : FV.orK .no k s = s := rfl
theorem orK_some {v : FV} {x : V} (h : v.toV = some x) (k : FV → RR) (s : RR) : FV.orK v k s = k v := by
  cases v with
  | no => cases h
  | i n => exact forceN_eq n (fun m => k (.i m))
  | u n => exact forceN_eq n (fun m => k (.u m))
  | b x => cases x <;> rfl
  | p b o => exact (forceN_eq b (fun b => forceN o (fun o => k (.p b o)))).trans (forceN_eq o (fun o => k (.p b o)))
  | a x => rfl
  | v x => rfl
/-- Either nothing, or a value. -/
theorem orK_cases (v : FV) (k : FV → RR) (s : RR) : (v = .no ∧ FV.orK v k s = s) ∨ (∃ x, v.toV = some x ∧ FV.orK v k s = k v) := by
  cases v with
  | no => exact .inl ⟨rfl, rfl⟩
  | i n => exact .inr ⟨_, rfl, orK_some (v := .i n) rfl k s⟩
  | u n => exact .inr ⟨_, rfl, orK_some (v := .u n) rfl k s⟩
  | b x => exact .inr ⟨_, rfl, orK_some (v := .b x) rfl k s⟩
  | p b o => exact .inr ⟨_, rfl, orK_some (v := .p b o) rfl k s⟩
  | a x => exact .inr ⟨_, rfl, rfl⟩
  | v x => exact .inr ⟨_, rfl, rfl⟩
theorem ptrK_cases (v : FV) (k : Nat → Nat → RR) (s : RR) : (∃ b o, v = .p b o ∧ FV.ptrK v k s = k b o) ∨ FV.ptrK v k s = s := by
  cases v <;> first | exact .inl ⟨_, _, rfl, rfl⟩ | exact .inr rfl

theorem opd_toV (P : Program) (f : Fm) (x : Operand) : ((opd P x).get f).toV = evO P f.tr x := by
  cases x with
  | tmp t => simp only [evO]; rw [Fm.get_tr]; rfl
  | const v => exact FV.toV_ofO (evO P .nil (.const v))
  | global g => exact FV.toV_ofO (evO P .nil (.global g))
  | func g => exact FV.toV_ofO (evO P .nil (.func g))

theorem RA.congr {η : Env} {tm tm' : Tr V} {A : Array Value} (h : RA η tm A) (e : ∀ t, tm'.get t = tm.get t) : RA η tm' A := fun t v hv => h t v (by rw [← e]; exact hv)
theorem RA.setO {η : Env} {f : Fm} {A : Act} (h : RA η f.tr A.tmps) {d : Option Tmp} {v : FV} {cv : Value} (hd : ∀ t, d = some t → t < A.tmps.size) (hv : ∀ x, v.toV = some x → x.conc η = some cv) :
    RA η (f.setO d v).tr (A.put d cv).tmps := by
  cases d with
  | none => exact h
  | some t =>
    intro u x hx
    have ht := hd t rfl
    rw [Fm.get_tr] at hx
    simp only [Fm.setO, Fm.val_set] at hx
    by_cases e : u = t
    · subst e; rw [if_pos rfl] at hx; simp [Act.put, ht, hv x hx]
    · rw [if_neg e] at hx
      have := h u x (by rw [Fm.get_tr]; exact hx)
      simp only [Act.put, Array.getD_eq_getD_getElem?] at this ⊢
      rw [Array.getElem?_setIfInBounds_ne (Ne.symm e)]; exact this
theorem restrF_eq (f : Fm) : ∀ l, restrF f l = restrT f.tr l
  | [] => rfl
  | t :: l => by simp only [restrF, restrT, Fm.get_tr, restrF_eq f l]; cases f.val t <;> rfl

end Go.Proofs.YtmnaddlniaklcaaGreatDoor.Ev
