/- A quick interpreter for the kernel: proofs, first part: frames. No program in sight. -/
import Derived.Test.YtphpkalbbmlgoaaGreatDoorQA
namespace Go.Proofs.YtphpkalbbmlgoaaGreatDoor.Ev
open Go

def R8.at (r : R8) : I8 → FV
  | .i0 => r.1
  | .i1 => r.2
  | .i2 => r.3
  | .i3 => r.4
  | .i4 => r.5
  | .i5 => r.6
  | .i6 => r.7
  | .i7 => r.8

def Fm.at (f : Fm) : I8 → R8
  | .i0 => f.1
  | .i1 => f.2
  | .i2 => f.3
  | .i3 => f.4
  | .i4 => f.5
  | .i5 => f.6
  | .i6 => f.7
  | .i7 => f.8

def R8.set (r : R8) (v : FV) : I8 → R8
  | .i0 => ⟨v, r.2, r.3, r.4, r.5, r.6, r.7, r.8⟩
  | .i1 => ⟨r.1, v, r.3, r.4, r.5, r.6, r.7, r.8⟩
  | .i2 => ⟨r.1, r.2, v, r.4, r.5, r.6, r.7, r.8⟩
  | .i3 => ⟨r.1, r.2, r.3, v, r.5, r.6, r.7, r.8⟩
  | .i4 => ⟨r.1, r.2, r.3, r.4, v, r.6, r.7, r.8⟩
  | .i5 => ⟨r.1, r.2, r.3, r.4, r.5, v, r.7, r.8⟩
  | .i6 => ⟨r.1, r.2, r.3, r.4, r.5, r.6, v, r.8⟩
  | .i7 => ⟨r.1, r.2, r.3, r.4, r.5, r.6, r.7, v⟩

def Fm.setR (f : Fm) (r : R8) : I8 → Fm
  | .i0 => ⟨r, f.2, f.3, f.4, f.5, f.6, f.7, f.8, f.9⟩
  | .i1 => ⟨f.1, r, f.3, f.4, f.5, f.6, f.7, f.8, f.9⟩
  | .i2 => ⟨f.1, f.2, r, f.4, f.5, f.6, f.7, f.8, f.9⟩
  | .i3 => ⟨f.1, f.2, f.3, r, f.5, f.6, f.7, f.8, f.9⟩
  | .i4 => ⟨f.1, f.2, f.3, f.4, r, f.6, f.7, f.8, f.9⟩
  | .i5 => ⟨f.1, f.2, f.3, f.4, f.5, r, f.7, f.8, f.9⟩
  | .i6 => ⟨f.1, f.2, f.3, f.4, f.5, f.6, r, f.8, f.9⟩
  | .i7 => ⟨f.1, f.2, f.3, f.4, f.5, f.6, f.7, r, f.9⟩

theorem R8.at_set (r : R8) (v : FV) (j j' : I8) : (r.set v j).at j' = if j' = j then v else r.at j' := by cases j <;> cases j' <;> rfl

theorem Fm.at_setR (f : Fm) (r : R8) (i i' : I8) : (f.setR r i).at i' = if i' = i then r else f.at i' := by cases i <;> cases i' <;> rfl

theorem Fm.more_setR (f : Fm) (r : R8) (i : I8) : (f.setR r i).more = f.more := by cases i <;> rfl

theorem Fm.at_withMore (f : Fm) (t : Tr V) (i : I8) : (f.withMore t).at i = f.at i := by cases i <;> rfl

theorem Fm.more_withMore (f : Fm) (t : Tr V) : (f.withMore t).more = t := rfl

theorem gsOf_lt : ∀ t, t < 64 → gsOf t = some (fun f => (f.at (i8 (t / 8))).at (i8 (t % 8)))
  | 0, _ => rfl
  | 1, _ => rfl
  | 2, _ => rfl
  | 3, _ => rfl
  | 4, _ => rfl
  | 5, _ => rfl
  | 6, _ => rfl
  | 7, _ => rfl
  | 8, _ => rfl
  | 9, _ => rfl
  | 10, _ => rfl
  | 11, _ => rfl
  | 12, _ => rfl
  | 13, _ => rfl
  | 14, _ => rfl
  | 15, _ => rfl
  | 16, _ => rfl
  | 17, _ => rfl
  | 18, _ => rfl
  | 19, _ => rfl
  | 20, _ => rfl
  | 21, _ => rfl
  | 22, _ => rfl
  | 23, _ => rfl
  | 24, _ => rfl
  | 25, _ => rfl
  | 26, _ => rfl
  | 27, _ => rfl
  | 28, _ => rfl
  | 29, _ => rfl
  | 30, _ => rfl
  | 31, _ => rfl
  | 32, _ => rfl
  | 33, _ => rfl
  | 34, _ => rfl
  | 35, _ => rfl
  | 36, _ => rfl
  | 37, _ => rfl
  | 38, _ => rfl
  | 39, _ => rfl
  | 40, _ => rfl
  | 41, _ => rfl
  | 42, _ => rfl
  | 43, _ => rfl
  | 44, _ => rfl
  | 45, _ => rfl
  | 46, _ => rfl
  | 47, _ => rfl
  | 48, _ => rfl
  | 49, _ => rfl
  | 50, _ => rfl
  | 51, _ => rfl
  | 52, _ => rfl
  | 53, _ => rfl
  | 54, _ => rfl
  | 55, _ => rfl
  | 56, _ => rfl
  | 57, _ => rfl
  | 58, _ => rfl
  | 59, _ => rfl
  | 60, _ => rfl
  | 61, _ => rfl
  | 62, _ => rfl
  | 63, _ => rfl
  | n + 64, h => absurd h (by omega)

theorem gsOf_ge (n : Nat) : gsOf (n + 64) = none := rfl

noncomputable def ptIJ (i j : I8) (v : FV) (f : Fm) (k : Fm → RR) : RR := k (f.setR ((f.at i).set v j) i)

theorem ptOf_lt : ∀ t, t < 64 → ptOf t = some (ptIJ (i8 (t / 8)) (i8 (t % 8)))
  | 0, _ => rfl
  | 1, _ => rfl
  | 2, _ => rfl
  | 3, _ => rfl
  | 4, _ => rfl
  | 5, _ => rfl
  | 6, _ => rfl
  | 7, _ => rfl
  | 8, _ => rfl
  | 9, _ => rfl
  | 10, _ => rfl
  | 11, _ => rfl
  | 12, _ => rfl
  | 13, _ => rfl
  | 14, _ => rfl
  | 15, _ => rfl
  | 16, _ => rfl
  | 17, _ => rfl
  | 18, _ => rfl
  | 19, _ => rfl
  | 20, _ => rfl
  | 21, _ => rfl
  | 22, _ => rfl
  | 23, _ => rfl
  | 24, _ => rfl
  | 25, _ => rfl
  | 26, _ => rfl
  | 27, _ => rfl
  | 28, _ => rfl
  | 29, _ => rfl
  | 30, _ => rfl
  | 31, _ => rfl
  | 32, _ => rfl
  | 33, _ => rfl
  | 34, _ => rfl
  | 35, _ => rfl
  | 36, _ => rfl
  | 37, _ => rfl
  | 38, _ => rfl
  | 39, _ => rfl
  | 40, _ => rfl
  | 41, _ => rfl
  | 42, _ => rfl
  | 43, _ => rfl
  | 44, _ => rfl
  | 45, _ => rfl
  | 46, _ => rfl
  | 47, _ => rfl
  | 48, _ => rfl
  | 49, _ => rfl
  | 50, _ => rfl
  | 51, _ => rfl
  | 52, _ => rfl
  | 53, _ => rfl
  | 54, _ => rfl
  | 55, _ => rfl
  | 56, _ => rfl
  | 57, _ => rfl
  | 58, _ => rfl
  | 59, _ => rfl
  | 60, _ => rfl
  | 61, _ => rfl
  | 62, _ => rfl
  | 63, _ => rfl
  | n + 64, h => absurd h (by omega)

theorem ptOf_ge (n : Nat) : ptOf (n + 64) = none := rfl

theorem slot_inj {t u : Nat} (ht : t < 64) (hu : u < 64) (h1 : i8 (t / 8) = i8 (u / 8)) (h2 : i8 (t % 8) = i8 (u % 8)) : t = u := by
  have e1 := i8_inj (by omega) (by omega) h1
  have e2 := i8_inj (by omega) (by omega) h2
  omega

theorem FV.toV_ofAt (x : At) : (FV.ofAt x).toV = some (.one x) := by
  cases x <;> try rfl
  rename_i k n
  cases k <;> cases n <;> rfl

theorem FV.toV_ofV (x : V) : (FV.ofV x).toV = some x := by
  cases x with
  | tup l => rfl
  | c g l =>
    cases g with
    | true => rfl
    | false =>
      cases l with
      | nil => rfl
      | cons y l => cases l with
        | nil => exact FV.toV_ofAt y
        | cons z l => rfl

theorem FV.toV_ofO (x : Option V) : (FV.ofO x).toV = x := by
  cases x with
  | none => rfl
  | some y => exact FV.toV_ofV y

theorem Fm.val_lt (f : Fm) {t : Nat} (h : t < 64) : f.val t = ((f.at (i8 (t / 8))).at (i8 (t % 8))).toV := by
  unfold Fm.val opdT; rw [gsOf_lt t h]; rfl

theorem Fm.val_ge (f : Fm) {t : Nat} (h : 64 ≤ t) : f.val t = f.more.get t := by
  obtain ⟨n, rfl⟩ : ∃ n, t = n + 64 := ⟨t - 64, by omega⟩
  unfold Fm.val opdT; rw [gsOf_ge]; exact FV.toV_ofO _

noncomputable def Fm.set (f : Fm) (t : Nat) (v : FV) : Fm :=
  if t < 64 then f.setR ((f.at (i8 (t / 8))).set v (i8 (t % 8))) (i8 (t / 8)) else f.withMore (f.more.put v.toV t)

theorem Fm.val_set (f : Fm) (t : Nat) (v : FV) (u : Nat) : (f.set t v).val u = if u = t then v.toV else f.val u := by
  unfold Fm.set
  by_cases ht : t < 64
  · rw [if_pos ht]
    by_cases hu : u < 64
    · rw [Fm.val_lt _ hu, Fm.at_setR]
      by_cases e : u = t
      · subst e; rw [if_pos rfl, if_pos rfl, R8.at_set, if_pos rfl]
      · rw [if_neg e, Fm.val_lt _ hu]
        by_cases e1 : i8 (u / 8) = i8 (t / 8)
        · rw [if_pos e1, R8.at_set, if_neg (fun e2 => e (slot_inj hu ht e1 e2)), e1]
        · rw [if_neg e1]
    · rw [Fm.val_ge _ (by omega), Fm.more_setR, if_neg (by omega), Fm.val_ge _ (by omega)]
  · rw [if_neg ht]
    by_cases hu : u < 64
    · rw [Fm.val_lt _ hu, Fm.at_withMore, if_neg (by omega), Fm.val_lt _ hu]
    · rw [Fm.val_ge _ (by omega), Fm.more_withMore, Tr.get_put, Fm.val_ge f (by omega)]

theorem putK_some (t : Nat) (v : FV) (f : Fm) (k : Fm → RR) : (dstOf (some t)).putK v f k = k (f.set t v) := by
  show (dstS t (ptOf t)).putK v f k = _
  unfold Fm.set
  by_cases ht : t < 64
  · rw [ptOf_lt t ht, if_pos ht]; rfl
  · obtain ⟨n, rfl⟩ : ∃ n, t = n + 64 := ⟨t - 64, by omega⟩
    rw [ptOf_ge, if_neg ht]; rfl

noncomputable def Fm.setO (f : Fm) (d : Option Tmp) (v : FV) : Fm := match d with | .some t => f.set t v | .none => f

theorem putK_eq (d : Option Tmp) (v : FV) (f : Fm) (k : Fm → RR) : (dstOf d).putK v f k = k (f.setO d v) := by
  cases d with
  | none => rfl
  | some t => exact putK_some t v f k

theorem Fm.get_trN (f : Fm) : ∀ n t, n ≤ 64 → (f.trN n).get t = if t < n then f.val t else f.more.get t
  | 0, t, _ => by simp [Fm.trN]
  | n + 1, t, h => by
    simp only [Fm.trN, Tr.get_put]
    by_cases e : t = n
    · subst e; simp
    · rw [if_neg e, Fm.get_trN f n t (by omega)]
      by_cases h1 : t < n
      · rw [if_pos h1, if_pos (by omega)]
      · rw [if_neg h1, if_neg (by omega)]

theorem Fm.get_tr (f : Fm) (t : Nat) : f.tr.get t = f.val t := by
  unfold Fm.tr
  rw [Fm.get_trN f 64 t (Nat.le_refl _)]
  by_cases h : t < 64
  · rw [if_pos h]
  · rw [if_neg h, Fm.val_ge f (by omega)]

theorem fvs_toV (t : Tr V) (n : Nat) : (fvs t n).toV = t.get n := FV.toV_ofO _

theorem row8_at (t : Tr V) (n : Nat) : ∀ j, j < 8 → ((row8 t n).at (i8 j)).toV = t.get (n + j)
  | 0, _ => fvs_toV t n | 1, _ => fvs_toV t (n + 1) | 2, _ => fvs_toV t (n + 2) | 3, _ => fvs_toV t (n + 3) | 4, _ => fvs_toV t (n + 4) | 5, _ => fvs_toV t (n + 5) | 6, _ => fvs_toV t (n + 6) | 7, _ => fvs_toV t (n + 7)
  | n + 8, h => absurd h (by omega)

theorem ofTr_at (t : Tr V) : ∀ i, i < 8 → (Fm.ofTr t).at (i8 i) = row8 t (8 * i)
  | 0, _ => rfl | 1, _ => rfl | 2, _ => rfl | 3, _ => rfl | 4, _ => rfl | 5, _ => rfl | 6, _ => rfl | 7, _ => rfl
  | n + 8, h => absurd h (by omega)

theorem Fm.get_ofTr (t : Tr V) (u : Nat) : (Fm.ofTr t).tr.get u = t.get u := by
  rw [Fm.get_tr]
  by_cases h : u < 64
  · rw [Fm.val_lt _ h, ofTr_at t _ (by omega), row8_at _ _ _ (by omega)]; congr 1; omega
  · rw [Fm.val_ge _ (by omega)]; rfl

theorem forceN_eq (n : Nat) (k : Nat → RR) : forceN n k = k n := by cases n <;> rfl

theorem forceH_eq (H : Tr AObj) (k : Tr AObj → RR) : forceH H k = k H := by cases H <;> rfl

theorem orK_some {v : FV} {x : V} (h : v.toV = some x) (k : FV → RR) (s : RR) : FV.orK v k s = k v := by
  cases v with
  | no => cases h
  | i n => exact forceN_eq n (fun m => k (.i m))
  | u n => exact forceN_eq n (fun m => k (.u m))
  | b x => cases x <;> rfl
  | p b o => exact (forceN_eq b (fun b => forceN o (fun o => k (.p b o)))).trans (forceN_eq o (fun o => k (.p b o)))
  | a x => rfl
  | v x => rfl

theorem orK_cases (v : FV) (k : FV → RR) (s : RR) : (v = .no ∧ FV.orK v k s = s) ∨ (∃ x, v.toV = some x ∧ FV.orK v k s = k v) := by
  cases v with
  | no => exact .inl ⟨rfl, rfl⟩
  | i n => exact .inr ⟨_, rfl, orK_some (v := .i n) rfl k s⟩
  | u n => exact .inr ⟨_, rfl, orK_some (v := .u n) rfl k s⟩
  | b x => exact .inr ⟨_, rfl, orK_some (v := .b x) rfl k s⟩
  | p b o => exact .inr ⟨_, rfl, orK_some (v := .p b o) rfl k s⟩
  | a x => exact .inr ⟨_, rfl, rfl⟩
  | v x => exact .inr ⟨_, rfl, rfl⟩

theorem ptrK_cases (v : FV) (k : Nat → Nat → RR) (s : RR) : (∃ b o, v = .p b o ∧ FV.ptrK v k s = k b o) ∨ FV.ptrK v k s = s := by
  cases v <;> first | exact .inl ⟨_, _, rfl, rfl⟩ | exact .inr rfl

theorem opd_toV (P : Program) (f : Fm) (x : Operand) : ((opd P x).get f).toV = evO P f.tr x := by
  cases x with
  | tmp t => simp only [evO]; rw [Fm.get_tr]; rfl
  | const v => exact FV.toV_ofO (evO P .nil (.const v))
  | global g => exact FV.toV_ofO (evO P .nil (.global g))
  | func g => exact FV.toV_ofO (evO P .nil (.func g))

theorem RA.congr {η : Env} {tm tm' : Tr V} {A : Array Value} (h : RA η tm A) (e : ∀ t, tm'.get t = tm.get t) : RA η tm' A := fun t v hv => h t v (by rw [← e]; exact hv)

theorem RA.setO {η : Env} {f : Fm} {A : Act} (h : RA η f.tr A.tmps) {d : Option Tmp} {v : FV} {cv : Value} (hd : ∀ t, d = some t → t < A.tmps.size) (hv : ∀ x, v.toV = some x → x.conc η = some cv) :
    RA η (f.setO d v).tr (A.put d cv).tmps := by
  cases d with
  | none => exact h
  | some t =>
    intro u x hx
    have ht := hd t rfl
    rw [Fm.get_tr] at hx
    simp only [Fm.setO, Fm.val_set] at hx
    by_cases e : u = t
    · subst e; rw [if_pos rfl] at hx; simp [Act.put, ht, hv x hx]
    · rw [if_neg e] at hx
      have := h u x (by rw [Fm.get_tr]; exact hx)
      simp only [Act.put, Array.getD_eq_getD_getElem?] at this ⊢
      rw [Array.getElem?_setIfInBounds_ne (Ne.symm e)]; exact this

theorem restrF_eq (f : Fm) : ∀ l, restrF f l = restrT f.tr l
  | [] => rfl
  | t :: l => by simp only [restrF, restrT, Fm.get_tr, restrF_eq f l]; cases f.val t <;> rfl

end Go.Proofs.YtphpkalbbmlgoaaGreatDoor.Ev

namespace Go.Proofs.YtphpkalbbmlgoaaGreatDoor.Ev
open Go

theorem evPure_int {P : Program} {dst : Option Tmp} {op : BinOp} {t yt : TypeId} {x y : Operand} {type : TypeId} {pos : String} {after : Array Edge} {guard : Option (Nat × Bool)} {tm : Tr V} {k k' : IntKind} {a b : Int} {cv : Value} {v : V}
    (hx : evO P tm x = some (.one (.int k a))) (hy : evO P tm y = some (.one (.int k' b))) (h2 : Go.binOp op t (.int k a) (.int k' b) = pure cv) (h1 : absV cv = some v) : evPure P ⟨dst, .binOp op t x y yt, type, pos, after, guard⟩ tm = some v := by
  have rx : rho0 P tm x = .int k a := by simp [rho0, hx, V.conc, comp, concs, At.conc]
  have ry : rho0 P tm y = .int k' b := by simp [rho0, hy, V.conc, comp, concs, At.conc]
  have fx : flatO P tm x = true := by simp [flatO, hx, V.conc, comp, concs, At.conc]
  have fy : flatO P tm y = true := by simp [flatO, hy, V.conc, comp, concs, At.conc]
  have hg : eqGuard op t x y (.int k a) (.int k' b) = pure () := by cases op <;> rfl
  have hl : flatL P tm (Op.operands (.binOp op t x y yt)).toList = true := by simp [Op.operands, flatL, fx, fy]
  have he : execOp (rho0 P tm) ⟨dst, .binOp op t x y yt, type, pos, after, guard⟩ = pure (.value cv) := by
    simp only [execOp, rx, ry, hg, h2]; rfl
  unfold evPure
  simp only [isSelect, hl, he]
  exact h1

theorem evR_int {P : Program} {dst : Option Tmp} {op : BinOp} {t yt : TypeId} {x y : Operand} {type : TypeId} {pos : String} {after : Array Edge} {guard : Option (Nat × Bool)} {tm : Tr V} {H : Tr AObj} {k k' : IntKind} {a b : Int} {cv : Value} {v : V}
    (hx : evO P tm x = some (.one (.int k a))) (hy : evO P tm y = some (.one (.int k' b))) (h2 : Go.binOp op t (.int k a) (.int k' b) = pure cv) (h1 : absV cv = some v) : evR P ⟨dst, .binOp op t x y yt, type, pos, after, guard⟩ tm H = some v := by
  have hp := evPure_int (dst := dst) (yt := yt) (type := type) (pos := pos) (after := after) (guard := guard) hx hy h2 h1
  cases op <;> simp only [evR] <;> first | exact hp | (unfold evBin; simp only [hx, hy, evEq_int]; exact hp)

theorem i64_wrap {n : Nat} (h : n ≤ 9223372036854775807) : IntKind.i64.wrap (Int.ofNat n) = Int.ofNat n := by
  rw [← wrapF_eq]
  have : Nat.blt n 9223372036854775808 = true := by simp [blt_iff]; omega
  simp [wrapF, this]

theorem u64_wrap (n : Nat) : IntKind.u64.wrap (Int.ofNat n) = Int.ofNat (n % 18446744073709551616) := by
  unfold IntKind.wrap
  simp [IntKind.signed, IntKind.bits]

theorem lt64 {n : Nat} (h : n < 18446744073709551616) : n % 18446744073709551616 = n := Nat.mod_eq_of_lt h

section
variable (t : TypeId) (a b : Nat)
theorem bin_add (k : IntKind) : Go.binOp .add t (.int k (.ofNat a)) (.int k (.ofNat b)) = pure (.int k (k.wrap (.ofNat (a + b)))) := by simp [Go.binOp, Op.intArith]

theorem bin_sub (k : IntKind) (h : b ≤ a) : Go.binOp .sub t (.int k (.ofNat a)) (.int k (.ofNat b)) = pure (.int k (k.wrap (.ofNat (a - b)))) := by
  have : (Int.ofNat a - Int.ofNat b) = Int.ofNat (a - b) := by simp; omega
  simp only [Go.binOp, Op.intArith, ne_eq, not_true, if_false, this]

theorem bin_mul (k : IntKind) : Go.binOp .mul t (.int k (.ofNat a)) (.int k (.ofNat b)) = pure (.int k (k.wrap (.ofNat (a * b)))) := by simp [Go.binOp, Op.intArith]

theorem bin_quo (k : IntKind) (h : b ≠ 0) : Go.binOp .quo t (.int k (.ofNat a)) (.int k (.ofNat b)) = pure (.int k (k.wrap (.ofNat (a / b)))) := by
  have hb : ¬ (Int.ofNat b = 0) := by simp; omega
  simp only [Go.binOp, Op.intDiv, ne_eq, not_true, if_false, hb]; rfl

theorem bin_rem (k : IntKind) (h : b ≠ 0) : Go.binOp .rem t (.int k (.ofNat a)) (.int k (.ofNat b)) = pure (.int k (.ofNat (a % b))) := by
  have hb : ¬ (Int.ofNat b = 0) := by simp; omega
  simp only [Go.binOp, Op.intDiv, ne_eq, not_true, if_false, hb]; rfl

theorem bin_lss (k : IntKind) : Go.binOp .lss t (.int k (.ofNat a)) (.int k (.ofNat b)) = pure (.bool (Nat.ble (a + 1) b)) := by
  have : decide ((Int.ofNat a) < (Int.ofNat b)) = Nat.ble (a + 1) b := by rw [Bool.eq_iff_iff]; simp [Nat.ble_eq]; omega
  simp only [Go.binOp, Op.intCmp, ne_eq, not_true, if_false, this]

theorem bin_leq (k : IntKind) : Go.binOp .leq t (.int k (.ofNat a)) (.int k (.ofNat b)) = pure (.bool (Nat.ble a b)) := by
  have : decide ((Int.ofNat a) ≤ (Int.ofNat b)) = Nat.ble a b := by rw [Bool.eq_iff_iff]; simp [Nat.ble_eq]
  simp only [Go.binOp, Op.intCmp, ne_eq, not_true, if_false, this]

theorem bin_gtr (k : IntKind) : Go.binOp .gtr t (.int k (.ofNat a)) (.int k (.ofNat b)) = pure (.bool (Nat.ble (b + 1) a)) := by
  have : decide ((Int.ofNat a) > (Int.ofNat b)) = Nat.ble (b + 1) a := by rw [Bool.eq_iff_iff]; simp [Nat.ble_eq]; omega
  simp only [Go.binOp, Op.intCmp, ne_eq, not_true, if_false, this]

theorem bin_geq (k : IntKind) : Go.binOp .geq t (.int k (.ofNat a)) (.int k (.ofNat b)) = pure (.bool (Nat.ble b a)) := by
  have : decide ((Int.ofNat a) ≥ (Int.ofNat b)) = Nat.ble b a := by rw [Bool.eq_iff_iff]; simp [Nat.ble_eq]
  simp only [Go.binOp, Op.intCmp, ne_eq, not_true, if_false, this]

theorem bin_eql (k : IntKind) : Go.binOp .eql t (.int k (.ofNat a)) (.int k (.ofNat b)) = pure (.bool (Nat.beq a b)) := by
  have : (Int.ofNat a == Int.ofNat b) = Nat.beq a b := by rw [Bool.eq_iff_iff]; simp [Nat.beq_eq]; omega
  simp only [Go.binOp, Op.intCmp, ne_eq, not_true, if_false, this]

theorem bin_neq (k : IntKind) : Go.binOp .neq t (.int k (.ofNat a)) (.int k (.ofNat b)) = pure (.bool (!Nat.beq a b)) := by
  have : (Int.ofNat a != Int.ofNat b) = !Nat.beq a b := by
    have h1 : (Int.ofNat a == Int.ofNat b) = Nat.beq a b := by rw [Bool.eq_iff_iff]; simp [Nat.beq_eq]; omega
    rw [bne, h1]
  simp only [Go.binOp, Op.intCmp, ne_eq, not_true, if_false, this]

theorem bin_shl (k k' : IntKind) (h : b ≤ 64) (hk : k.bits = 64) : Go.binOp .shl t (.int k (.ofNat a)) (.int k' (.ofNat b)) = pure (.int k (k.wrap (.ofNat (a * 2 ^ b)))) := by
  have h0 : ¬ (Int.ofNat b < 0) := by simp
  have h1 : min (Int.ofNat b).toNat k.bits = b := by rw [hk]; simp; omega
  have h2 : Int.ofNat a * 2 ^ b = Int.ofNat (a * 2 ^ b) := by simp
  simp only [Go.binOp, Op.shift, if_neg h0, h1, h2]

theorem bin_shr (k k' : IntKind) (h : b ≤ 64) (hk : k.bits = 64) : Go.binOp .shr t (.int k (.ofNat a)) (.int k' (.ofNat b)) = pure (.int k (.ofNat (a / 2 ^ b))) := by
  have h0 : ¬ (Int.ofNat b < 0) := by simp
  have h1 : min (Int.ofNat b).toNat k.bits = b := by rw [hk]; simp; omega
  have h2 : (Int.ofNat a).fdiv (2 ^ b) = Int.ofNat (a / 2 ^ b) := by
    have e : ((2 : Int) ^ b) = Int.ofNat (2 ^ b) := by simp
    rw [e]
    cases a with
    | zero => simp [Int.fdiv]
    | succ n => rfl
  simp only [Go.binOp, Op.shift, if_neg h0, h1, h2]

theorem bv_ofInt : (BitVec.ofInt 64 (Int.ofNat a)) = BitVec.ofNat 64 a := by simp

theorem bin_and : Go.binOp .and t (.int .u64 (.ofNat a)) (.int .u64 (.ofNat b)) = pure (.int .u64 (.ofNat (Nat.land (a % 18446744073709551616) (b % 18446744073709551616)))) := by
  have : (BitVec.ofInt 64 (Int.ofNat a) &&& BitVec.ofInt 64 (Int.ofNat b)).toNat = Nat.land (a % 18446744073709551616) (b % 18446744073709551616) := by
    rw [bv_ofInt, bv_ofInt, BitVec.toNat_and, BitVec.toNat_ofNat, BitVec.toNat_ofNat]; rfl
  have hlt : Nat.land (a % 18446744073709551616) (b % 18446744073709551616) < 18446744073709551616 := by
    rw [← this]; exact BitVec.isLt _
  simp only [Go.binOp, Op.intBits, ne_eq, not_true, if_false]
  show (pure (Value.int .u64 (IntKind.u64.wrap (Int.ofNat (BitVec.ofInt 64 (Int.ofNat a) &&& BitVec.ofInt 64 (Int.ofNat b)).toNat))) : Sem Value) = _
  rw [this, u64_wrap, lt64 hlt]

theorem bin_or : Go.binOp .or t (.int .u64 (.ofNat a)) (.int .u64 (.ofNat b)) = pure (.int .u64 (.ofNat (Nat.lor (a % 18446744073709551616) (b % 18446744073709551616)))) := by
  have : (BitVec.ofInt 64 (Int.ofNat a) ||| BitVec.ofInt 64 (Int.ofNat b)).toNat = Nat.lor (a % 18446744073709551616) (b % 18446744073709551616) := by
    rw [bv_ofInt, bv_ofInt, BitVec.toNat_or, BitVec.toNat_ofNat, BitVec.toNat_ofNat]; rfl
  have hlt : Nat.lor (a % 18446744073709551616) (b % 18446744073709551616) < 18446744073709551616 := by
    rw [← this]; exact BitVec.isLt _
  simp only [Go.binOp, Op.intBits, ne_eq, not_true, if_false]
  show (pure (Value.int .u64 (IntKind.u64.wrap (Int.ofNat (BitVec.ofInt 64 (Int.ofNat a) ||| BitVec.ofInt 64 (Int.ofNat b)).toNat))) : Sem Value) = _
  rw [this, u64_wrap, lt64 hlt]

theorem bin_xor : Go.binOp .xor t (.int .u64 (.ofNat a)) (.int .u64 (.ofNat b)) = pure (.int .u64 (.ofNat (Nat.xor (a % 18446744073709551616) (b % 18446744073709551616)))) := by
  have : (BitVec.ofInt 64 (Int.ofNat a) ^^^ BitVec.ofInt 64 (Int.ofNat b)).toNat = Nat.xor (a % 18446744073709551616) (b % 18446744073709551616) := by
    rw [bv_ofInt, bv_ofInt, BitVec.toNat_xor, BitVec.toNat_ofNat, BitVec.toNat_ofNat]; rfl
  have hlt : Nat.xor (a % 18446744073709551616) (b % 18446744073709551616) < 18446744073709551616 := by
    rw [← this]; exact BitVec.isLt _
  simp only [Go.binOp, Op.intBits, ne_eq, not_true, if_false]
  show (pure (Value.int .u64 (IntKind.u64.wrap (Int.ofNat (BitVec.ofInt 64 (Int.ofNat a) ^^^ BitVec.ofInt 64 (Int.ofNat b)).toNat))) : Sem Value) = _
  rw [this, u64_wrap, lt64 hlt]

end

theorem below63_ok {n : Nat} {v : V} (h : (below63 n).toV = some v) : n ≤ 9223372036854775807 ∧ v = .one (.int .i64 (.ofNat n)) := by
  unfold below63 at h
  cases hb : Nat.ble n 9223372036854775807 with
  | false => rw [hb] at h; cases h
  | true => rw [hb] at h; cases h; exact ⟨Nat.le_of_ble_eq_true hb, rfl⟩

theorem binI_ok (op : BinOp) (t : TypeId) (a b : Nat) {v : V} (h : ((binOf op).1 a b).toV = some v) : ∃ cv, Go.binOp op t (.int .i64 (.ofNat a)) (.int .i64 (.ofNat b)) = pure cv ∧ absV cv = some v := by
  cases op
  case add => obtain ⟨h1, rfl⟩ := below63_ok h; exact ⟨_, bin_add t a b .i64, by rw [i64_wrap (show a + b ≤ 9223372036854775807 from h1)]; rfl⟩
  case sub =>
    have h : (subN a b).toV = some v := h
    unfold subN at h
    cases hb : Nat.ble b a with
    | false => rw [hb] at h; cases h
    | true => rw [hb] at h; obtain ⟨h1, rfl⟩ := below63_ok h; exact ⟨_, bin_sub t a b .i64 (Nat.le_of_ble_eq_true hb), by rw [i64_wrap (show a - b ≤ 9223372036854775807 from h1)]; rfl⟩
  case mul => obtain ⟨h1, rfl⟩ := below63_ok h; exact ⟨_, bin_mul t a b .i64, by rw [i64_wrap (show a * b ≤ 9223372036854775807 from h1)]; rfl⟩
  case quo =>
    have h : (quoN a b).toV = some v := h
    unfold quoN at h
    cases hb : Nat.beq b 0 with
    | true => rw [hb] at h; cases h
    | false => rw [hb] at h; obtain ⟨h1, rfl⟩ := below63_ok h; exact ⟨_, bin_quo t a b .i64 (fun e => by subst e; cases hb), by rw [i64_wrap (show a / b ≤ 9223372036854775807 from h1)]; rfl⟩
  case rem =>
    have h : (remN a b).toV = some v := h
    unfold remN at h
    cases hb : Nat.beq b 0 with
    | true => rw [hb] at h; cases h
    | false => rw [hb] at h; cases h; exact ⟨_, bin_rem t a b .i64 (fun e => by subst e; cases hb), rfl⟩
  case lss => cases h; exact ⟨_, bin_lss t a b .i64, rfl⟩
  case leq => cases h; exact ⟨_, bin_leq t a b .i64, rfl⟩
  case gtr => cases h; exact ⟨_, bin_gtr t a b .i64, rfl⟩
  case geq => cases h; exact ⟨_, bin_geq t a b .i64, rfl⟩
  case eql => cases h; exact ⟨_, bin_eql t a b .i64, rfl⟩
  case neq =>
    have h : (neqN a b).toV = some v := h
    refine ⟨_, bin_neq t a b .i64, ?_⟩
    unfold neqN at h
    cases hb : Nat.beq a b <;> rw [hb] at h <;> cases h <;> rfl
  all_goals cases h

theorem binU_ok (op : BinOp) (t : TypeId) (a b : Nat) {v : V} (h : ((binOf op).2 a b).toV = some v) : ∃ cv, Go.binOp op t (.int .u64 (.ofNat a)) (.int .u64 (.ofNat b)) = pure cv ∧ absV cv = some v := by
  cases op
  case add => cases h; exact ⟨_, bin_add t a b .u64, by rw [u64_wrap]; rfl⟩
  case sub =>
    have h : (subU a b).toV = some v := h
    unfold subU at h
    cases hb : Nat.ble b a with
    | false => rw [hb] at h; cases h
    | true => rw [hb] at h; cases h; exact ⟨_, bin_sub t a b .u64 (Nat.le_of_ble_eq_true hb), by rw [u64_wrap]; rfl⟩
  case mul => cases h; exact ⟨_, bin_mul t a b .u64, by rw [u64_wrap]; rfl⟩
  case quo =>
    have h : (quoU a b).toV = some v := h
    unfold quoU at h
    cases hb : Nat.beq b 0 with
    | true => rw [hb] at h; cases h
    | false => rw [hb] at h; cases h; exact ⟨_, bin_quo t a b .u64 (fun e => by subst e; cases hb), by rw [u64_wrap]; rfl⟩
  case rem =>
    have h : (remU a b).toV = some v := h
    unfold remU at h
    cases hb : Nat.beq b 0 with
    | true => rw [hb] at h; cases h
    | false => rw [hb] at h; cases h; exact ⟨_, bin_rem t a b .u64 (fun e => by subst e; cases hb), rfl⟩
  case and => cases h; exact ⟨_, bin_and t a b, rfl⟩
  case or => cases h; exact ⟨_, bin_or t a b, rfl⟩
  case xor => cases h; exact ⟨_, bin_xor t a b, rfl⟩
  case shl =>
    have h : (shlU a b).toV = some v := h
    unfold shlU at h
    cases hb : Nat.ble b 64 with
    | false => rw [hb] at h; cases h
    | true => rw [hb] at h; cases h; exact ⟨_, bin_shl t a b .u64 .u64 (Nat.le_of_ble_eq_true hb) rfl, by rw [u64_wrap]; rfl⟩
  case shr =>
    have h : (shrU a b).toV = some v := h
    unfold shrU at h
    cases hb : Nat.ble b 64 with
    | false => rw [hb] at h; cases h
    | true => rw [hb] at h; cases h; exact ⟨_, bin_shr t a b .u64 .u64 (Nat.le_of_ble_eq_true hb) rfl, rfl⟩
  case lss => cases h; exact ⟨_, bin_lss t a b .u64, rfl⟩
  case leq => cases h; exact ⟨_, bin_leq t a b .u64, rfl⟩
  case gtr => cases h; exact ⟨_, bin_gtr t a b .u64, rfl⟩
  case geq => cases h; exact ⟨_, bin_geq t a b .u64, rfl⟩
  case eql => cases h; exact ⟨_, bin_eql t a b .u64, rfl⟩
  case neq =>
    have h : (neqN a b).toV = some v := h
    refine ⟨_, bin_neq t a b .u64, ?_⟩
    unfold neqN at h
    cases hb : Nat.beq a b <;> rw [hb] at h <;> cases h <;> rfl
  all_goals cases h

theorem binS_ok (op : BinOp) (t : TypeId) (a b : Nat) {v : V} (h : ((binOf op).3 a b).toV = some v) : ∃ cv, Go.binOp op t (.int .u64 (.ofNat a)) (.int .i64 (.ofNat b)) = pure cv ∧ absV cv = some v := by
  cases op
  case shl =>
    have h : (shlU a b).toV = some v := h
    unfold shlU at h
    cases hb : Nat.ble b 64 with
    | false => rw [hb] at h; cases h
    | true => rw [hb] at h; cases h; exact ⟨_, bin_shl t a b .u64 .i64 (Nat.le_of_ble_eq_true hb) rfl, by rw [u64_wrap]; rfl⟩
  case shr =>
    have h : (shrU a b).toV = some v := h
    unfold shrU at h
    cases hb : Nat.ble b 64 with
    | false => rw [hb] at h; cases h
    | true => rw [hb] at h; cases h; exact ⟨_, bin_shr t a b .u64 .i64 (Nat.le_of_ble_eq_true hb) rfl, rfl⟩
  all_goals cases h

theorem binF_ok {P : Program} {dst : Option Tmp} {op : BinOp} {t yt : TypeId} {x y : Operand} {type : TypeId} {pos : String} {after : Array Edge} {guard : Option (Nat × Bool)} {f : Fm} {tm : Tr V} {H : Tr AObj} {v : V} (hx : ((opd P x).get f).toV = evO P tm x) (hy : ((opd P y).get f).toV = evO P tm y)
    (h : (binF ((opd P x).get f) ((opd P y).get f) (binOf op)).toV = some v) : evR P ⟨dst, .binOp op t x y yt, type, pos, after, guard⟩ tm H = some v := by
  generalize (opd P x).get f = u at h hx
  generalize (opd P y).get f = w at h hy
  cases u <;> try (cases h; done)
  · rename_i a
    cases w <;> try (cases h; done)
    rename_i b
    obtain ⟨cv, h1, h2⟩ := binI_ok op t a b h
    exact evR_int hx.symm hy.symm h1 h2
  · rename_i a
    cases w <;> try (cases h; done)
    · rename_i b
      obtain ⟨cv, h1, h2⟩ := binS_ok op t a b h
      exact evR_int hx.symm hy.symm h1 h2
    · rename_i b
      obtain ⟨cv, h1, h2⟩ := binU_ok op t a b h
      exact evR_int hx.symm hy.symm h1 h2

end Go.Proofs.YtphpkalbbmlgoaaGreatDoor.Ev

namespace Go.Proofs.YtphpkalbbmlgoaaGreatDoor.Ev
open Go
set_option linter.unusedSimpArgs false

def OpOkQ (P : Program) (o : Oper) (tm : Tr V) (H : Tr AObj) (nx : Nat) (v : FV) (H' : Tr AObj) (nx' : Nat) : Prop :=
  Dm H.get H'.get nx nx' ∧ ∀ (η : Env) (h : Hp) (w : World) (A : Act) (ro : Option Nat) (n : Nat) (K : Act → World → Prop) (Q : Exit → Act → World → Prop), Pre η h w H.get nx nx' → RA η tm A.tmps → η.glob P →
    (∀ cv w' η', (∀ x, v.toV = some x → x.conc η' = some cv) → Stp η h w H.get H'.get nx nx' η' w' → K (A.put o.dst cv) w') → o.wpIn (fe ro) n P A w K Q

theorem OpOk.toQ {P : Program} {o : Oper} {tm : Tr V} {H : Tr AObj} {nx : Nat} {v : V} {H' : Tr AObj} {nx' : Nat} (h : OpOk P o tm H nx v H' nx') {fv : FV} (hv : fv.toV = some v) : OpOkQ P o tm H nx fv H' nx' :=
  ⟨h.1, fun η hp w A ro n K Q p ra hg hk => h.2 η hp w A ro n K Q p ra hg (fun cv w' η' hc hs => hk cv w' η' (fun x hx => by rw [hv] at hx; cases hx; exact hc) hs)⟩

def VsOf : List FV → Option (List V)
  | [] => some []
  | v :: l => match v.toV, VsOf l with
    | some x, some xs => some (x :: xs)
    | _, _ => none

structure QOk (P : Program) (Q : QF) (m : Nat) : Prop where
  f : FnsOk P Q.f m
  c : ∀ f args H nx v H' nx', Q.c f args H nx = .ok v H' nx' → ∀ xs, VsOf args = some xs → ∃ x, v.toV = some x ∧ CallOk P f xs H nx x H' nx'

def Done (P : Program) (o : Oper) (f : Fm) (H : Tr AObj) (nx : Nat) (k : KK) (r : RR) : Prop :=
  ∃ fv H1 nx1, OpOkQ P o f.tr H nx fv H1 nx1 ∧ r = k (f.setO o.dst fv) H1 nx1

def Step (P : Program) (o : Oper) (f : Fm) (H : Tr AObj) (nx : Nat) (k : KK) (S : Oper → RR) (r : RR) : Prop :=
  Done P o f H nx k r ∨ r = S o ∨ r = .no

theorem done_read {P : Program} {o : Oper} {f : Fm} {H : Tr AObj} {nx : Nat} {k : KK} {fv : FV} {v : V} (hv : fv.toV = some v) (h : evR P o f.tr H = some v) : Done P o f H nx k (k (f.setO o.dst fv) H nx) :=
  ⟨fv, H, nx, (opOk_small (by simp [evS, h])).toQ hv, rfl⟩

theorem toQ_step {P : Program} {o : Oper} {f : Fm} {H : Tr AObj} {nx : Nat} {k : KK} {S : Oper → RR} {fv : FV} {s : RR} (hs : s = S o ∨ s = .no) (h : ∀ v, fv.toV = some v → evR P o f.tr H = some v) :
    Step P o f H nx k S (toQ fv (dstOf o.dst) f H nx k s) := by
  unfold toQ
  rcases orK_cases fv (fun v => (dstOf o.dst).putK v f fun fr' => k fr' H nx) s with ⟨_, h2⟩ | ⟨x, h1, h2⟩
  · exact .inr (by rw [show FV.orK fv (fun v => Dst.rec (motive := fun _ => FV → Fm → (Fm → RR) → RR) noPt (fun g => g) morePt (dstOf o.dst) v f fun fr' => k fr' H nx) s = s from h2]; exact hs)
  · refine .inl ?_
    rw [show FV.orK fv (fun v => Dst.rec (motive := fun _ => FV → Fm → (Fm → RR) → RR) noPt (fun g => g) morePt (dstOf o.dst) v f fun fr' => k fr' H nx) s = _ from h2, putK_eq]
    exact done_read h1 (h x h1)

theorem mv_ok {P : Program} {o : Oper} {x : Operand} (ho : o.op = .move x ∨ o.op = .assign x) (f : Fm) (H : Tr AObj) (nx : Nat) (k : KK) : Done P o f H nx k ((dstOf o.dst).putK ((opd P x).get f) f fun fr' => k fr' H nx) := by
  rw [putK_eq]
  refine ⟨_, H, nx, ⟨Dm.refl _ _, fun η hp w A ro n K Q p ra hg hk => ?_⟩, rfl⟩
  have hx : ∀ y, ((opd P x).get f).toV = some y → y.conc η = some (A.eval x) := fun y hy => evO_ok ra hg (by rw [← opd_toV]; exact hy)
  have hK := hk (A.eval x) w η hx (Stp.refl p.ext p.rh)
  refine ⟨fun _ _ => trivial, ?_⟩
  obtain ⟨dst, op, type, pos, after, guard⟩ := o
  simp only at ho
  rw [Oper.semAt_eq _ _ _ (fun c e => by rcases ho with rfl | rfl <;> cases e)]
  rcases ho with rfl | rfl <;> exact hK

theorem loadF_ok {P : Program} {t : TypeId} {g : Bool} {n : Nat} (ht : tyAgg P t = some (g, n)) {H : Tr AObj} {b a : Nat} {v : V} (h : (loadF g n H b a).toV = some v) : evLoad P H t (.ptr b a) = some v := by
  unfold loadF at h
  cases ho : H.get b with
  | none => rw [ho] at h; cases h
  | some x =>
    rw [ho] at h
    have key : ∀ (m : Nat) (t' : Tr At), (cellG g t' a n m).toV = some v → (match g with | true => (match (bif Nat.ble (a + n) m then rd t' a n else none) with | some l => some (V.c true l) | none => none) | false => (match (bif Nat.ble (a + 1) m then rd t' a 1 else none) with | some l => some (V.c false l) | none => none)) = some v := by
      intro m t' hc
      cases g with
      | true =>
        have hc : (cellsN t' a n m).toV = some v := hc
        unfold cellsN at hc
        cases hb : Nat.ble (Nat.add a n) m with
        | false => rw [hb] at hc; cases hc
        | true =>
          rw [hb] at hc
          have hb' : Nat.ble (a + n) m = true := hb
          simp only [hb', cond_true]
          cases hr : rd t' a n with
          | none => rw [hr] at hc; cases hc
          | some l => rw [hr] at hc; exact hc
      | false =>
        have hc : (cell1 t' a m).toV = some v := hc
        unfold cell1 at hc
        cases hb : Nat.ble (Nat.succ a) m with
        | false => rw [hb] at hc; cases hc
        | true =>
          rw [hb] at hc
          have hb' : Nat.ble (a + 1) m = true := hb
          simp only [hb', cond_true, rd]
          cases hr : t'.get a with
          | none => rw [hr] at hc; cases hc
          | some y =>
            rw [hr] at hc
            have hc : (FV.ofAt y).toV = some v := hc
            rw [FV.toV_ofAt] at hc
            exact hc
    simp only [evLoad, ht, row, ho]
    cases x with
    | cells E m t' => have := key m t' h; cases g <;> exact this
    | lcells E m s t' => have := key m t' h; cases g <;> exact this
    | scells E m t' => have := key m t' h; cases g <;> exact this
    | map es c => cases h
    | loop => cases h
    | dfr => cases h
    | mit => cases h

theorem fa_ok {P : Program} {s : TypeId} {fd off : Nat} (hf : faOff P s fd = some off) (b a : Nat) : evFieldAddr P s (.ptr b a) fd = some (.one (.ptr b (a + off))) := by
  unfold faOff at hf
  unfold evFieldAddr
  simp only
  split at hf
  · rename_i fs hu
    rw [hu]
    simp only
    split at hf
    · rename_i fd' hfd
      rw [hfd]
      simp only
      split at hf
      · rename_i i hi
        rw [hi]
        simp only
        cases hz : Nat.beq i.size 0 with
        | true => rw [hz] at hf; cases hf
        | false => rw [hz] at hf; cases hf; rfl
      · cases hf
    · cases hf
  · cases hf

theorem elemP_ok {b o i l sz : Nat} {v : V} (h : (elemP b o i l sz).toV = some v) : Nat.blt i l = true ∧ v = .one (.ptr b (o + i * sz)) := by
  unfold elemP at h
  cases hb : Nat.ble (Nat.succ i) l with
  | false => rw [hb] at h; cases h
  | true => rw [hb] at h; cases h; exact ⟨hb, rfl⟩

theorem ia_ok {P : Program} {t : TypeId} {l : Option Nat} {sz : Nat} (hl : iaOf P t = some (l, sz)) {x y : Operand} {f : Fm} {tm : Tr V} {v : V} (hx : ((opd P x).get f).toV = evO P tm x) (hy : ((opd P y).get f).toV = evO P tm y) (h : (iaF ((opd P y).get f) l sz ((opd P x).get f)).toV = some v) :
    (match evO P tm x, evO P tm y with | some (.c false [a]), some (.c false [b]) => evIndexAddr P t a b | _, _ => none) = some v := by
  generalize (opd P x).get f = u at h hx
  generalize (opd P y).get f = w at h hy
  cases w <;> try (cases h; done)
  rename_i i
  simp only [FV.toV] at hy
  rw [← hy]
  unfold iaOf at hl
  split at hl
  · rename_i e hu
    split at hl
    · rename_i ie hie
      cases hl
      cases u <;> try (cases h; done)
      rename_i z
      simp only [FV.toV] at hx
      rw [← hx]
      cases z <;> try (cases h; done)
      · obtain ⟨h1, rfl⟩ := elemP_ok h
        simp only [evIndexAddr, hu, hie, h1, cond_true]
      · obtain ⟨h1, rfl⟩ := elemP_ok h
        simp only [evIndexAddr, hu, hie, h1, cond_true]
    · cases hl
  · rename_i n e hu
    split at hl
    · rename_i ie hie
      cases hl
      cases u <;> try (cases h; done)
      simp only [FV.toV] at hx
      rw [← hx]
      obtain ⟨h1, rfl⟩ := elemP_ok h
      simp only [evIndexAddr, hu, hie, h1, cond_true]
    · cases hl
  · cases hl

theorem done_pure {P : Program} {o : Oper} {f : Fm} {H : Tr AObj} {nx : Nat} {k : KK} {fv : FV} {v : V} (hv : fv.toV = some v) (hd : ∀ c, o.op ≠ .defer c)
    (h : ∀ (η : Env) (A : Act) (w : World), RA η f.tr A.tmps → η.glob P → ∃ cv, v.conc η = some cv ∧ (execOp A.eval o).run P w = .ok (.value cv) w) : Done P o f H nx k (k (f.setO o.dst fv) H nx) := by
  refine ⟨fv, H, nx, OpOk.toQ ⟨Dm.refl _ _, fun η hp w A ro n K Q p ra hg hk => ?_⟩ hv, rfl⟩
  obtain ⟨cv, h1, h2⟩ := h η A w ra hg
  have hK := hk cv w η h1 (Stp.refl p.ext p.rh)
  refine ⟨fun _ _ => trivial, ?_⟩
  rw [Oper.semAt_eq _ _ _ hd, h2]
  exact hK

theorem toQ_pure {P : Program} {o : Oper} {f : Fm} {H : Tr AObj} {nx : Nat} {k : KK} {S : Oper → RR} {fv : FV} {s : RR} (hs : s = S o ∨ s = .no) (hd : ∀ c, o.op ≠ .defer c)
    (h : ∀ v, fv.toV = some v → ∀ (η : Env) (A : Act) (w : World), RA η f.tr A.tmps → η.glob P → ∃ cv, v.conc η = some cv ∧ (execOp A.eval o).run P w = .ok (.value cv) w) :
    Step P o f H nx k S (toQ fv (dstOf o.dst) f H nx k s) := by
  unfold toQ
  rcases orK_cases fv (fun v => (dstOf o.dst).putK v f fun fr' => k fr' H nx) s with ⟨_, h2⟩ | ⟨x, h1, h2⟩
  · exact .inr (by rw [show FV.orK fv (fun v => Dst.rec (motive := fun _ => FV → Fm → (Fm → RR) → RR) noPt (fun g => g) morePt (dstOf o.dst) v f fun fr' => k fr' H nx) s = s from h2]; exact hs)
  · refine .inl ?_
    rw [show FV.orK fv (fun v => Dst.rec (motive := fun _ => FV → Fm → (Fm → RR) → RR) noPt (fun g => g) morePt (dstOf o.dst) v f fun fr' => k fr' H nx) s = _ from h2, putK_eq]
    exact done_pure h1 hd (h x h1)

theorem opd_at {P : Program} {f : Fm} {x : Operand} {η : Env} {A : Act} (ra : RA η f.tr A.tmps) (hg : η.glob P) {a : At} (h : ((opd P x).get f).toV = some (.one a)) : a.conc η = some (A.eval x) :=
  evO_one ra hg (by rw [← opd_toV]; exact h)

theorem len_ok {P : Program} {dst : Option Tmp} {c : Call} {type : TypeId} {pos : String} {after : Array Edge} {guard : Option (Nat × Bool)} {x : Operand} {t : TypeId} {ts : List TypeId} (hc : c.callee = .builtin .len) (ha : c.args.toList = [x]) (ht : c.argTypes.toList = t :: ts) (hs : isSliceT P t = true) {f : Fm} {v : V}
    (h : (lenF ((opd P x).get f)).toV = some v) (η : Env) (A : Act) (w : World) (ra : RA η f.tr A.tmps) (hg : η.glob P) : ∃ cv, v.conc η = some cv ∧ (execOp A.eval ⟨dst, .call c, type, pos, after, guard⟩).run P w = .ok (.value cv) w := by
  obtain ⟨callee, args, argTypes⟩ := c
  simp only at hc ha ht
  subst hc
  unfold isSliceT at hs
  split at hs
  · rename_i e hu
    have hts : argTypes[0]? = some t := by rw [← Array.getElem?_toList, ht]; rfl
    have hargs : args.map A.eval = #[A.eval x] := by apply Array.ext'; simp [ha]
    have hx := fun a => opd_at (P := P) (x := x) (a := a) ra hg
    generalize (opd P x).get f = u at h hx
    cases u <;> try (cases h; done)
    rename_i z
    have hz := hx z rfl
    rw [run_builtin]
    cases z <;> try (cases h; done)
    · obtain ⟨B, _, hB⟩ := conc_sl hz
      cases h; exact ⟨_, one_conc.2 rfl, by simp [builtin, hargs, Builtin.len_, hts, run_und hu, goInt, hB]⟩
    · obtain ⟨B, _, hB⟩ := conc_slx hz
      cases h; exact ⟨_, one_conc.2 rfl, by simp [builtin, hargs, Builtin.len_, hts, run_und hu, goInt, hB]⟩
    · simp only [At.conc] at hz
      cases h; exact ⟨_, one_conc.2 rfl, by simp [builtin, hargs, Builtin.len_, hts, run_und hu, goInt, ← Option.some.inj hz]⟩
    · obtain ⟨B, c, _, hB⟩ := conc_emp hz
      cases h; exact ⟨_, one_conc.2 rfl, by simp [builtin, hargs, Builtin.len_, hts, run_und hu, goInt, hB]⟩
  · cases hs

theorem nt_ok {P : Program} {dst : Option Tmp} {t : TypeId} {x : Operand} {type : TypeId} {pos : String} {after : Array Edge} {guard : Option (Nat × Bool)} {f : Fm} {v : V}
    (h : (ntF ((opd P x).get f)).toV = some v) (η : Env) (A : Act) (w : World) (ra : RA η f.tr A.tmps) (hg : η.glob P) : ∃ cv, v.conc η = some cv ∧ (execOp A.eval ⟨dst, .unOp .not t x, type, pos, after, guard⟩).run P w = .ok (.value cv) w := by
  have hx := fun a => opd_at (P := P) (x := x) (a := a) ra hg
  generalize (opd P x).get f = u at h hx
  cases u <;> try (cases h; done)
  rename_i z
  have hz := hx _ rfl
  simp only [At.conc] at hz
  have hz := (Option.some.inj hz).symm
  refine ⟨.bool !z, ?_, ?_⟩
  · cases z <;> cases h <;> rfl
  · simp [execOp, Op.unary, hz]

theorem cvN_ok {k : IntKind} {n : Nat} {v : V} (h : (cvN k n).toV = some v) : v = .one (.int k (k.wrap (.ofNat n))) := by
  cases k <;> try (cases h; done)
  · obtain ⟨h1, rfl⟩ := below63_ok h; rw [i64_wrap h1]
  · cases h; simp [IntKind.wrap, IntKind.signed, IntKind.bits]; rfl
  · cases h; simp [IntKind.wrap, IntKind.signed, IntKind.bits]; rfl
  · cases h; rw [u64_wrap]; rfl

theorem cv_ok {P : Program} {dst : Option Tmp} {s t : TypeId} {k : IntKind} (hk : cvOf P s t = some k) {x : Operand} {type : TypeId} {pos : String} {after : Array Edge} {guard : Option (Nat × Bool)} {f : Fm} {v : V}
    (h : (cvF ((opd P x).get f) k).toV = some v) (η : Env) (A : Act) (w : World) (ra : RA η f.tr A.tmps) (hg : η.glob P) : ∃ cv, v.conc η = some cv ∧ (execOp A.eval ⟨dst, .convert s t x, type, pos, after, guard⟩).run P w = .ok (.value cv) w := by
  have hx := fun a => opd_at (P := P) (x := x) (a := a) ra hg
  have hrun : ∀ k' n, A.eval x = .int k' n → (execOp A.eval ⟨dst, .convert s t x, type, pos, after, guard⟩).run P w = .ok (.value (.int k (k.wrap n))) w := by
    intro k' n he
    unfold cvOf at hk
    split at hk
    · rename_i d k2 h1 h2
      cases hk
      cases d <;> simp [execOp, he, Go.convert, run_und h1, run_und h2, Conv.intToInt]
    · cases hk
  generalize (opd P x).get f = u at h hx
  cases u <;> try (cases h; done)
  · rename_i n
    obtain rfl := cvN_ok h
    have hz := hx _ rfl
    exact ⟨_, one_conc.2 rfl, hrun _ _ (Option.some.inj hz).symm⟩
  · rename_i n
    obtain rfl := cvN_ok h
    have hz := hx _ rfl
    exact ⟨_, one_conc.2 rfl, hrun _ _ (Option.some.inj hz).symm⟩
  · rename_i z
    cases z <;> try (cases h; done)
    rename_i k' n
    cases n with
    | negSucc m => cases h
    | ofNat m =>
      obtain rfl := cvN_ok h
      have hz := hx _ rfl
      exact ⟨_, one_conc.2 rfl, hrun _ _ (Option.some.inj hz).symm⟩

theorem eq_ok {P : Program} {dst : Option Tmp} {op : BinOp} {neg : Bool} (hop : (op = .eql ∧ neg = false) ∨ (op = .neq ∧ neg = true)) {t yt : TypeId} {x y : Operand} {type : TypeId} {pos : String} {after : Array Edge} {guard : Option (Nat × Bool)} {f : Fm} {H : Tr AObj} {v : V}
    (h : (eqF (eqT P t) neg ((opd P x).get f) ((opd P y).get f)).toV = some v) : evR P ⟨dst, .binOp op t x y yt, type, pos, after, guard⟩ f.tr H = some v := by
  have hx := opd_toV P f x
  have hy := opd_toV P f y
  have key : ∀ a b r, evO P f.tr x = some (.one a) → evO P f.tr y = some (.one b) → evEq P H t a b = some r → evR P ⟨dst, .binOp op t x y yt, type, pos, after, guard⟩ f.tr H = some (.one (.bool (Bool.xor neg r))) := by
    intro a b r h1 h2 h3
    rcases hop with ⟨rfl, rfl⟩ | ⟨rfl, rfl⟩ <;> simp only [evR, evBin, h1, h2, h3]
  generalize (opd P x).get f = u at h hx
  generalize (opd P y).get f = w at h hy
  unfold eqF at h
  unfold eqT at h
  have atOf : ∀ (z : FV), nlF z ≠ .no → ∃ a, z.toV = some (.one a) ∧ nlA a = nlF z := by
    intro z hz
    cases z <;> first | exact absurd rfl hz | exact ⟨_, rfl, rfl⟩
  have nls : ∀ a, (nlA a = .ptr → ∃ b o, a = .ptr b o) ∧ (nlA a = .nilp → a = .nilp) ∧ (nlA a = .nils → a = .nils) ∧ (nlA a = .sl → (∃ b o n c, a = .sl b o n c) ∨ (∃ b o n c, a = .slx b o n c) ∨ ∃ i, a = .emp i) := by
    intro a
    cases a <;> refine ⟨fun e => ?_, fun e => ?_, fun e => ?_, fun e => ?_⟩ <;> first | (cases e; done) | rfl | exact ⟨_, _, rfl⟩ | exact .inl ⟨_, _, _, _, rfl⟩ | exact .inr (.inl ⟨_, _, _, _, rfl⟩) | exact .inr (.inr ⟨_, rfl⟩)
  cases hu : P.underlying t with
  | none => rw [hu] at h; cases h
  | some d =>
    rw [hu] at h
    cases d <;> try (cases h; done)
    case pointer e =>
      simp only at h
      cases h1 : nlF u <;> cases h2 : nlF w <;> rw [h1, h2] at h <;> try (cases h; done)
      · obtain ⟨a, ha, hn⟩ := atOf u (by rw [h1]; simp)
        obtain ⟨b, hb, hm⟩ := atOf w (by rw [h2]; simp)
        cases h
        obtain rfl := (nls a).2.1 (hn.trans h1)
        obtain ⟨b', o', rfl⟩ := (nls b).1 (hm.trans h2)
        exact key _ _ false (hx.symm.trans ha) (hy.symm.trans hb) (by simp [evEq, hu])
      · obtain ⟨a, ha, hn⟩ := atOf u (by rw [h1]; simp)
        obtain ⟨b, hb, hm⟩ := atOf w (by rw [h2]; simp)
        cases h
        obtain ⟨b', o', rfl⟩ := (nls a).1 (hn.trans h1)
        obtain rfl := (nls b).2.1 (hm.trans h2)
        exact key _ _ false (hx.symm.trans ha) (hy.symm.trans hb) (by simp [evEq, hu])
    case slice e =>
      simp only at h
      cases h1 : nlF u <;> cases h2 : nlF w <;> rw [h1, h2] at h <;> try (cases h; done)
      · obtain ⟨a, ha, hn⟩ := atOf u (by rw [h1]; simp)
        obtain ⟨b, hb, hm⟩ := atOf w (by rw [h2]; simp)
        cases h
        obtain rfl := (nls a).2.2.1 (hn.trans h1)
        rcases (nls b).2.2.2 (hm.trans h2) with ⟨_, _, _, _, rfl⟩ | ⟨_, _, _, _, rfl⟩ | ⟨_, rfl⟩ <;> exact key _ _ false (hx.symm.trans ha) (hy.symm.trans hb) (by simp [evEq, hu])
      · obtain ⟨a, ha, hn⟩ := atOf u (by rw [h1]; simp)
        obtain ⟨b, hb, hm⟩ := atOf w (by rw [h2]; simp)
        cases h
        obtain rfl := (nls b).2.2.1 (hm.trans h2)
        rcases (nls a).2.2.2 (hn.trans h1) with ⟨_, _, _, _, rfl⟩ | ⟨_, _, _, _, rfl⟩ | ⟨_, rfl⟩ <;> exact key _ _ false (hx.symm.trans ha) (hy.symm.trans hb) (by simp [evEq, hu])

end Go.Proofs.YtphpkalbbmlgoaaGreatDoor.Ev

namespace Go.Proofs.YtphpkalbbmlgoaaGreatDoor.Ev
open Go
set_option linter.unusedSimpArgs false

theorem pk_ok {P : Program} {dst : Option Tmp} {c a b : Operand} {type : TypeId} {pos : String} {after : Array Edge} {guard : Option (Nat × Bool)} {f : Fm} {tm : Tr V} {H : Tr AObj} {v : V} (hc : ((opd P c).get f).toV = evO P tm c) (ha : ((opd P a).get f).toV = evO P tm a) (hb : ((opd P b).get f).toV = evO P tm b)
    (h : (pkF ((opd P c).get f) ((opd P a).get f) ((opd P b).get f)).toV = some v) : evR P ⟨dst, .pick c a b, type, pos, after, guard⟩ tm H = some v := by
  generalize (opd P c).get f = u at h hc
  cases u <;> try (cases h; done)
  rename_i t
  simp only [FV.toV] at hc
  simp only [evR, ← hc]
  cases t
  · exact hb.symm.trans h
  · exact ha.symm.trans h

theorem ex_ok {P : Program} {dst : Option Tmp} {x : Operand} {i : Nat} {type : TypeId} {pos : String} {after : Array Edge} {guard : Option (Nat × Bool)} {f : Fm} {tm : Tr V} {H : Tr AObj} {v : V} (hx : ((opd P x).get f).toV = evO P tm x)
    (h : (exF ((opd P x).get f) i).toV = some v) : evR P ⟨dst, .extract x i, type, pos, after, guard⟩ tm H = some v := by
  generalize (opd P x).get f = u at h hx
  cases u <;> try (cases h; done)
  rename_i z
  simp only [FV.toV] at hx
  simp only [evR, ← hx]
  have h : (FV.ofO (evExtract z i)).toV = some v := h
  rw [FV.toV_ofO] at h
  exact h

theorem cells_ok {u : FV} {l : List At} (h : u.cells = some l) : ∃ g, u.toV = some (.c g l) := by
  cases u <;> try (cases h; exact ⟨_, rfl⟩)
  · cases h
  · rename_i x
    cases x with
    | c g m => cases h; exact ⟨g, rfl⟩
    | tup m => cases h

theorem storeF_ok {P : Program} {t : TypeId} {ti : TypeInfo} (ht : P.info? t = some ti) {H H' : Tr AObj} {b i nx : Nat} {u : FV} (h : storeF ti.size H b i u = some H') : ∃ x, u.toV = some x ∧ evStore P H nx t (.ptr b i) x = some (V.undef, H', nx) := by
  unfold storeF at h
  split at h
  · rename_i l hl
    obtain ⟨g, hg⟩ := cells_ok hl
    split at h
    · rename_i o ho
      split at h
      · rename_i o' h1 h2
        cases h
        exact ⟨_, hg, by simp only [evStore, ht, ho, h1, h2]⟩
      · cases h
    · cases h
  · cases h

theorem done_write {P : Program} {o : Oper} {f : Fm} {H : Tr AObj} {nx : Nat} {k : KK} {fv : FV} {v : V} {H' : Tr AObj} {nx' : Nat} (hv : fv.toV = some v) (h : evS P o f.tr H nx = some (v, H', nx')) : Done P o f H nx k (k (f.setO o.dst fv) H' nx') :=
  ⟨fv, H', nx', (opOk_small h).toQ hv, rfl⟩

theorem opOk_call {P : Program} (hN : NoNum P) {dst : Option Tmp} {c : Call} {type : TypeId} {pos : String} {after : Array Edge} {guard : Option (Nat × Bool)} {tm : Tr V} {H : Tr AObj} {nx : Nat} {v : V} {H' : Tr AObj} {nx' : Nat} {f : FuncId} {args : List V}
    (hw : whom P c tm = some (.fn f args)) (hc : CallOk P f args H nx v H' nx') : OpOk P ⟨dst, .call c, type, pos, after, guard⟩ tm H nx v H' nx' := by
  obtain ⟨hfn, d, hc⟩ := hc
  refine ⟨d, fun η h w A ro n K Q p ra hg hk => ⟨fun _ _ => trivial, ?_⟩⟩
  have hwho := whom_ok hN hw ra hg (dst := dst) (type := type) (pos := pos) (after := after) (guard := guard) w
  obtain ⟨cargs, hvl, hrun⟩ := hwho hfn
  rw [Oper.semAt_eq _ _ _ (fun c e => by cases e), hrun]
  refine ⟨fun hd => by simp [fe] at hd, calls_fe ((hc η h w cargs p hvl hg).mono ?_)⟩
  rintro e w' ⟨cv, η', rfl, hv, hs⟩
  exact hk cv w' η' hv hs

theorem getsK_ok {P : Program} {f : Fm} : ∀ (l : List Operand) (k : List FV → RR), getsK (opds P l) f k = .no ∨ ∃ vs xs, VsOf vs = some xs ∧ evOs P f.tr l = some xs ∧ getsK (opds P l) f k = k vs := by
  intro l
  induction l with
  | nil => intro k; exact .inr ⟨[], [], rfl, rfl, rfl⟩
  | cons x l ih =>
    intro k
    have hx := opd_toV P f x
    show FV.orK ((opd P x).get f) (fun v => getsK (opds P l) f fun vs => k (v :: vs)) .no = .no ∨ ∃ vs xs, VsOf vs = some xs ∧ evOs P f.tr (x :: l) = some xs ∧ FV.orK ((opd P x).get f) (fun v => getsK (opds P l) f fun vs => k (v :: vs)) .no = k vs
    rcases orK_cases ((opd P x).get f) (fun v => getsK (opds P l) f fun vs => k (v :: vs)) .no with ⟨_, h2⟩ | ⟨y, h1, h2⟩
    · exact .inl h2
    · rw [h2]
      rcases ih (fun vs => k ((opd P x).get f :: vs)) with h3 | ⟨vs, xs, h3, h4, h5⟩
      · exact .inl h3
      · refine .inr ⟨(opd P x).get f :: vs, y :: xs, by simp [VsOf, h1, h3], ?_, h5⟩
        rw [h1] at hx
        simp only [evOs, ← hx, h4]

theorem run1_step {P : Program} (hN : NoNum P) {Q : QF} {m : Nat} (hQ : QOk P Q m) (o : Oper) (f : Fm) (H : Tr AObj) (nx : Nat) (k : KK) (S : Oper → RR) : Step P o f H nx k S (run1 (cl P o) Q P f H nx k S) := by
  obtain ⟨dst, op, type, pos, after, guard⟩ := o
  have gen : Step P ⟨dst, op, type, pos, after, guard⟩ f H nx k S (run1 (.gen ⟨dst, op, type, pos, after, guard⟩) Q P f H nx k S) := .inr (.inl rfl)
  cases op with
  | move x => exact .inl (mv_ok (.inl rfl) f H nx k)
  | assign x => exact .inl (mv_ok (.inr rfl) f H nx k)
  | binOp op t x y yt =>
    have hb : Step P ⟨dst, .binOp op t x y yt, type, pos, after, guard⟩ f H nx k S (run1 (.bin (dstOf dst) (binOf op) (opd P x) (opd P y) ⟨dst, .binOp op t x y yt, type, pos, after, guard⟩) Q P f H nx k S) :=
      toQ_step (o := ⟨dst, .binOp op t x y yt, type, pos, after, guard⟩) (.inl rfl) (fun v hv => binF_ok (opd_toV P f x) (opd_toV P f y) hv)
    cases op <;> try exact hb
    · have he : Step P ⟨dst, .binOp .eql t x y yt, type, pos, after, guard⟩ f H nx k S (run1 (.eq (dstOf dst) false (eqT P t) (opd P x) (opd P y) ⟨dst, .binOp .eql t x y yt, type, pos, after, guard⟩) Q P f H nx k S) :=
        toQ_step (o := ⟨dst, .binOp .eql t x y yt, type, pos, after, guard⟩) (.inl rfl) (fun v hv => eq_ok (.inl ⟨rfl, rfl⟩) hv)
      simp only [cl]
      cases h : eqT P t <;> rw [h] at he <;> first | exact he | exact hb
    · have he : Step P ⟨dst, .binOp .neq t x y yt, type, pos, after, guard⟩ f H nx k S (run1 (.eq (dstOf dst) true (eqT P t) (opd P x) (opd P y) ⟨dst, .binOp .neq t x y yt, type, pos, after, guard⟩) Q P f H nx k S) :=
        toQ_step (o := ⟨dst, .binOp .neq t x y yt, type, pos, after, guard⟩) (.inl rfl) (fun v hv => eq_ok (.inr ⟨rfl, rfl⟩) hv)
      simp only [cl]
      cases h : eqT P t <;> rw [h] at he <;> first | exact he | exact hb
  | load t a =>
    simp only [cl]
    cases ht : tyAgg P t with
    | none => exact gen
    | some p =>
      obtain ⟨g, n⟩ := p
      show Step P _ f H nx k S (FV.ptrK ((opd P a).get f) (fun b i => toQ (loadF g n H b i) (dstOf dst) f H nx k .no) .no)
      rcases ptrK_cases ((opd P a).get f) (fun b i => toQ (loadF g n H b i) (dstOf dst) f H nx k .no) .no with ⟨b, i, hp, he⟩ | he
      · rw [he]
        refine toQ_step (o := ⟨dst, .load t a, type, pos, after, guard⟩) (.inr rfl) (fun v hv => ?_)
        have ha := opd_toV P f a
        rw [hp] at ha
        simp only [FV.toV] at ha
        simp only [evR, ← ha]
        exact loadF_ok ht hv
      · rw [he]; exact .inr (.inr rfl)
  | store t a x =>
    simp only [cl]
    cases ht : P.info? t with
    | none => exact gen
    | some ti =>
      show Step P _ f H nx k S (FV.ptrK ((opd P a).get f) (fun b i => optK (storeF ti.size H b i ((opd P x).get f)) (fun H' => forceH H' fun H' => (dstOf dst).putK (.v V.undef) f fun fr' => k fr' H' nx) .no) .no)
      rcases ptrK_cases ((opd P a).get f) (fun b i => optK (storeF ti.size H b i ((opd P x).get f)) (fun H' => forceH H' fun H' => (dstOf dst).putK (.v V.undef) f fun fr' => k fr' H' nx) .no) .no with ⟨b, i, hp, he⟩ | he
      · rw [he]
        cases hs : storeF ti.size H b i ((opd P x).get f) with
        | none => exact .inr (.inr rfl)
        | some H' =>
          show Step P _ f H nx k S (forceH H' fun H' => (dstOf dst).putK (.v V.undef) f fun fr' => k fr' H' nx)
          rw [forceH_eq, putK_eq]
          refine .inl (done_write (o := ⟨dst, .store t a x, type, pos, after, guard⟩) (v := V.undef) rfl ?_)
          have ha := opd_toV P f a
          rw [hp] at ha
          simp only [FV.toV] at ha
          obtain ⟨y, h1, h2⟩ := storeF_ok (nx := nx) ht hs
          have hx := opd_toV P f x
          rw [h1] at hx
          simp only [evS, evR, evW, ← ha, ← hx, h2]
      · rw [he]; exact .inr (.inr rfl)
  | box t x =>
    show Step P _ f H nx k S (optK ((opd P x).get f).cells (fun l => newQ (mk t l) (dstOf dst) f H nx k) .no)
    cases hc : ((opd P x).get f).cells with
    | none => exact .inr (.inr rfl)
    | some l =>
      show Step P _ f H nx k S (forceH (H.put (some (mk t l)) nx) fun H' => (dstOf dst).putK (.p nx 0) f fun fr' => k fr' H' (Nat.succ nx))
      rw [forceH_eq, putK_eq]
      obtain ⟨g, hg⟩ := cells_ok hc
      have hx := opd_toV P f x
      rw [hg] at hx
      exact .inl (done_write (o := ⟨dst, .box t x, type, pos, after, guard⟩) rfl (by simp only [evS, evR, evW, ← hx, evBox]))
  | alloc t =>
    simp only [cl]
    cases hz : zeroA P t with
    | none => exact gen
    | some p =>
      obtain ⟨g, z⟩ := p
      show Step P _ f H nx k S (forceH (H.put (some (mk t z)) nx) fun H' => (dstOf dst).putK (.p nx 0) f fun fr' => k fr' H' (Nat.succ nx))
      rw [forceH_eq, putK_eq]
      exact .inl (done_write (o := ⟨dst, .alloc t, type, pos, after, guard⟩) rfl (by simp only [evS, evR, evW, evAlloc, hz]))
  | fieldAddr s x fd =>
    simp only [cl]
    cases hf : faOff P s fd with
    | none => exact gen
    | some off =>
      show Step P _ f H nx k S (FV.ptrK ((opd P x).get f) (fun b a => forceN (Nat.add a off) fun a => (dstOf dst).putK (.p b a) f fun fr' => k fr' H nx) .no)
      rcases ptrK_cases ((opd P x).get f) (fun b a => forceN (Nat.add a off) fun a => (dstOf dst).putK (.p b a) f fun fr' => k fr' H nx) .no with ⟨b, a, hp, he⟩ | he
      · rw [he, forceN_eq, putK_eq]
        refine .inl (done_read (o := ⟨dst, .fieldAddr s x fd, type, pos, after, guard⟩) rfl ?_)
        have hx := opd_toV P f x
        rw [hp] at hx
        simp only [FV.toV] at hx
        simp only [evR, ← hx]
        exact fa_ok hf b a
      · rw [he]; exact .inr (.inr rfl)
  | indexAddr t x i =>
    simp only [cl]
    cases hl : iaOf P t with
    | none => exact gen
    | some p =>
      obtain ⟨l, sz⟩ := p
      refine toQ_step (o := ⟨dst, .indexAddr t x i, type, pos, after, guard⟩) (.inl rfl) (fun v hv => ?_)
      simp only [evR]
      exact ia_ok hl (opd_toV P f x) (opd_toV P f i) hv
  | pick c a b => exact toQ_step (o := ⟨dst, .pick c a b, type, pos, after, guard⟩) (.inr rfl) (fun v hv => pk_ok (opd_toV P f c) (opd_toV P f a) (opd_toV P f b) hv)
  | nilCheck x =>
    show Step P _ f H nx k S (FV.ptrK ((opd P x).get f) (fun b a => (dstOf dst).putK (.p b a) f fun fr' => k fr' H nx) (S ⟨dst, .nilCheck x, type, pos, after, guard⟩))
    rcases ptrK_cases ((opd P x).get f) (fun b a => (dstOf dst).putK (.p b a) f fun fr' => k fr' H nx) (S ⟨dst, .nilCheck x, type, pos, after, guard⟩) with ⟨b, a, hp, he⟩ | he
    · rw [he, putK_eq]
      refine .inl (done_read (o := ⟨dst, .nilCheck x, type, pos, after, guard⟩) rfl ?_)
      have hx := opd_toV P f x
      rw [hp] at hx
      simp only [FV.toV] at hx
      simp only [evR, ← hx]
    · rw [he]; exact .inr (.inl rfl)
  | extract x i => exact toQ_step (o := ⟨dst, .extract x i, type, pos, after, guard⟩) (.inr rfl) (fun v hv => ex_ok (opd_toV P f x) hv)
  | unOp op t x =>
    cases op <;> try exact gen
    exact toQ_pure (o := ⟨dst, .unOp .not t x, type, pos, after, guard⟩) (.inl rfl) (fun c e => by cases e) (fun v hv => nt_ok hv)
  | convert s t x =>
    simp only [cl]
    cases hk : cvOf P s t with
    | none => exact gen
    | some kd => exact toQ_pure (o := ⟨dst, .convert s t x, type, pos, after, guard⟩) (.inl rfl) (fun c e => by cases e) (fun v hv => cv_ok hk hv)
  | call c =>
    obtain ⟨callee, args, argTypes⟩ := c
    cases callee with
    | invoke r mth => exact gen
    | builtin b =>
      cases b <;> try exact gen
      simp only [cl]
      split
      · rename_i x t ts ha ht
        cases hs : isSliceT P t with
        | false => exact gen
        | true => exact toQ_pure (o := ⟨dst, .call ⟨.builtin .len, args, argTypes⟩, type, pos, after, guard⟩) (.inl rfl) (fun c e => by cases e) (fun v hv => len_ok rfl ha ht hs hv)
      · exact gen
    | value g =>
      cases g <;> try exact gen
      rename_i fn
      show Step P _ f H nx k S (getsK (opds P args.toList) f fun vs => crK (Q.c fn vs H nx) (dstOf dst) f k)
      rcases getsK_ok args.toList (fun vs => crK (Q.c fn vs H nx) (dstOf dst) f k) with he | ⟨vs, xs, h1, h2, he⟩
      · rw [he]; exact .inr (.inr rfl)
      · rw [he]
        cases hc : Q.c fn vs H nx with
        | no => exact .inr (.inr rfl)
        | ok v H' nx' =>
          show Step P _ f H nx k S (forceH H' fun H => forceN nx' fun nx => FV.orK v (fun v => (dstOf dst).putK v f fun fr' => k fr' H nx) .no)
          obtain ⟨x, hx, hok⟩ := hQ.c _ _ _ _ _ _ _ hc xs h1
          rw [forceH_eq, forceN_eq, orK_some hx, putK_eq]
          have hw : whom P ⟨.value (.func fn), args, argTypes⟩ f.tr = some (.fn fn xs) := by
            simp [whom, evO, h2, absVs, capsV]
          exact .inl ⟨v, H', nx', (opOk_call hN hw hok).toQ hx, rfl⟩
  | _ => exact gen

end Go.Proofs.YtphpkalbbmlgoaaGreatDoor.Ev

namespace Go.Proofs.YtphpkalbbmlgoaaGreatDoor.Ev
open Go
set_option linter.unusedSimpArgs false

def Wants (ops : Array Oper) (o : Oper) (f : Fm) (b : Bool) : Prop := ∀ (η : Env) (A : Array Value), RA η f.tr A → Region.wanted o (yielded ops A) = b

theorem wants_of {ops : Array Oper} {o : Oper} {f : Fm} {b : Bool} (h : evGuard ops o f.tr = some b) : Wants ops o f b := fun _ _ ra => evGuard_ok h ra

theorem RA.restr {η : Env} {tm : Tr V} {A : Array Value} (h : RA η tm A) (l : List Tmp) : RA η (restrT tm l) A := fun t v hv => by
  rw [get_restrT] at hv
  by_cases e : t ∈ l
  · rw [if_pos e] at hv; exact h t v hv
  · rw [if_neg e] at hv; cases hv

def GStep (P : Program) (ops : Array Oper) (o : Oper) (f : Fm) (H : Tr AObj) (nx : Nat) (k : KK) (r : RR) : Prop :=
  (Wants ops o f true ∧ Done P o f H nx k r) ∨ (Wants ops o f false ∧ r = k (f.setO o.dst (.v V.undef)) H nx) ∨ r = .no

theorem OpOk.weaken {P : Program} {o : Oper} {tm tm' : Tr V} {H : Tr AObj} {nx : Nat} {v : V} {H' : Tr AObj} {nx' : Nat} (h : OpOk P o tm H nx v H' nx') (hra : ∀ η A, RA η tm' A → RA η tm A) : OpOk P o tm' H nx v H' nx' :=
  ⟨h.1, fun η hp w A ro n K Q p ra hg hk => h.2 η hp w A ro n K Q p (hra _ _ ra) hg hk⟩

theorem backK_some {o : Oper} {f : Fm} {k : KK} {v : V} {H : Tr AObj} {nx : Nat} : backK (dstOf o.dst) f k (some (v, H, nx)) = k (f.setO o.dst (FV.ofV v)) H nx := by
  show (forceH H fun H' => forceN nx fun nx' => FV.orK (FV.ofV v) (fun x => (dstOf o.dst).putK x f fun fr' => k fr' H' nx') .no) = _
  rw [forceH_eq, forceN_eq, orK_some (FV.toV_ofV v), putK_eq]

theorem slow_step {P : Program} (hN : NoNum P) {Q : QF} {m : Nat} (hQ : QOk P Q m) (ops : Array Oper) (o : Oper) (f : Fm) (H : Tr AObj) (nx : Nat) (k : KK) : GStep P ops o f H nx k (slowK Q P ops f H nx k o) := by
  unfold slowK
  rw [restrF_eq]
  cases hg : gen1v Q.f P ops o (restrT f.tr (o.looksAt ops)) H nx with
  | none => exact .inr (.inr rfl)
  | some r =>
    obtain ⟨v, H', nx'⟩ := r
    rw [backK_some]
    unfold gen1v at hg
    split at hg
    · rename_i hgd
      refine .inl ⟨fun η A ra => evGuard_ok hgd (ra.restr _), FV.ofV v, H', nx', ?_, rfl⟩
      have hok : OpOk P o (restrT f.tr (o.looksAt ops)) H nx v H' nx' := by
        cases hc : isCall o.op with
        | true => rw [hc] at hg; exact opOk_big hN hQ.f.ops hg
        | false => rw [hc] at hg; exact opOk_small hg
      exact (hok.weaken (fun η A ra => ra.restr _)).toQ (FV.toV_ofV v)
    · rename_i hgd
      cases hg
      exact .inr (.inl ⟨fun η A ra => evGuard_ok hgd (ra.restr _), rfl⟩)
    · cases hg

theorem gd_step {P : Program} (hN : NoNum P) {Q : QF} {m : Nat} (hQ : QOk P Q m) (ops : Array Oper) (o : Oper) (f : Fm) (H : Tr AObj) (nx : Nat) (k : KK) : GStep P ops o f H nx k (run1 (gd P ops o) Q P f H nx k (slowK Q P ops f H nx k)) := by
  have gen := slow_step hN hQ ops o f H nx k
  have step := run1_step hN hQ o f H nx k (slowK Q P ops f H nx k)
  unfold gd
  split
  · rename_i hg
    rcases step with h | h | h
    · exact .inl ⟨wants_of (by simp [evGuard, hg]), h⟩
    · rw [h]; exact gen
    · exact .inr (.inr h)
  · rename_i j want hg
    split
    · rename_i oj hj
      split
      · rename_i d hd
        show GStep P ops o f H nx k (gdK ((opdT d).get f) want (run1 (cl P o) Q P f H nx k (slowK Q P ops f H nx k)) (skipQ (dstOf o.dst) f H nx k))
        have hu : ((opdT d).get f).toV = f.tr.get d := (Fm.get_tr f d).symm
        have hskip : skipQ (dstOf o.dst) f H nx k = k (f.setO o.dst (.v V.undef)) H nx := putK_eq o.dst (.v V.undef) f (fun fr' => k fr' H nx)
        generalize (opdT d).get f = u at hu
        have hgd : ∀ r, (match f.tr.get d with | some (.c false [.bool b]) => some (b == want) | some (.tup _) => some false | _ => none) = some r → evGuard ops o f.tr = some r := by
          intro r hr
          simp only [evGuard, hg, hj, hd]; exact hr
        cases u <;> try exact .inr (.inr rfl)
        · rename_i x
          simp only [FV.toV] at hu
          rw [← hu] at hgd
          cases x <;> cases want
          · rcases step with h | h | h
            · exact .inl ⟨wants_of (hgd true rfl), h⟩
            · show GStep P ops o f H nx k (run1 (cl P o) Q P f H nx k (slowK Q P ops f H nx k)); rw [h]; exact gen
            · exact .inr (.inr h)
          · exact .inr (.inl ⟨wants_of (hgd false rfl), hskip⟩)
          · exact .inr (.inl ⟨wants_of (hgd false rfl), hskip⟩)
          · rcases step with h | h | h
            · exact .inl ⟨wants_of (hgd true rfl), h⟩
            · show GStep P ops o f H nx k (run1 (cl P o) Q P f H nx k (slowK Q P ops f H nx k)); rw [h]; exact gen
            · exact .inr (.inr h)
        · rename_i x
          simp only [FV.toV] at hu
          rw [← hu] at hgd
          cases x with
          | c g l => exact .inr (.inr rfl)
          | tup l => exact .inr (.inl ⟨wants_of (hgd false rfl), hskip⟩)
      · exact gen
    · exact gen

theorem put_size (A : Act) (d : Option Tmp) (cv : Value) : (A.put d cv).tmps.size = A.tmps.size ∧ (A.put d cv).defers = A.defers := by
  cases d <;> simp [Act.put]

theorem qOps_ok {P : Program} (hN : NoNum P) {Q : QF} {m : Nat} (hQ : QOk P Q m) {ops : Array Oper} {b : Nat} : ∀ (l : List Oper) (f : Fm) (H : Tr AObj) (nx : Nat) (f' : Fm) (H' : Tr AObj) (nx' : Nat), qOps (gds P ops l) Q P ops f H nx = .ok f' H' nx' → dstsLt b l = true →
    Dm H.get H'.get nx nx' ∧ ∀ (η : Env) (h : Hp) (w : World) (A : Act) (ro : Option Nat) (n : Nat) (R : Exit → Act → World → Prop), Pre η h w H.get nx nx' → RA η f.tr A.tmps → b ≤ A.tmps.size → η.glob P →
      (∀ η' w' A', Stp η h w H.get H'.get nx nx' η' w' → RA η' f'.tr A'.tmps → A'.tmps.size = A.tmps.size → A'.defers = A.defers → R .normal A' w') → wpListIn (fe ro) n P ops R l A w := by
  intro l
  induction l with
  | nil =>
    intro f H nx f' H' nx' he _
    have he : RR.ok f H nx = .ok f' H' nx' := he
    cases he
    exact ⟨Dm.refl _ _, fun η h w A ro n R p ra hb hg hR => hR η w A (Stp.refl p.ext p.rh) ra rfl rfl⟩
  | cons o l ih =>
    intro f H nx f' H' nx' he hlt
    have he : run1 (gd P ops o) Q P f H nx (qOps (gds P ops l) Q P ops) (slowK Q P ops f H nx (qOps (gds P ops l) Q P ops)) = .ok f' H' nx' := he
    have hdst : dstLt b o.dst = true := by
      simp only [dstsLt] at hlt
      split at hlt
      · assumption
      · cases hlt
    have hlt' : dstsLt b l = true := by
      simp only [dstsLt] at hlt
      split at hlt
      · exact hlt
      · cases hlt
    have hdt : ∀ t, o.dst = some t → t < b := fun t ht => by rw [ht] at hdst; exact blt_lt hdst
    have step := gd_step hN hQ ops o f H nx (qOps (gds P ops l) Q P ops)
    rw [he] at step
    rcases step with ⟨hw, fv, H1, nx1, hok, hr⟩ | ⟨hw, hr⟩ | hr
    · obtain ⟨d1, h1⟩ := hok
      obtain ⟨d2, h2⟩ := ih _ _ _ _ _ _ hr.symm hlt'
      refine ⟨d1.trans d2, fun η h w A ro n R p ra hb hg hR => ?_⟩
      unfold wpListIn
      rw [hw η A.tmps ra, if_pos rfl]
      refine h1 η h w A ro n _ R (p.less d2.le) ra hg (fun cv w' η' hv hs => ?_)
      obtain ⟨hs1, hs2⟩ := put_size A o.dst cv
      have ra1 := (ra.mono hs.le).setO (d := o.dst) (fun t ht => Nat.lt_of_lt_of_le (hdt t ht) hb) hv
      refine h2 η' _ w' _ ro n R (p.next d1 hs) ra1 (by rw [hs1]; exact hb) (glob_mono hg hs.le) (fun η2 w2 A2 t2 ra2 hn2 hd2 => ?_)
      exact hR η2 w2 A2 (Stp.trans d1 d2 hs t2) ra2 (hn2.trans hs1) (hd2.trans hs2)
    · obtain ⟨d2, h2⟩ := ih _ _ _ _ _ _ hr.symm hlt'
      refine ⟨d2, fun η h w A ro n R p ra hb hg hR => ?_⟩
      unfold wpListIn
      rw [hw η A.tmps ra, if_neg (by simp)]
      refine ⟨fun _ _ => trivial, ?_⟩
      obtain ⟨hs1, hs2⟩ := put_size A o.dst Go.undef
      have ra1 := ra.setO (d := o.dst) (v := .v V.undef) (cv := Go.undef) (fun t ht => Nat.lt_of_lt_of_le (hdt t ht) hb) (fun x hx => by cases hx; rfl)
      exact h2 η h w _ ro n R p ra1 (by rw [hs1]; exact hb) hg (fun η2 w2 A2 t2 ra2 hn2 hd2 => hR η2 w2 A2 t2 ra2 (hn2.trans hs1) (hd2.trans hs2))
    · cases hr

end Go.Proofs.YtphpkalbbmlgoaaGreatDoor.Ev
