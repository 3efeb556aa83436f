/- Numbers as the specification of layer 6 reads them. -/
import Derived.Test.YtedpaajpfaoffaaGreatDoorSa0
set_option linter.all false
set_option maxHeartbeats 4000000
set_option maxRecDepth 100000
namespace Go.Proofs.YtedpaajpfaoffaaGreatDoor
open Go.RowKit
def Ug6Post (res : Except Int (Nat × Nat)) (w : World) (r : Ending) (w' : World) : Prop := (match res with
 | .ok x => r = .returned (.tuple #[.int .u64 (x.1 : Int), .int .i64 (x.2 : Int), .int .i64 0])
 | .error k => r = .returned (.tuple #[.int .u64 0, .int .i64 0, .int .i64 k])) ∧ w = w'
theorem Ug6Post.err {res : Except Int (Nat × Nat)} {k : Int} {w : World} (h : res = .error k) : Ug6Post res w (.returned (.tuple #[.int .u64 0, .int .i64 0, .int .i64 k])) w := by subst h; exact ⟨rfl, rfl⟩
theorem Ug6Post.ok {res : Except Int (Nat × Nat)} {m a' : Nat} {w : World} (h : res = .ok (m, a')) : Ug6Post res w (.returned (.tuple #[.int .u64 (m : Int), .int .i64 (a' : Int), .int .i64 0])) w := by subst h; exact ⟨rfl, rfl⟩
def Ug6Rel (l : List UInt8) (m : Nat) (res : Except Int (Nat × Nat)) (tn ti : Value) : Prop := ∃ i n : Nat, i < m ∧ i ≤ l.length ∧ tn = .int .u64 n ∧ ti = .int .i64 i ∧ n < 2 ^ (7 * i) ∧ res = pGroup l (m - i) i n i
theorem ungroup9_any (v : Value) (l : List UInt8) (w : World) (hv : Bytes w v l) (hl : l.length ≤ 100000) : Calls Tryz.prog 147 #[v, .int .i64 9, .int .u64 9223372036854775807] w (Ug6Post (pGroup l 9 0 0 0) w) := by
 have hst : Ug6Rel l 9 (pGroup l 9 0 0 0) (.int .u64 0) (.int .i64 0) := ⟨0, 0, by omega, by omega, rfl, rfl, by simp, rfl⟩
 have HER := Lib.hid (fun (k : Int) (h : pGroup l 9 0 0 0 = .error k) => Ug6Post.err (w := w) h)
 have HOK := Lib.hid (fun (m a' : Nat) (h : pGroup l 9 0 0 0 = .ok (m, a')) => Ug6Post.ok (w := w) h)
 generalize hP : Ug6Post (pGroup l 9 0 0 0) w = Post at *
 generalize pGroup l 9 0 0 0 = res at *
 clear hP
 obtain ⟨A, cap, hvf, hq1, hq2, -⟩ := id hv
 unfold maxLen at hq2
 have hcell : ∀ j (hj : j < l.length), ∃ b off, A = some ⟨b, off, none⟩ ∧ w.cell? ⟨b, off + j, none⟩ = some (.int .u8 (l[j].toNat : Int)) := fun j hj => by
  obtain ⟨A', cap', e, _, _, _, h4⟩ := id hv
  rw [hvf] at e
  injection e with e1 _ _
  subst e1
  obtain ⟨b, off, rfl, _, hc⟩ := h4 (by omega)
  exact ⟨b, off, rfl, hc j _ (by simp [B, hj])⟩
 have HCL := Lib.hid hcell
 clear hcell hv
 subst hvf
 go_enter Tryz.func147, Tryz.ntmps147
 go_wp2_with fail
 go_loop [9, 10] (fun tn ti => Ug6Rel l 9 res tn ti) (fun _ ti => 9 - (intOf ti).toNat)
 case atStart => exact hst
 case round =>
  clear hst
  obtain ⟨i, n, hi, hil, rfl, rfl, hn, hres⟩ := hrel
  have HN := Lib.hid hn
  have HR := Lib.hid hres
  clear hn hres
  by_cases hal : i < l.length
  case neg =>
   have hal' : ((i : Int) == (l.length : Int)) = true := by simp; omega
   go_wp2_with fail
   go_ret3
   exact HER.out 4 (by rw [HR.out, pg_short hi hal])
  have hal' : ((i : Int) == (l.length : Int)) = false := by simp; omega
  have hal2 : (i : Int) < (l.length : Int) := by omega
  obtain ⟨b, off, rfl, hc⟩ := HCL.out i hal
  have HSH := Lib.hid (pg_zero (l := l) (n := n) (a := i) hi hal)
  have HLA := Lib.hid (pg_last (l := l) (n := n) (a := i) hi hal)
  have HMO := Lib.hid (pg_more (l := l) (n := n) (a := i) hi hal)
  have HBI := Lib.hid (pg_big (l := l) (n := n) (a := i) hi hal)
  have hbyte : l[i].toNat < 256 := UInt8.toNat_lt _
  generalize l[i].toNat = x at *
  by_cases hlast : i = 8
  ·subst hlast
   by_cases hx0 : x = 0
   ·have bx : ((x : Int) == 0) = true := by simp [hx0]
    go_wp2_with fail
    go_ret3
    exact HER.out 6 (by rw [HR.out, HSH.out (by omega) hx0])
   have bx : ((x : Int) == 0) = false := by simpa using hx0
   by_cases hxt : 127 < x
   ·have hxt' : (127 : Int) < (x : Int) := by omega
    have HE6 : Hid (res = .error 6) := Lib.hid (by
     rw [HR.out]
     by_cases h9 : 8 = 9 ∧ 1 < x % 128
     ·exact HBI.out h9.1 h9.2
     ·rw [HMO.out h9 (by omega)]; rfl)
    go_wp2_with fail
    go_ret3
    exact HER.out 6 HE6.out
   ·have hxt' : ¬ (127 : Int) < (x : Int) := by omega
    have HE1 : Hid (bits .or .u64 (n : Int) ((x : Int) * 72057594037927936) = ((n + x % 128 * 2 ^ (7 * 8) : Nat) : Int)) := Lib.hid (by
     have hm : x % 128 = x := by omega
     rw [hm]
     have := orshift 8 n x (by omega) HN.out (by omega)
     rw [← this, IntKind.wrap_u64]
     congr 1
     omega)
    have HF1 : Hid (Post (.returned (.tuple #[.int .u64 (bits .or .u64 (n : Int) ((x : Int) * 72057594037927936)), .int .i64 ((9 : Nat) : Int), .int .i64 0])) w) := Lib.hid (by
     rw [HE1.out]
     exact HOK.out _ _ (by rw [HR.out, HLA.out (by omega) (by omega) (by omega)]))
    go_wp2_with fail
    go_ret3
    exact HF1.out
  have hlast' : ((i : Int) == 8) = false := by simp; omega
  have HO : Hid (bits .or .u64 (n : Int) (IntKind.u64.wrap ((x : Int) % 128 * 2 ^ (7 * i))) = ((n + x % 128 * 2 ^ (7 * i) : Nat) : Int)) := Lib.hid (by
   have := orshift i n (x % 128) (by omega) HN.out (by omega)
   rwa [show ((x % 128 : Nat) : Int) = (x : Int) % 128 by omega] at this)
  have HLT : Hid (n + x % 128 * 2 ^ (7 * i) < 2 ^ (7 * (i + 1))) := Lib.hid (by
   have h1 := HN.out
   rw [two_pow7]
   have h2 : x % 128 * 2 ^ (7 * i) ≤ 127 * 2 ^ (7 * i) := Nat.mul_le_mul_right _ (by omega)
   omega)
  have HFI : Hid (x < 128 → ¬ (x = 0 ∧ 0 < i) → Post (.returned (.tuple #[.int .u64 (bits .or .u64 (n : Int) (IntKind.u64.wrap ((x : Int) % 128 * 2 ^ (7 * i)))), .int .i64 ((i : Int) + 1), .int .i64 0])) w) := Lib.hid (fun h1 h2 => by
   rw [HO.out]
   exact HOK.out _ _ (by rw [HR.out, HLA.out (by omega) h2 h1]))
  by_cases hx : x < 128
  ·have hx' : (x : Int) < 128 := by omega
   by_cases hi0 : 0 < i
   ·by_cases hx0 : x = 0
    ·have bx : ((x : Int) == 0) = true := by simp [hx0]
     go_wp2_with fail
     go_ret3
     exact HER.out 6 (by rw [HR.out, HSH.out hi0 hx0])
    ·have bx : ((x : Int) == 0) = false := by simpa using hx0
     go_wp2_with fail
     go_ret3
     exact HFI.out hx (by omega)
   ·have hi0' : decide (0 < i) = false := by simpa using hi0
    go_wp2_with fail
    go_ret3
    exact HFI.out hx (by omega)
  ·have hx' : ¬ (x : Int) < 128 := by omega
   go_wp2_with fail
   go_round
   case rel =>
    rw [HO.out]
    exact ⟨i + 1, n + x % 128 * 2 ^ (7 * i), by omega, by omega, rfl, by go_num, HLT.out, by rw [HR.out, HMO.out (by omega) (by omega)]⟩
   case measure => simp [intOf]; omega
theorem ungroup10_any (v : Value) (l : List UInt8) (w : World) (hv : Bytes w v l) (hl : l.length ≤ 100000) : Calls Tryz.prog 147 #[v, .int .i64 10, .int .u64 18446744073709551615] w (Ug6Post (pGroup l 10 0 0 0) w) := by
 have hst : Ug6Rel l 10 (pGroup l 10 0 0 0) (.int .u64 0) (.int .i64 0) := ⟨0, 0, by omega, by omega, rfl, rfl, by simp, rfl⟩
 have HER := Lib.hid (fun (k : Int) (h : pGroup l 10 0 0 0 = .error k) => Ug6Post.err (w := w) h)
 have HOK := Lib.hid (fun (m a' : Nat) (h : pGroup l 10 0 0 0 = .ok (m, a')) => Ug6Post.ok (w := w) h)
 generalize hP : Ug6Post (pGroup l 10 0 0 0) w = Post at *
 generalize pGroup l 10 0 0 0 = res at *
 clear hP
 obtain ⟨A, cap, hvf, hq1, hq2, -⟩ := id hv
 unfold maxLen at hq2
 have hcell : ∀ j (hj : j < l.length), ∃ b off, A = some ⟨b, off, none⟩ ∧ w.cell? ⟨b, off + j, none⟩ = some (.int .u8 (l[j].toNat : Int)) := fun j hj => by
  obtain ⟨A', cap', e, _, _, _, h4⟩ := id hv
  rw [hvf] at e
  injection e with e1 _ _
  subst e1
  obtain ⟨b, off, rfl, _, hc⟩ := h4 (by omega)
  exact ⟨b, off, rfl, hc j _ (by simp [B, hj])⟩
 have HCL := Lib.hid hcell
 clear hcell hv
 subst hvf
 go_enter Tryz.func147, Tryz.ntmps147
 go_wp2_with fail
 go_loop [9, 10] (fun tn ti => Ug6Rel l 10 res tn ti) (fun _ ti => 10 - (intOf ti).toNat)
 case atStart => exact hst
 case round =>
  clear hst
  obtain ⟨i, n, hi, hil, rfl, rfl, hn, hres⟩ := hrel
  have HN := Lib.hid hn
  have HR := Lib.hid hres
  clear hn hres
  by_cases hal : i < l.length
  case neg =>
   have hal' : ((i : Int) == (l.length : Int)) = true := by simp; omega
   go_wp2_with fail
   go_ret3
   exact HER.out 4 (by rw [HR.out, pg_short hi hal])
  have hal' : ((i : Int) == (l.length : Int)) = false := by simp; omega
  have hal2 : (i : Int) < (l.length : Int) := by omega
  obtain ⟨b, off, rfl, hc⟩ := HCL.out i hal
  have HSH := Lib.hid (pg_zero (l := l) (n := n) (a := i) hi hal)
  have HLA := Lib.hid (pg_last (l := l) (n := n) (a := i) hi hal)
  have HMO := Lib.hid (pg_more (l := l) (n := n) (a := i) hi hal)
  have HBI := Lib.hid (pg_big (l := l) (n := n) (a := i) hi hal)
  have hbyte : l[i].toNat < 256 := UInt8.toNat_lt _
  generalize l[i].toNat = x at *
  by_cases hlast : i = 9
  ·subst hlast
   by_cases hx0 : x = 0
   ·have bx : ((x : Int) == 0) = true := by simp [hx0]
    go_wp2_with fail
    go_ret3
    exact HER.out 6 (by rw [HR.out, HSH.out (by omega) hx0])
   have bx : ((x : Int) == 0) = false := by simpa using hx0
   by_cases hxt : 1 < x
   ·have hxt' : (1 : Int) < (x : Int) := by omega
    have HE6 : Hid (res = .error 6) := Lib.hid (by
     rw [HR.out]
     by_cases h9 : 9 = 9 ∧ 1 < x % 128
     ·exact HBI.out h9.1 h9.2
     ·rw [HMO.out h9 (by omega)]; rfl)
    go_wp2_with fail
    go_ret3
    exact HER.out 6 HE6.out
   ·have hxt' : ¬ (1 : Int) < (x : Int) := by omega
    have HE1 : Hid (bits .or .u64 (n : Int) ((x : Int) * 9223372036854775808) = ((n + x % 128 * 2 ^ (7 * 9) : Nat) : Int)) := Lib.hid (by
     have hm : x % 128 = x := by omega
     rw [hm]
     exact orshift9 n x HN.out (by omega))
    have HF1 : Hid (Post (.returned (.tuple #[.int .u64 (bits .or .u64 (n : Int) ((x : Int) * 9223372036854775808)), .int .i64 ((10 : Nat) : Int), .int .i64 0])) w) := Lib.hid (by
     rw [HE1.out]
     exact HOK.out _ _ (by rw [HR.out, HLA.out (by omega) (by omega) (by omega)]))
    go_wp2_with fail
    go_ret3
    exact HF1.out
  have hlast' : ((i : Int) == 9) = false := by simp; omega
  have HO : Hid (bits .or .u64 (n : Int) (IntKind.u64.wrap ((x : Int) % 128 * 2 ^ (7 * i))) = ((n + x % 128 * 2 ^ (7 * i) : Nat) : Int)) := Lib.hid (by
   have := orshift i n (x % 128) (by omega) HN.out (by omega)
   rwa [show ((x % 128 : Nat) : Int) = (x : Int) % 128 by omega] at this)
  have HLT : Hid (n + x % 128 * 2 ^ (7 * i) < 2 ^ (7 * (i + 1))) := Lib.hid (by
   have h1 := HN.out
   rw [two_pow7]
   have h2 : x % 128 * 2 ^ (7 * i) ≤ 127 * 2 ^ (7 * i) := Nat.mul_le_mul_right _ (by omega)
   omega)
  have HFI : Hid (x < 128 → ¬ (x = 0 ∧ 0 < i) → Post (.returned (.tuple #[.int .u64 (bits .or .u64 (n : Int) (IntKind.u64.wrap ((x : Int) % 128 * 2 ^ (7 * i)))), .int .i64 ((i : Int) + 1), .int .i64 0])) w) := Lib.hid (fun h1 h2 => by
   rw [HO.out]
   exact HOK.out _ _ (by rw [HR.out, HLA.out (by omega) h2 h1]))
  by_cases hx : x < 128
  ·have hx' : (x : Int) < 128 := by omega
   by_cases hi0 : 0 < i
   ·by_cases hx0 : x = 0
    ·have bx : ((x : Int) == 0) = true := by simp [hx0]
     go_wp2_with fail
     go_ret3
     exact HER.out 6 (by rw [HR.out, HSH.out hi0 hx0])
    ·have bx : ((x : Int) == 0) = false := by simpa using hx0
     go_wp2_with fail
     go_ret3
     exact HFI.out hx (by omega)
   ·have hi0' : decide (0 < i) = false := by simpa using hi0
    go_wp2_with fail
    go_ret3
    exact HFI.out hx (by omega)
  ·have hx' : ¬ (x : Int) < 128 := by omega
   go_wp2_with fail
   go_round
   case rel =>
    rw [HO.out]
    exact ⟨i + 1, n + x % 128 * 2 ^ (7 * i), by omega, by omega, rfl, by go_num, HLT.out, by rw [HR.out, HMO.out (by omega) (by omega)]⟩
   case measure => simp [intOf]; omega
end Go.Proofs.YtedpaajpfaoffaaGreatDoor
namespace Go.Proofs.YtedpaajpfaoffaaGreatDoor
open Go.RowKit
def R6Post {α : Type} (f : α → Value) (z : Value) (res : Except Int (α × Nat)) (w : World) (r : Ending) (w' : World) : Prop := (match res with
 | .ok x => r = .returned (.tuple #[f x.1, .int .i64 (x.2 : Int), .int .i64 0])
 | .error k => r = .returned (.tuple #[z, .int .i64 0, .int .i64 k])) ∧ w = w'
def iv (n : Int) : Value := .int .i64 n
theorem uint6_any (v : Value) (l : List UInt8) (w : World) (hv : Bytes w v l) (hl : l.length ≤ 100000) : Calls Tryz.prog 102 #[v] w (R6Post iv (iv 0) (pUint l 0) w) := by
 have HU := Lib.hid (ungroup9_any v l w hv hl)
 obtain ⟨A, cap, hvf, -⟩ := id hv
 clear hv
 subst hvf
 unfold pUint
 cases hg : pGroup l 9 0 0 0 with
 | error k =>
  rw [hg] at HU
  unfold Ug6Post at HU
  simp only at HU
  clear hg
  go_enter Tryz.func102, Tryz.ntmps102
  go_wp2_with fail
  refine HU.out.mono ?_
  rintro r w' ⟨rfl, rfl⟩
  go_wp2_with fail
  go_ret3
  exact ⟨rfl, rfl⟩
 | ok x =>
  have hb := pGroup9 hg
  rw [hg] at HU
  unfold Ug6Post at HU
  simp only at HU
  clear hg
  have hb1 : (x.1 : Int) < 9223372036854775808 := by omega
  have hw : wrap64 (x.1 : Int) = (x.1 : Int) := by unfold wrap64; omega
  obtain ⟨m, a⟩ := x
  simp only at HU hb1 hw ⊢
  have HW := Lib.hid hw
  clear hb hb1 hw
  go_enter Tryz.func102, Tryz.ntmps102
  go_wp2_with fail
  refine HU.out.mono ?_
  rintro r w' ⟨rfl, rfl⟩
  go_wp2_with fail
  go_ret3
  rw [HW.out]
  exact ⟨rfl, rfl⟩
theorem unfold6_any (u : Nat) (w : World) (hu : u < 18446744073709551616) : Calls Tryz.prog 185 #[.int .u64 u] w fun r w' => r = .returned (iv (unfold' u)) ∧ w = w' := by
 unfold iv unfold'
 by_cases h : u % 2 = 1
 ·rw [if_pos h]
  have h1 : ((u : Int) % 2 == 0) = false := by simp; omega
  have hw : wrap64 ((u : Int) / 2) = (u : Int) / 2 := by unfold wrap64; omega
  have hf : - ((u : Int) / 2) - 1 = -((u / 2 : Nat) : Int) - 1 := by omega
  go_enter Tryz.func185, Tryz.ntmps185
  go_wp2_with fail
  go_ret
  exact ⟨rfl, rfl⟩
 ·rw [if_neg h]
  have h1 : ((u : Int) % 2 == 0) = true := by simp; omega
  have hw : wrap64 ((u : Int) / 2) = (u : Int) / 2 := by unfold wrap64; omega
  go_enter Tryz.func185, Tryz.ntmps185
  go_wp2_with fail
  go_ret
  rw [show ((u / 2 : Nat) : Int) = (u : Int) / 2 by omega]
  exact ⟨rfl, rfl⟩
theorem int6_any (v : Value) (l : List UInt8) (w : World) (hv : Bytes w v l) (hl : l.length ≤ 100000) : Calls Tryz.prog 149 #[v] w (R6Post iv (iv 0) (pInt l 0) w) := by
 have HU := Lib.hid (ungroup10_any v l w hv hl)
 obtain ⟨A, cap, hvf, -⟩ := id hv
 clear hv
 subst hvf
 unfold pInt
 cases hg : pGroup l 10 0 0 0 with
 | error k =>
  have hk := pGroup_err l _ _ _ _ _ hg
  have bk : (k == 0) = false := by simpa using hk
  have bk2 : (k != 0) = true := by simpa using hk
  rw [hg] at HU
  unfold Ug6Post at HU
  simp only at HU
  clear hg hk
  go_enter Tryz.func149, Tryz.ntmps149
  go_wp2_with fail
  refine HU.out.mono ?_
  rintro r w' ⟨rfl, rfl⟩
  go_wp2_with fail
  go_ret3
  exact ⟨rfl, rfl⟩
 | ok x =>
  have hb := pGroup10 hg
  rw [hg] at HU
  unfold Ug6Post at HU
  simp only at HU
  clear hg
  obtain ⟨m, a⟩ := x
  have HUF := Lib.hid (fun (W : World) => unfold6_any m W hb.1)
  simp only at HU ⊢
  clear hb
  show Calls _ _ _ _ (R6Post iv (iv 0) (.ok (unfold' m, a)) w)
  generalize unfold' m = u at *
  go_enter Tryz.func149, Tryz.ntmps149
  go_wp2_with fail
  refine HU.out.mono ?_
  rintro r w' ⟨rfl, rfl⟩
  go_wp2_with fail
  refine (HUF.out _).mono ?_
  rintro r w' ⟨rfl, rfl⟩
  go_wp2_with fail
  go_ret3
  exact ⟨rfl, rfl⟩
theorem count6_any (v : Value) (l : List UInt8) (limit : Int) (w : World) (hv : Bytes w v l) (hl : l.length ≤ 100000) : Calls Tryz.prog 148 #[v, .int .i64 limit] w (R6Post iv (iv 0) (pCount l limit 0) w) := by
 have HU := Lib.hid (uint6_any v l w hv hl)
 obtain ⟨A, cap, hvf, -⟩ := id hv
 clear hv
 subst hvf
 unfold pCount
 unfold pUint at HU
 cases hg : pGroup l 9 0 0 0 with
 | error k =>
  have hk := pGroup_err l _ _ _ _ _ hg
  have bk : (k == 0) = false := by simpa using hk
  have bk2 : (k != 0) = true := by simpa using hk
  rw [hg] at HU
  unfold R6Post iv at HU
  simp only [Except.map] at HU
  clear hg hk
  go_enter Tryz.func148, Tryz.ntmps148
  go_wp2_with fail
  refine HU.out.mono ?_
  rintro r w' ⟨rfl, rfl⟩
  go_wp2_with fail
  go_ret3
  exact ⟨rfl, rfl⟩
 | ok x =>
  rw [hg] at HU
  unfold R6Post iv at HU
  simp only [Except.map] at HU
  clear hg
  obtain ⟨m, a⟩ := x
  simp only at HU ⊢
  by_cases h0 : limit < 0
  ·rw [if_pos h0]
   go_enter Tryz.func148, Tryz.ntmps148
   go_wp2_with fail
   refine HU.out.mono ?_
   rintro r w' ⟨rfl, rfl⟩
   go_wp2_with fail
   go_ret3
   exact ⟨rfl, rfl⟩
  ·rw [if_neg h0]
   by_cases h1 : limit < (m : Int)
   ·rw [if_pos h1]
    go_enter Tryz.func148, Tryz.ntmps148
    go_wp2_with fail
    refine HU.out.mono ?_
    rintro r w' ⟨rfl, rfl⟩
    go_wp2_with fail
    go_ret3
    exact ⟨rfl, rfl⟩
   ·rw [if_neg h1]
    go_enter Tryz.func148, Tryz.ntmps148
    go_wp2_with fail
    refine HU.out.mono ?_
    rintro r w' ⟨rfl, rfl⟩
    go_wp2_with fail
    go_ret3
    exact ⟨rfl, rfl⟩
theorem pGroup_drop (l : List UInt8) (a : Nat) : ∀ (f i n j : Nat), pGroup l f i n (a + j) = (pGroup (l.drop a) f i n j).map fun x => (x.1, a + x.2)
 | 0, i, n, j => rfl
 | f + 1, i, n, j => by
  unfold pGroup
  rw [List.getElem?_drop]
  cases l[a + j]? with
  | none => rfl
  | some b =>
   simp only
   split
   ·rfl
   ·split
    ·split <;> rfl
    ·exact pGroup_drop l a f (i + 1) _ (j + 1)
end Go.Proofs.YtedpaajpfaoffaaGreatDoor
namespace Go.Proofs.YtedpaajpfaoffaaGreatDoor
open Go.RowKit
def B6Post (res : Except Int (List UInt8 × Nat)) (w : World) (r : Ending) (w' : World) : Prop := (match res with
 | .ok x => ∃ v, r = .returned (.tuple #[v, .int .i64 (x.2 : Int), .int .i64 0]) ∧ Bytes w v x.1
 | .error k => r = .returned (.tuple #[.slice none 0 0, .int .i64 0, .int .i64 k])) ∧ w = w'
theorem bytes6_any (v : Value) (l : List UInt8) (limit : Int) (w : World) (hv : Bytes w v l) (hl : l.length ≤ 100000) : Calls Tryz.prog 150 #[v, .int .i64 limit] w (B6Post (pPart l limit 0) w) := by
 have HU := Lib.hid (count6_any v l limit w hv hl)
 obtain ⟨A, cap, hvf, hcap, hmax, -⟩ := id hv
 unfold maxLen at hmax
 unfold pPart
 cases hg : pCount l limit 0 with
 | error k =>
  have hk := pCount_err hg
  have bk : (k == 0) = false := by simpa using hk
  have bk2 : (k != 0) = true := by simpa using hk
  rw [hg] at HU
  unfold R6Post iv at HU
  simp only at HU
  clear hg hk hv
  subst hvf
  go_enter Tryz.func150, Tryz.ntmps150
  go_wp2_with fail
  refine HU.out.mono ?_
  rintro r w' ⟨rfl, rfl⟩
  go_wp2_with fail
  go_ret3
  exact ⟨rfl, rfl⟩
 | ok x =>
  obtain ⟨x1, x2, x3, x4, x5⟩ := pCount_ok hg
  rw [hg] at HU
  unfold R6Post iv at HU
  simp only at HU
  clear hg
  obtain ⟨c, a⟩ := x
  simp only at HU x1 x2 x3 x4 x5 ⊢
  obtain ⟨m, rfl⟩ : ∃ m : Nat, c = (m : Int) := ⟨c.toNat, by omega⟩
  simp only [Int.toNat_natCast]
  by_cases h5 : l.length - a < m
  ·rw [if_pos h5]
   have h5' : (l.length : Int) - (a : Int) < (m : Int) := by omega
   clear hv
   subst hvf
   go_enter Tryz.func150, Tryz.ntmps150
   go_wp2_with fail
   refine HU.out.mono ?_
   rintro r w' ⟨rfl, rfl⟩
   go_wp2_with fail
   go_ret3
   exact ⟨rfl, rfl⟩
  ·rw [if_neg h5]
   have h5' : ¬ (l.length : Int) - (a : Int) < (m : Int) := by omega
   subst hvf
   have hv1 := Reads.part hv a (a + m) (by omega) (by omega)
   rw [show a + m - a = m by omega] at hv1
   have hv3 : Bytes w (sliced A a (a + m) cap 1) ((l.drop a).take m) := by
    unfold Bytes
    rw [List.map_take, List.map_drop, show (List.take m (List.drop a l)).length = m by simp; omega]
    exact hv1
   have HV3 := Lib.hid hv3
   have h5'' : decide ((l.length : Int) - (a : Int) < (m : Int)) = false := by simp; omega
   have h10 : IntKind.i64.wrap ((l.length : Int) - (a : Int)) = (l.length : Int) - (a : Int) := IntWalk.i64_in _ (by omega)
   have hcm : a + m ≤ cap := by omega
   have hcm2 : a + m ≤ 100000 := by omega
   clear hv hv1 hv3 h5' x1 x2 x3 x4 x5
   by_cases hca : cap = a
   ·subst hca
    go_enter Tryz.func150, Tryz.ntmps150
    go_wp2_with fail
    refine HU.out.mono ?_
    rintro r w' ⟨rfl, rfl⟩
    go_wp2_with fail
    go_ret3
    refine ⟨⟨_, rfl, ?_⟩, rfl⟩
    have h3 := HV3.out
    unfold sliced at h3
    simp only [Nat.mul_one, if_true, Nat.sub_self] at h3
    exact h3
   ·have HCA := Lib.hid hca
    have hca2 : (cap == a) = false := by simpa using hca
    go_enter Tryz.func150, Tryz.ntmps150
    go_wp2_with fail
    refine HU.out.mono ?_
    rintro r w' ⟨rfl, rfl⟩
    go_wp2_with fail
    go_ret3
    refine ⟨⟨_, rfl, ?_⟩, rfl⟩
    have h3 := HV3.out
    unfold sliced at h3
    simp only [Nat.mul_one, if_neg HCA.out] at h3
    exact h3
end Go.Proofs.YtedpaajpfaoffaaGreatDoor
namespace Go.Proofs.YtedpaajpfaoffaaGreatDoor
open Go.RowKit
def shiftR {α : Type} (a : Nat) (r : Except Int (α × Nat)) : Except Int (α × Nat) := match r with
 | .error k => .error k
 | .ok x => .ok (x.1, a + x.2)
theorem pGroup_sh (l : List UInt8) (a f : Nat) : pGroup l f 0 0 a = shiftR a (pGroup (l.drop a) f 0 0 0) := by
 have := pGroup_drop l a f 0 0 0
 rw [Nat.add_zero] at this
 rw [this]
 cases pGroup (l.drop a) f 0 0 0 <;> rfl
theorem pUint_sh (l : List UInt8) (a : Nat) : pUint l a = shiftR a (pUint (l.drop a) 0) := by
 unfold pUint
 rw [pGroup_sh]
 cases pGroup (l.drop a) 9 0 0 0 <;> rfl
theorem pInt_sh (l : List UInt8) (a : Nat) : pInt l a = shiftR a (pInt (l.drop a) 0) := by
 unfold pInt
 rw [pGroup_sh]
 cases pGroup (l.drop a) 10 0 0 0 <;> rfl
theorem pCount_sh (l : List UInt8) (limit : Int) (a : Nat) : pCount l limit a = shiftR a (pCount (l.drop a) limit 0) := by
 unfold pCount
 rw [pGroup_sh]
 cases pGroup (l.drop a) 9 0 0 0 with
 | error k => rfl
 | ok x =>
  simp only [shiftR]
  split
  ·rfl
  ·split <;> rfl
theorem pPart_sh (l : List UInt8) (limit : Int) (a : Nat) : pPart l limit a = shiftR a (pPart (l.drop a) limit 0) := by
 unfold pPart
 rw [pCount_sh]
 cases pCount (l.drop a) limit 0 with
 | error k => rfl
 | ok x =>
  simp only [shiftR, List.length_drop, List.drop_drop, Nat.sub_sub]
  by_cases h : l.length - (a + x.2) < x.1.toNat
  ·rw [if_pos h, if_pos h]
  ·rw [if_neg h, if_neg h, Nat.add_assoc]
theorem pInt_sh2 (l : List UInt8) (a b : Nat) : pInt l (a + b) = shiftR a (pInt (l.drop a) b) := by
 rw [pInt_sh l (a + b), pInt_sh (l.drop a) b, List.drop_drop]
 cases pInt (l.drop (a + b)) 0 with
 | error k => rfl
 | ok x => simp only [shiftR, Nat.add_assoc]
theorem pList_sh (l : List UInt8) (a : Nat) : ∀ n b : Nat, pList l n (a + b) = shiftR a (pList (l.drop a) n b)
 | 0, b => rfl
 | n + 1, b => by
  unfold pList
  rw [pInt_sh2]
  cases pInt (l.drop a) b with
  | error k => rfl
  | ok x =>
   simp only [shiftR]
   rw [pList_sh l a n x.2]
   cases pList (l.drop a) n x.2 with
   | error k => rfl
   | ok y => rfl
theorem pInts_sh (l : List UInt8) (limit : Int) (a : Nat) : pInts l limit a = shiftR a (pInts (l.drop a) limit 0) := by
 unfold pInts
 rw [pCount_sh]
 cases pCount (l.drop a) limit 0 with
 | error k => rfl
 | ok x =>
  simp only [shiftR]
  rw [pList_sh l a]
  rfl
end Go.Proofs.YtedpaajpfaoffaaGreatDoor
namespace Go.Proofs.YtedpaajpfaoffaaGreatDoor
open Go.RowKit
def L6Post (res : Except Int (List Int × Nat)) (w : World) (r : Ending) (w' : World) : Prop := (match res with
 | .ok x => ∃ v, r = .returned (.tuple #[v, .int .i64 (x.2 : Int), .int .i64 0]) ∧ RowI w' v x.1
 | .error k => r = .returned (.tuple #[.slice none 0 0, .int .i64 0, .int .i64 k])) ∧ Touch [] w w'
theorem L6Post.err {res : Except Int (List Int × Nat)} {w w' : World} {k : Int} (h : res = .error k) (ht : Touch [] w w') : L6Post res w (.returned (.tuple #[.slice none 0 0, .int .i64 0, .int .i64 k])) w' := by subst h; exact ⟨rfl, ht⟩
theorem L6Post.ok {res : Except Int (List Int × Nat)} {w w' : World} {xs : List Int} {a : Nat} {v : Value} (h : res = .ok (xs, a)) (hv : RowI w' v xs) (ht : Touch [] w w') : L6Post res w (.returned (.tuple #[v, .int .i64 (a : Int), .int .i64 0])) w' := by subst h; exact ⟨⟨v, rfl, hv⟩, ht⟩
def LiRel (w : World) (l : List UInt8) (n : Nat) (res : Except Int (List Int × Nat)) (ta tv ti : Value) (wr : World) : Prop :=
 ∃ (k a : Nat) (xs : List Int), k ≤ n ∧ ti = .int .i64 k ∧ ta = .int .i64 a ∧ xs.length = k ∧ k ≤ a ∧ a ≤ l.length ∧ RowI wr tv xs ∧ Touch [] w wr ∧ (∀ g ∈ blk tv, w.heap.size ≤ g) ∧ res = cont xs (pList l (n - k) a)
theorem list6_any (v : Value) (l : List UInt8) (limit : Int) (w : World) (hv : Bytes w v l) (hl : l.length ≤ 100000) : Calls Tryz.prog 106 #[v, .int .i64 limit] w (L6Post (pInts l limit 0) w) := by
 have HU := Lib.hid (count6_any v l limit w hv hl)
 have HER := Lib.hid (fun (w' : World) (k : Int) (h : pInts l limit 0 = .error k) => L6Post.err (w := w) (w' := w') h)
 have HOK := Lib.hid (fun (w' : World) (xs : List Int) (a : Nat) (v : Value) (h : pInts l limit 0 = .ok (xs, a)) => L6Post.ok (w := w) (w' := w') (v := v) h)
 generalize hP : L6Post (pInts l limit 0) w = Post at *
 clear hP
 obtain ⟨A, cap, hvf, hcap, hmax, -⟩ := id hv
 unfold maxLen at hmax
 unfold pInts at HER HOK
 cases hg : pCount l limit 0 with
 | error k =>
  have hk := pCount_err hg
  have bk : (k == 0) = false := by simpa using hk
  have bk2 : (k != 0) = true := by simpa using hk
  rw [hg] at HU HER
  unfold R6Post iv at HU
  simp only at HU HER
  clear hg hk hv HOK
  subst hvf
  go_enter Tryz.func106, Tryz.ntmps106
  go_wp2_with fail
  refine HU.out.mono ?_
  rintro r w' ⟨rfl, rfl⟩
  go_wp2_with fail
  go_ret3
  exact HER.out _ _ rfl (Touch.refl _ _)
 | ok x =>
  obtain ⟨x1, x2, x3, x4, x5⟩ := pCount_ok hg
  rw [hg] at HU HER HOK
  unfold R6Post iv at HU
  simp only at HU HER HOK
  clear hg
  obtain ⟨c, a0⟩ := x
  simp only at HU HER HOK x1 x2 x3 x4 x5
  obtain ⟨n, rfl⟩ : ∃ n : Nat, c = (n : Int) := ⟨c.toNat, by omega⟩
  simp only [Int.toNat_natCast] at HER HOK
  have HST : Hid (LiRel w l n (pList l n a0) (.int .i64 a0) (.slice none 0 0) (.int .i64 0) w) := Lib.hid ⟨0, a0, [], by omega, rfl, rfl, rfl, by omega, x5, Own.nil _ _ _, Touch.refl _ _, by simp [blk], by rw [cont_nil]; rfl⟩
  generalize pList l n a0 = res at *
  clear x1 x2 x3 x4 x5
  have HV := Lib.hid hv
  subst hvf
  clear hv
  go_enter Tryz.func106, Tryz.ntmps106
  go_wp2_with fail
  refine HU.out.mono ?_
  rintro r w' ⟨rfl, rfl⟩
  go_wp2_with fail
  go_loopw [8, 10, 11] (fun ta tv ti wr => LiRel w l n res ta tv ti wr) (fun _ _ ti _ => n - (intOf ti).toNat)
  case atStart => exact HST.out
  case round =>
   clear HST
   obtain ⟨k, a, xs, hk, rfl, rfl, hxl, hka, hal, hrow, htt, hfr, hres⟩ := hrel
   have HRS := Lib.hid hres
   have HXL := Lib.hid hxl
   have HNew := Lib.hid hfr
   clear hres hxl hfr
   by_cases hlt : k < n
   case neg =>
    have hlt' : ¬ (k : Int) < (n : Int) := by omega
    obtain rfl : k = n := by omega
    have HR1 : Hid (res = .ok (xs, a)) := Lib.hid (by rw [HRS.out, Nat.sub_self]; simp [pList, cont])
    go_wp2_with fail
    go_ret3
    exact HOK.out _ _ _ _ HR1.out hrow htt
   have hlt' : (k : Int) < (n : Int) := by omega
   have HBY : Hid (Bytes wr (sliced A a l.length cap 1) (l.drop a)) := Lib.hid (by
    have h1 := Reads.part (Reads.touch0 HV.out htt) a l.length (by omega) (by omega)
    rw [List.take_of_length_le (by simp)] at h1
    unfold Bytes
    rw [List.map_drop, List.length_drop]
    exact h1)
   have HIN := Lib.hid (int6_any _ (l.drop a) wr HBY.out (by simp; omega))
   unfold sliced at HIN
   simp only [Nat.mul_one] at HIN
   have hca : ¬ cap = a ∨ cap = a := by omega
   cases hp : pInt (l.drop a) 0 with
   | error k1 =>
    have HR1 : Hid (res = .error k1) := Lib.hid (by rw [HRS.out, show n - k = (n - (k + 1)) + 1 by omega, cont_bad l _ a xs k1 (by rw [pInt_sh, hp]; rfl)])
    rw [hp] at HIN
    unfold R6Post iv at HIN
    simp only at HIN
    have hk1 : k1 ≠ 0 := by unfold pInt at hp; cases hq : pGroup (l.drop a) 10 0 0 0 with
     | error e => rw [hq] at hp; cases hp; exact pGroup_err _ _ _ _ _ _ hq
     | ok z => rw [hq] at hp; cases hp
    have bk : (k1 == 0) = false := by simpa using hk1
    have bk2 : (k1 != 0) = true := by simpa using hk1
    clear hk1 hp
    rcases hca with hca | hca
    ·rw [if_neg hca] at HIN
     clear hmax HV
     go_wp2_with fail
     refine HIN.out.mono ?_
     rintro r w' ⟨rfl, rfl⟩
     go_wp2_with fail
     go_ret3
     exact HER.out _ _ HR1.out htt
    ·subst hca
     simp only [if_true, Nat.sub_self, show l.length - cap = 0 by omega] at HIN
     clear hmax HV
     go_wp2_with fail
     refine HIN.out.mono ?_
     rintro r w' ⟨rfl, rfl⟩
     go_wp2_with fail
     go_ret3
     exact HER.out _ _ HR1.out htt
   | ok y =>
    obtain ⟨y1, y2⟩ := y
    obtain ⟨p1, p2, p3⟩ := pInt_ok hp
    simp only [List.length_drop] at p1 p2 p3
    have HR1 : Hid (res = cont (xs ++ [y1]) (pList l (n - (k + 1)) (a + y2))) := Lib.hid (by rw [HRS.out, show n - k = (n - (k + 1)) + 1 by omega, cont_step l _ a xs (y1, a + y2) (by rw [pInt_sh, hp]; rfl)])
    rw [hp] at HIN
    unfold R6Post iv at HIN
    simp only at HIN
    have hxs : xs.length ≤ 100000 := by rw [HXL.out]; omega
    have hsum : a + y2 ≤ 100000 := by omega
    have hsum2 : a + y2 ≤ l.length := by omega
    have HF := Lib.hid p3
    have hk2 : k ≤ 100000 := by omega
    clear hp p3
    rcases hca with hca | hca
    ·rw [if_neg hca] at HIN
     clear hmax HV
     go_wp2_with fail
     refine HIN.out.mono ?_
     rintro r w' ⟨rfl, rfl⟩
     go_wp2_with (at_builtin; go_must (refine app_new elem_int hrow [Value.int .i64 y1] 1 1 (by omega) (by unfold maxLen; omega) ?_); intro v4 w4 ho4 ht4 hf4)
     go_roundw
     case rel =>
      refine ⟨k + 1, a + y2, xs ++ [y1], by omega, by go_num, by go_num, by simp [HXL.out], by omega, hsum2, RowI.snoc ho4, ?_, ?_, HR1.out⟩
      ·exact htt.step ht4 (fun m hm => .inr (HNew.out m hm))
      ·intro g hg
       rcases hf4 g hg with h5 | h5
       ·exact HNew.out g h5
       ·have := htt.size; omega
     case measure => simp [intOf]; omega
    ·exfalso; omega
end Go.Proofs.YtedpaajpfaoffaaGreatDoor
