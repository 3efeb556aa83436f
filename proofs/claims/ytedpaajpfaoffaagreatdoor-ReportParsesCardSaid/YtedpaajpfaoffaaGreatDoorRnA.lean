/- The document's numbers, base 256: Minus. -/
import Derived.Test.YtedpaajpfaoffaaGreatDoorNzA
import Derived.Test.YtedpaajpfaoffaaGreatDoorQvA
import Derived.Deep.RegionLaw
import Derived.Test.YtedpaajpfaoffaaGreatDoorMgA
set_option linter.all false
set_option maxHeartbeats 4000000
set_option maxRecDepth 100000
namespace Go.Proofs.YtedpaajpfaoffaaGreatDoor
open Go.RowKit
def MinusRel (w : World) (xs ys : List Nat) (to tc ti : Value) (wr : World) : Prop := ∃ (i c : Nat) (zs : List Nat), ti = .int .i64 i ∧ tc = .int .i64 c ∧ c ≤ 1 ∧ i ≤ xs.length ∧ Row8 wr to zs ∧ zs.length ≤ 100000 ∧ Touch [] w wr ∧ Hid (∀ g ∈ blk to, w.heap.size ≤ g) ∧ Hid (MinusOf i xs ys zs c)
theorem rminus_w (v u : Value) (xs ys : List Nat) (w : World) (hv : Dgs w v xs) (hu : Dgs w u ys) (hx : xs.length ≤ 100000) (hyx : ys.length ≤ xs.length) (hle : nv 256 ys ≤ nv 256 xs) : Calls Tryz.prog 90 #[v, u] w (RPost (nv 256 xs - nv 256 ys) w) := by
 obtain ⟨A, cap, rfl⟩ := hv.form
 obtain ⟨A', cap', rfl⟩ := hu.form
 obtain ⟨hc1, hc2⟩ := hv.cap
 obtain ⟨hc3, hc4⟩ := hu.cap
 have hst : MinusRel w xs ys (.slice none 0 0) (.int .i64 0) (.int .i64 0) w := ⟨0, 0, [], rfl, rfl, by omega, by omega, Row8.nil w, by simp, Touch.refl _ _, Lib.hid (fun g hg => by cases hg), Lib.hid (minus_new _ _)⟩
 have HLE := Lib.hid (And.intro hyx hle)
 clear hle
 go_enter Tryz.func90, Tryz.ntmps90
 go_wp2_with fail
 go_loopw [5, 6, 7] (fun to tc ti wr => MinusRel w xs ys to tc ti wr) (fun _ _ ti _ => xs.length - (intOf ti).toNat)
 case atStart => exact hst
 case round =>
  clear hst
  obtain ⟨i, c, zs, rfl, rfl, hc, hi, hr, hzl, ht, HFR, HS⟩ := hrel
  obtain ⟨Az, cz, rfl⟩ := hr.form
  by_cases hlx : i < xs.length
  ·have hlx' : (i : Int) < (xs.length : Int) := by omega
   obtain ⟨b, off, rfl, hb⟩ := hv.addr hlx
   have c0 := Dgs.at_ (hv.touch0 ht) hlx
   have bx := hv.below _ (List.getElem_mem hlx)
   have HWX := Lib.hid (wat_in hlx)
   have HST := Lib.hid (fun v c' hv hc e => minus_step (v := v) (c' := c') HS.out hv hc e)
   have HZI : Hid (zs.length = i) := Lib.hid HS.out.2.1
   have hzl2 : zs.length ≤ 99999 := by have := HZI.out; omega
   generalize xs[i] = x at *
   by_cases hly : i < ys.length
   ·have hly' : (i : Int) < (ys.length : Int) := by omega
    obtain ⟨b', off', rfl, hb'⟩ := hu.addr hly
    have c1 := Dgs.at_ (hu.touch0 ht) hly
    have bY := hu.below _ (List.getElem_mem hly)
    have HWY := Lib.hid (wat_in hly)
    generalize ys[i] = y at *
    have HVU := Lib.hid (And.intro hv hu)
    clear hv hu
    by_cases hn : x < c + y
    ·have HK := Lib.hid (HST.out (x + 256 - c - y) 1 (by omega) (by omega) (by rw [HWX.out, HWY.out]; omega))
     have hneg : ((x : Int) - c - y : Int) < 0 := by omega
     have HEV : Hid (((x + 256 - c - y : Nat) : Int) = ((x : Int) - c - y) + 256) := Lib.hid (by omega)
     go_wp2_with (at_builtin; go_must (refine app_new elem_rnat hr [_] 1 1 (by omega) (by unfold maxLen; omega) ?_); intro v1 w1 ho1 hg1 hf1)
     go_roundw
     case rel => exact ⟨i + 1, 1, zs ++ [x + 256 - c - y], by go_num, rfl, by omega, by omega, Row8.snoc (by rw [HEV.out]; exact ho1), by simp; omega, ht.fresh8 HFR.out hg1, Lib.hid (From.fresh8 ht HFR.out hf1), HK⟩
     case measure => simp [intOf]; omega
    ·have HK := Lib.hid (HST.out (x - c - y) 0 (by omega) (by omega) (by rw [HWX.out, HWY.out]; omega))
     have hneg : ¬ ((x : Int) - c - y : Int) < 0 := by omega
     have HEV : Hid (((x - c - y : Nat) : Int) = ((x : Int) - c - y)) := Lib.hid (by omega)
     go_wp2_with (at_builtin; go_must (refine app_new elem_rnat hr [_] 1 1 (by omega) (by unfold maxLen; omega) ?_); intro v1 w1 ho1 hg1 hf1)
     go_roundw
     case rel => exact ⟨i + 1, 0, zs ++ [x - c - y], by go_num, rfl, by omega, by omega, Row8.snoc (by rw [HEV.out]; exact ho1), by simp; omega, ht.fresh8 HFR.out hg1, Lib.hid (From.fresh8 ht HFR.out hf1), HK⟩
     case measure => simp [intOf]; omega
   ·have hly' : ¬ (i : Int) < (ys.length : Int) := by omega
    have HWY := Lib.hid (wat_out hly)
    have HVU := Lib.hid (And.intro hv hu)
    clear hv hu
    by_cases hn : x < c
    ·have HK := Lib.hid (HST.out (x + 256 - c) 1 (by omega) (by omega) (by rw [HWX.out, HWY.out]; omega))
     have hneg : ((x : Int) - c : Int) < 0 := by omega
     have HEV : Hid (((x + 256 - c : Nat) : Int) = ((x : Int) - c) + 256) := Lib.hid (by omega)
     go_wp2_with (at_builtin; go_must (refine app_new elem_rnat hr [_] 1 1 (by omega) (by unfold maxLen; omega) ?_); intro v1 w1 ho1 hg1 hf1)
     go_roundw
     case rel => exact ⟨i + 1, 1, zs ++ [x + 256 - c], by go_num, rfl, by omega, by omega, Row8.snoc (by rw [HEV.out]; exact ho1), by simp; omega, ht.fresh8 HFR.out hg1, Lib.hid (From.fresh8 ht HFR.out hf1), HK⟩
     case measure => simp [intOf]; omega
    ·have HK := Lib.hid (HST.out (x - c) 0 (by omega) (by omega) (by rw [HWX.out, HWY.out]; omega))
     have hneg : ¬ ((x : Int) - c : Int) < 0 := by omega
     have HEV : Hid (((x - c : Nat) : Int) = ((x : Int) - c)) := Lib.hid (by omega)
     go_wp2_with (at_builtin; go_must (refine app_new elem_rnat hr [_] 1 1 (by omega) (by unfold maxLen; omega) ?_); intro v1 w1 ho1 hg1 hf1)
     go_roundw
     case rel => exact ⟨i + 1, 0, zs ++ [x - c], by go_num, rfl, by omega, by omega, Row8.snoc (by rw [HEV.out]; exact ho1), by simp; omega, ht.fresh8 HFR.out hg1, Lib.hid (From.fresh8 ht HFR.out hf1), HK⟩
     case measure => simp [intOf]; omega
  ·have hlx' : ¬ (i : Int) < (xs.length : Int) := by omega
   have hie : i = xs.length := by omega
   have HD : Hid (nv 256 zs = nv 256 xs - nv 256 ys) := Lib.hid (minus_done (by have := HS.out; rwa [hie] at this) HLE.out.1 HLE.out.2)
   have HT := Lib.hid (rtrim_any (.slice Az zs.length cz) zs wr (hr.dgs HS.out.2.2.2))
   clear hv hu HS hie hi hlx
   go_wp2_with fail
   with_reducible refine HT.out.mono ?_
   rintro r w3 ⟨v', rfl, hw, hr, rfl⟩
   rw [HD.out] at hw
   have HW3 := Lib.hid hw
   have HRB := Lib.hid (fun g hg => HFR.out g (rb_sub _ g (hr g hg)))
   obtain ⟨Av, nv_, cv, rfl⟩ := hw.form3
   clear hw hr
   go_wp2_with fail
   go_ret
   exact ⟨_, rfl, HW3.out, ht, HRB.out⟩
theorem rminus_any (v u : Value) (a b : Nat) (w : World) (hv : Dgs w v (wordsOf 256 a)) (hu : Dgs w u (wordsOf 256 b)) (hx : (wordsOf 256 a).length ≤ 100000) (hle : b ≤ a) : Calls Tryz.prog 90 #[v, u] w (RPost (a - b) w) := by
 have h := rminus_w v u _ _ w hv hu hx (words_len_mono hle) (by rw [nv_words two256, nv_words two256]; exact hle)
 rwa [nv_words two256, nv_words two256] at h
end Go.Proofs.YtedpaajpfaoffaaGreatDoor
namespace Go.Proofs.YtedpaajpfaoffaaGreatDoor
open Go.RowKit
def OrdRel (w : World) (xs ys : List Nat) (ti : Value) (wr : World) : Prop := ∃ k : Nat, k ≤ xs.length ∧ ti = .int .i64 ((k : Int) - 1) ∧ xs.drop k = ys.drop k ∧ Touch [] w wr
theorem rorder_w (v u : Value) (xs ys : List Nat) (w : World) (hv : Dgs w v xs) (hu : Dgs w u ys) (hx : Canon xs) (hy : Canon ys) : Calls Tryz.prog 136 #[v, u] w fun r w' => r = .returned (.int .i64 (cmpI (nv 256 xs) (nv 256 ys))) ∧ Touch [] w w' := by
 obtain ⟨A, cap, rfl⟩ := hv.form
 obtain ⟨A', cap', rfl⟩ := hu.form
 obtain ⟨hc1, hc2⟩ := hv.cap
 obtain ⟨hc3, hc4⟩ := hu.cap
 have bx := hv.below
 have bY := hu.below
 have HL := Lib.hid (fun h : xs.length < ys.length => cmp_lt (words_len_lt two256 bx hy bY h))
 have HG := Lib.hid (fun h : ys.length < xs.length => cmp_gt (words_len_lt two256 bY hx bx h))
 have HLT := Lib.hid (fun (i : Nat) (hl : xs.length = ys.length) (hi : i < xs.length) (hd : xs.drop (i + 1) = ys.drop (i + 1)) (h : xs[i] < ys[i]'(by omega)) => cmp_lt (nv_lt_at (B := 256) hl bx hi hd h))
 have HGT := Lib.hid (fun (i : Nat) (hl : xs.length = ys.length) (hi : i < xs.length) (hd : xs.drop (i + 1) = ys.drop (i + 1)) (h : ys[i]'(by omega) < xs[i]) => cmp_gt (nv_lt_at (B := 256) hl.symm bY (by omega) hd.symm h))
 have HE := Lib.hid (fun (hd : xs.drop 0 = ys.drop 0) => cmp_eq (show nv 256 xs = nv 256 ys by simp only [List.drop_zero] at hd; rw [hd]))
 generalize cmpI (nv 256 xs) (nv 256 ys) = res at *
 clear hx hy bx bY
 by_cases hne : xs.length = ys.length
 case neg =>
  by_cases hlt : xs.length < ys.length
  ·have hlt' : (xs.length : Int) < (ys.length : Int) := by omega
   have hne' : ((xs.length : Int) != (ys.length : Int)) = true := by simp; omega
   have e := HL.out hlt
   subst e
   go_enter Tryz.func136, Tryz.ntmps136
   go_wp2_with fail
   go_ret
   exact ⟨rfl, Touch.refl _ _⟩
  ·have hlt' : ¬ (xs.length : Int) < (ys.length : Int) := by omega
   have hne' : ((xs.length : Int) != (ys.length : Int)) = true := by simp; omega
   have e := HG.out (by omega)
   subst e
   go_enter Tryz.func136, Tryz.ntmps136
   go_wp2_with fail
   go_ret
   exact ⟨rfl, Touch.refl _ _⟩
 case pos =>
  have hst : OrdRel w xs ys (.int .i64 ((xs.length : Int) - 1)) w := ⟨xs.length, Nat.le_refl _, rfl, by rw [List.drop_length, hne, List.drop_length], Touch.refl _ _⟩
  clear HL HG
  have HNE := Lib.hid hne
  rw [hne] at hst ⊢
  have HV := Lib.hid hv
  clear hne hv hc1
  go_enter Tryz.func136, Tryz.ntmps136
  go_wp2_with fail
  go_loopw [5] (fun ti wr => OrdRel w xs ys ti wr) (fun ti _ => (intOf ti + 1).toNat)
  case atStart => exact hst
  case round =>
   clear hst
   obtain ⟨k, hk, rfl, hd, ht⟩ := hrel
   have HD := Lib.hid hd
   clear hd
   rcases Nat.eq_zero_or_pos k with h0 | h0
   ·have h1 : ¬ (0 : Int) ≤ (k : Int) - 1 := by omega
    have e := HE.out (by rw [← h0]; exact HD.out)
    subst e
    go_wp2_with fail
    go_ret
    exact ⟨rfl, ht⟩
   obtain ⟨m, hm⟩ : ∃ m, k = m + 1 := ⟨k - 1, by omega⟩
   subst hm
   have e1 : ((m + 1 : Nat) : Int) - 1 = (m : Int) := by omega
   rw [e1]
   have HX1 := Lib.hid (show m < xs.length by omega)
   have hx2 : m < ys.length := by have := HNE.out; omega
   clear hk
   obtain ⟨b, off, rfl, hb⟩ := HV.out.addr HX1.out
   obtain ⟨b', off', rfl, hb'⟩ := hu.addr hx2
   have c0 := Dgs.at_ (HV.out.touch0 ht) HX1.out
   have c1 := Dgs.at_ (hu.touch0 ht) hx2
   have HLT2 := Lib.hid (HLT.out m HNE.out HX1.out HD.out)
   have HGT2 := Lib.hid (HGT.out m HNE.out HX1.out HD.out)
   have HEQ := Lib.hid (drop_step HX1.out hx2 HD.out)
   generalize xs[m] = x at *
   generalize ys[m] = y at *
   clear HLT HGT HE HV hu
   by_cases h1 : x < y
   ·have h1' : (x : Int) < (y : Int) := by omega
    have h0' : ((x : Int) != (y : Int)) = true := by simp; omega
    have e := HLT2.out h1
    subst e
    go_wp2_with fail
    go_quiet (fail)
    go_wp2_with fail
    go_quiet (fail)
    go_wp2_with fail
    go_ret
    exact ⟨rfl, (ht.drewN _).drewN _⟩
   have h1' : ¬ (x : Int) < (y : Int) := by omega
   by_cases h2 : y < x
   ·have h0' : ((x : Int) != (y : Int)) = true := by simp; omega
    have e := HGT2.out h2
    subst e
    go_wp2_with fail
    go_quiet (fail)
    go_wp2_with fail
    go_quiet (fail)
    go_wp2_with fail
    go_ret
    exact ⟨rfl, (ht.drewN _).drewN _⟩
   ·have h0' : ((x : Int) != (y : Int)) = false := by simp; omega
    have HEQ2 := Lib.hid (HEQ.out (by omega))
    go_wp2_with fail
    go_quiet (fail)
    go_wp2_with fail
    go_roundw
    case rel => exact ⟨m, by have := HX1.out; omega, by go_num, HEQ2.out, ht.drewN _⟩
    case measure => simp [intOf]
theorem rorder_any (v u : Value) (a b : Nat) (w : World) (hv : Dgs w v (wordsOf 256 a)) (hu : Dgs w u (wordsOf 256 b)) : Calls Tryz.prog 136 #[v, u] w fun r w' => r = .returned (.int .i64 (cmpI a b)) ∧ Touch [] w w' := by
 have h := rorder_w v u _ _ w hv hu (words_canon two256 a) (words_canon two256 b)
 rwa [nv_words two256, nv_words two256] at h
end Go.Proofs.YtedpaajpfaoffaaGreatDoor
namespace Go.Proofs.YtedpaajpfaoffaaGreatDoor
open Go.RowKit
def AbsRel (w : World) (ds : List Nat) (to ti : Value) (wr : World) : Prop := ∃ (k : Nat) (zs : List Nat), k ≤ ds.length ∧ ti = .int .i64 ((k : Int) - 1) ∧ Row8 wr to zs ∧ zs.length ≤ 100000 ∧ Touch [] w wr ∧ Hid (∀ g ∈ blk to, w.heap.size ≤ g) ∧ Hid (zs = (ds.drop k).reverse)
theorem rabs_w (n : Bool) (d : Value) (ds : List Nat) (w : World) (h : Dgs w d ds) (hl : ds.length ≤ 100000) : Calls Tryz.prog 86 #[.agg #[.bool n, d]] w fun r w' => ∃ v, r = .returned v ∧ Dgs w' v ds.reverse ∧ Touch [] w w' := by
 have HB := Lib.hid h.below
 obtain ⟨A, cap, rfl⟩ := h.form
 obtain ⟨hc1, hc2⟩ := h.cap
 obtain ⟨ht0, hcc⟩ := box1 w n (.slice A ds.length cap)
 unfold W1I at ht0 hcc
 have HC := Lib.hid hcc
 have HH := Lib.hid h
 have hst : AbsRel (w.alloc (.cells #[.bool n, .slice A ds.length cap] 32)) ds (.slice none 0 0) (.int .i64 ((ds.length : Int) - 1)) (w.alloc (.cells #[.bool n, .slice A ds.length cap] 32)) := ⟨ds.length, [], by omega, rfl, Row8.nil _, by simp, Touch.refl _ _, Lib.hid (fun g hg => by cases hg), Lib.hid (by simp)⟩
 obtain ⟨p0, p1⟩ := hcc _ (Touch.refl _ _)
 clear hcc h
 go_enter Tryz.func86, Tryz.ntmps86
 go_wp2_with fail
 generalize (w.alloc (.cells #[.bool n, .slice A ds.length cap] 32)) = w0 at *
 have HT0 := Lib.hid ht0
 clear p0 p1 ht0
 go_loopw [3, 4] (fun to ti wr => AbsRel w0 ds to ti wr) (fun _ ti _ => (intOf ti + 1).toNat)
 case atStart => exact hst
 case round =>
  clear hst
  obtain ⟨k, zs, hk, rfl, hr, hzl, ht, HF, HZ⟩ := hrel
  obtain ⟨Az, cz, rfl⟩ := hr.form
  rcases Nat.eq_zero_or_pos k with h0 | h0
  ·have h1 : ¬ (0 : Int) ≤ (k : Int) - 1 := by omega
   have HD : Hid (Dgs wr (.slice Az zs.length cz) ds.reverse) := Lib.hid (by
    have e := HZ.out
    rw [h0, List.drop_zero] at e
    rw [← e]
    exact hr.dgs (by rw [e]; exact fun x hx => HB.out x (List.mem_reverse.1 hx)))
   clear h0 hr
   go_wp2_with fail
   go_ret
   exact ⟨_, rfl, HD.out, HT0.out.then0 ht⟩
  obtain ⟨m, hm⟩ : ∃ m, k = m + 1 := ⟨k - 1, by omega⟩
  subst hm
  have e1 : ((m + 1 : Nat) : Int) - 1 = (m : Int) := by omega
  rw [e1]
  have hx : m < ds.length := by omega
  obtain ⟨b, off, rfl, hb⟩ := HH.out.addr hx
  have c0 := Dgs.at_ (HH.out.touch0 (HT0.out.then0 ht)) hx
  have HN : Hid (zs ++ [ds[m]] = (ds.drop m).reverse) := Lib.hid (by rw [HZ.out, List.drop_eq_getElem_cons hx, List.reverse_cons])
  have HZL : Hid (zs.length = ds.length - (m + 1)) := Lib.hid (by rw [HZ.out]; simp)
  have hzl2 : zs.length ≤ 99999 := by have := HZL.out; omega
  generalize ds[m] = x at *
  obtain ⟨p0, p1⟩ := HC.out _ ht
  go_wp2_with (at_builtin; go_must (refine app_new elem_rnat hr [_] 1 1 (by omega) (by unfold maxLen; omega) ?_); intro v1 w1 ho1 hg1 hf1)
  go_roundw
  case rel => exact ⟨m, zs ++ [x], by omega, rfl, Row8.snoc ho1, by simp; omega, ht.fresh8 HF.out hg1, Lib.hid (From.fresh8 ht HF.out hf1), HN⟩
  case measure => simp [intOf]
theorem rabs_any (n : Bool) (d : Value) (A : Nat) (w : World) (h : Dgs w d (dg A)) (hl : (dg A).length ≤ 100000) : Calls Tryz.prog 86 #[.agg #[.bool n, d]] w fun r w' => ∃ v, r = .returned v ∧ Dgs w' v (wordsOf 256 A) ∧ Touch [] w w' := by
 have := rabs_w n d _ w h hl
 unfold dg at this
 rwa [List.reverse_reverse] at this
def MakeRel (w : World) (g : Nat) (n : Bool) (xs : List Nat) (ti : Value) (wr : World) : Prop := ∃ (k : Nat) (zs : List Nat) (A : Option Addr) (c : Nat), k ≤ xs.length ∧ ti = .int .i64 ((k : Int) - 1) ∧ Row8 wr (.slice A zs.length c) zs ∧ zs.length ≤ 100000 ∧ Blk wr g 32 #[.bool n, .slice A zs.length c] ∧ Touch [g] w wr ∧ Hid (∀ m ∈ blk (.slice A zs.length c), w.heap.size ≤ m) ∧ Hid (zs = (xs.drop k).reverse)
theorem rmake_w (n : Bool) (v : Value) (xs : List Nat) (N : Nat) (w : World) (h : Dgs w v xs) (hN : nv 256 xs = N) (hl : xs.length ≤ 100000) : Calls Tryz.prog 88 #[.bool n, v] w fun r w' => ∃ x, r = .returned x ∧ IntAt w' (sg n N) N x ∧ Touch [] w w' := by
 have HT := Lib.hid (fun W (t : Touch [] w W) => rtrim_any v xs W (h.touch0 t))
 obtain ⟨A, cap, rfl⟩ := h.form
 have b0 : Blk (w.alloc (.cells #[.bool false, .slice none 0 0] 32)) w.heap.size 32 #[.bool false, .slice none 0 0] := Blk.new _ _ _
 have ht0 : Touch [] w (w.alloc (.cells #[.bool false, .slice none 0 0] 32)) := (Touch.refl _ _).alloc _
 have hln : (wordsOf 256 N).length ≤ xs.length := by
  rw [len_le two256, ← hN]
  exact nv_lt h.below
 rw [hN] at HT
 clear h
 go_enter Tryz.func88, Tryz.ntmps88
 go_wp2_with fail
 generalize (w.alloc (.cells #[.bool false, .slice none 0 0] 32)) = w0 at *
 with_reducible refine (HT.out w0 ht0).mono ?_
 rintro r w1 ⟨v1, rfl, hw1, _, rfl⟩
 dsimp only
 have HW := Lib.hid hw1
 obtain ⟨A1, c1, rfl⟩ := hw1.form
 obtain ⟨hc1, hc2⟩ := hw1.cap
 have HP : Hid (decide (0 < (wordsOf 256 N).length) = decide (0 < N)) := Lib.hid (by
  have := words_nil_iff two256 (N := N)
  rw [decide_eq_decide]
  omega)
 have HE : Hid (dg N = (wordsOf 256 N).reverse) := Lib.hid rfl
 have hl2 : (wordsOf 256 N).length ≤ 100000 := by omega
 have HBE := Lib.hid (words_below two256 N)
 clear hw1 hln
 generalize wordsOf 256 N = ys at *
 have HS : Hid (sg n N = (n && decide (0 < ys.length))) := Lib.hid (by rw [HP.out]; rfl)
 have b5 : Blk (w0.alloc (.cells #[.bool (n && decide (0 < ys.length)), .slice none 0 0] 32)) w0.heap.size 32 #[.bool (n && decide (0 < ys.length)), .slice none 0 0] := Blk.new _ _ _
 have hst : MakeRel w0 w0.heap.size (n && decide (0 < ys.length)) ys (.int .i64 ((ys.length : Int) - 1)) (w0.alloc (.cells #[.bool (n && decide (0 < ys.length)), .slice none 0 0] 32)) := ⟨ys.length, [], none, 0, by omega, rfl, Row8.nil _, by simp, b5, (Touch.refl _ _).alloc _, Lib.hid (fun g hg => by cases hg), Lib.hid (by simp)⟩
 have hb0 := b0.lt
 have HB0 := Lib.hid b0
 have HT0 := Lib.hid ht0
 clear b0 ht0 b5
 cases n with
 | false =>
  simp only [Bool.false_and] at hst HS
  go_wp2_with fail
  generalize hg5 : w0.heap.size = g5 at *
  go_loopw [6] (fun ti wr => MakeRel w0 g5 false ys ti wr) (fun ti _ => (intOf ti + 1).toNat)
  case atStart => exact hst
  case round =>
   clear hst
   obtain ⟨k, zs, Az, cz, hk, rfl, hr, hzl, hb5, ht, HF, HZ⟩ := hrel
   rcases Nat.eq_zero_or_pos k with h0 | h0
   ·have h1 : ¬ (0 : Int) ≤ (k : Int) - 1 := by omega
    have HZ2 : Hid (zs = dg N) := Lib.hid (by rw [HZ.out, h0, List.drop_zero, HE.out])
    have HT1 : Hid (Touch [] w wr) := Lib.hid (HT0.out.step ht (fun q hq => .inr (by rw [List.mem_singleton] at hq; omega)))
    have HD : Hid (Dgs wr (.slice Az zs.length cz) (dg N)) := Lib.hid (by
     have := hr.dgs (by rw [HZ2.out]; exact dg_below N)
     rwa [HZ2.out] at this ⊢)
    have bw := HB0.out.touch ht (by simp; omega)
    have q0 := bw.cell 0
    have q1 := bw.cell 1
    have q2 := bw.frozen 0
    have q3 := bw.frozen 1
    have r0 := hb5.cell 0
    have r1 := hb5.cell 1
    simp at q0 q1 r0 r1
    have HBW := Lib.hid bw
    clear bw h0 hr ht hb5
    go_wp2_with fail
    obtain ⟨k, k1, k2⟩ := int_res' (N := N) false HBW.out (Nat.le_refl _) HT1.out HD.out _ rfl
    refine bodyPost_ret (v := .agg #[.bool false, .slice Az zs.length cz]) (by simp [results, Tryz.results88, go_sem, k.1, k.2]) rfl ⟨_, rfl, by rw [HS.out]; exact k1, k2⟩
   obtain ⟨m, hm⟩ : ∃ m, k = m + 1 := ⟨k - 1, by omega⟩
   subst hm
   have e1 : ((m + 1 : Nat) : Int) - 1 = (m : Int) := by omega
   rw [e1]
   have hx : m < ys.length := by omega
   obtain ⟨b, off, rfl, hb⟩ := HW.out.addr hx
   have HN : Hid (zs ++ [ys[m]] = (ys.drop m).reverse) := Lib.hid (by rw [HZ.out, List.drop_eq_getElem_cons hx, List.reverse_cons])
   have HZL : Hid (zs.length = ys.length - (m + 1)) := Lib.hid (by rw [HZ.out]; simp)
   have hzl2 : zs.length ≤ 99999 := by have := HZL.out; omega
   have hbg : b ≠ g5 := by omega
   have hx2 : ys[m] < 256 := HBE.out _ (List.getElem_mem hx)
   have c0 := Dgs.at_ (HW.out.touch ht (fun g' hg' hm => by rw [List.mem_singleton] at hm; have := HW.out.lt g' hg'; omega)) hx
   have c1 := hb5.cell 1
   have c2 := hb5.frozen 1
   simp at c1
   generalize ys[m] = x at *
   have hown : Own (wr.alloc (.cells #[.int .u8 (x : Int)] 5)).drew 5 1 (.slice Az zs.length cz) zs.length (zs.map u8v) := World.ownsRow.alloc hr _
   have hnew : B8 (wr.alloc (.cells #[.int .u8 (x : Int)] 5)).drew wr.heap.size [x] := by
    have := Blk.new wr 5 #[Value.int .u8 (x : Int)]
    have h2 : B8 (wr.alloc (.cells #[.int .u8 (x : Int)] 5)) wr.heap.size [x] := by simpa [B8, u8v] using this
    exact h2
   have hrd : Reads (wr.alloc (.cells #[.int .u8 (x : Int)] 5)).drew 1 (.slice (some ⟨wr.heap.size, 0, none⟩) 1 1) 1 [.int .u8 (x : Int)] := by
    have := (hnew.dgs (fun y hy => by simp at hy; omega) (by simp [maxLen]) rfl).1
    simpa [W8] using this
   have hne : g5 ∉ blk (.slice Az zs.length cz) := Own.ne_blk hr hb5 (of_decide_eq_true (by kernel_rfl))
   have hb5' : Blk (wr.alloc (.cells #[.int .u8 (x : Int)] 5)).drew g5 32 #[.bool false, .slice Az zs.length cz] := hb5.alloc (.cells #[.int .u8 (x : Int)] 5)
   have HB5 := Lib.hid hb5'
   have d1 := hb5'.cell 1
   have d0 : (wr.alloc (.cells #[.int .u8 (x : Int)] 5)).drew.cell? ⟨b, off + m, none⟩ = some (.int .u8 (x : Int)) := (Touch.cell ((Touch.refl [] wr).alloc (.cells #[.int .u8 (x : Int)] 5)) (p := ⟨b, off + m, none⟩) (Nat.lt_of_lt_of_le hb ht.size) (by simp)).trans c0
   simp only [List.getElem?_toArray, List.getElem?_cons_succ, List.getElem?_cons_zero] at d1
   have HR5 := Lib.hid hr
   have HT5 : Hid (Touch [g5] w0 (wr.alloc (.cells #[.int .u8 (x : Int)] 5)).drew) := Lib.hid ((ht.alloc _).drew)
   clear h0 hr hb5 hb5' ht hnew
   go_wp2_with fail
   go_region_law ((refine step_app_reads elem_b8 hown hrd (by simp [Value.oneCell']) (by omega) (by unfold maxLen; omega) ?_; intro v3 w3 ho3 ht3 hf3; have hb6 := HB5.out.touch ht3 hne; have j0 := hb6.cell 1; have j1 := hb6.frozen 1; simp at j0; obtain ⟨A3, c3, e3⟩ := Own.form ho3; subst e3))
   all_goals
    have HO3 := Lib.hid ho3
    have HT3 := Lib.hid ht3
    have HF3 := Lib.hid hf3
    have HB6 := Lib.hid hb6
    have HNE := Lib.hid hne
    clear ho3 ht3 hf3 hb6 hown hrd hne
    go_wp2_with fail
    go_roundw
    case rel =>
     have hb7 := HB6.out.set_ 1 (.slice A3 (zs.length + 1) c3)
     have kt : Touch [g5] w3 (w3.setCell ⟨g5, 1, none⟩ (.slice A3 (zs.length + 1) c3)) := (Touch.refl _ _).setCell (p := ⟨g5, 1, none⟩) (.inl (by simp)) _
     have hgl := HB5.out.lt
     have hn3 : ∀ q ∈ blk (.slice A3 (zs.length + 1) c3), q ∉ [g5] := fun q hq hm => by
      rw [List.mem_singleton] at hm
      subst hm
      rcases HF3.out _ hq with h | h
      ·exact HNE.out h
      ·omega
     refine ⟨m, zs ++ [x], A3, c3, by omega, rfl, ?_, by simp; omega, ?_, (HT5.out.step HT3.out (fun q hq => .inr (HF.out q hq))).trans kt, Lib.hid (fun q hq => ?_), HN⟩
     ·rw [List.length_append, List.length_singleton]
      exact (Row8.snoc (Own.touch HO3.out kt hn3))
     ·rw [List.length_append, List.length_singleton]
      simpa using hb7
     ·rw [List.length_append, List.length_singleton] at hq
      rcases HF3.out _ hq with h | h
      ·exact HF.out _ h
      ·exact Nat.le_trans HT5.out.size h
    case measure => simp [intOf]
 | true =>
  simp only [Bool.true_and] at hst HS
  go_wp2_with fail
  generalize hg5 : w0.heap.size = g5 at *
  go_loopw [6] (fun ti wr => MakeRel w0 g5 (decide (0 < ys.length)) ys ti wr) (fun ti _ => (intOf ti + 1).toNat)
  case atStart => exact hst
  case round =>
   clear hst
   obtain ⟨k, zs, Az, cz, hk, rfl, hr, hzl, hb5, ht, HF, HZ⟩ := hrel
   rcases Nat.eq_zero_or_pos k with h0 | h0
   ·have h1 : ¬ (0 : Int) ≤ (k : Int) - 1 := by omega
    have HZ2 : Hid (zs = dg N) := Lib.hid (by rw [HZ.out, h0, List.drop_zero, HE.out])
    have HT1 : Hid (Touch [] w wr) := Lib.hid (HT0.out.step ht (fun q hq => .inr (by rw [List.mem_singleton] at hq; omega)))
    have HD : Hid (Dgs wr (.slice Az zs.length cz) (dg N)) := Lib.hid (by
     have := hr.dgs (by rw [HZ2.out]; exact dg_below N)
     rwa [HZ2.out] at this ⊢)
    have bw := HB0.out.touch ht (by simp; omega)
    have q0 := bw.cell 0
    have q1 := bw.cell 1
    have q2 := bw.frozen 0
    have q3 := bw.frozen 1
    have r0 := hb5.cell 0
    have r1 := hb5.cell 1
    simp at q0 q1 r0 r1
    have HBW := Lib.hid bw
    clear bw h0 hr ht hb5
    go_wp2_with fail
    obtain ⟨k, k1, k2⟩ := int_res' (N := N) (decide (0 < ys.length)) HBW.out (Nat.le_refl _) HT1.out HD.out _ rfl
    refine bodyPost_ret (v := .agg #[.bool (decide (0 < ys.length)), .slice Az zs.length cz]) (by simp [results, Tryz.results88, go_sem, k.1, k.2]) rfl ⟨_, rfl, by rw [HS.out]; exact k1, k2⟩
   obtain ⟨m, hm⟩ : ∃ m, k = m + 1 := ⟨k - 1, by omega⟩
   subst hm
   have e1 : ((m + 1 : Nat) : Int) - 1 = (m : Int) := by omega
   rw [e1]
   have hx : m < ys.length := by omega
   obtain ⟨b, off, rfl, hb⟩ := HW.out.addr hx
   have HN : Hid (zs ++ [ys[m]] = (ys.drop m).reverse) := Lib.hid (by rw [HZ.out, List.drop_eq_getElem_cons hx, List.reverse_cons])
   have HZL : Hid (zs.length = ys.length - (m + 1)) := Lib.hid (by rw [HZ.out]; simp)
   have hzl2 : zs.length ≤ 99999 := by have := HZL.out; omega
   have hbg : b ≠ g5 := by omega
   have hx2 : ys[m] < 256 := HBE.out _ (List.getElem_mem hx)
   have c0 := Dgs.at_ (HW.out.touch ht (fun g' hg' hm => by rw [List.mem_singleton] at hm; have := HW.out.lt g' hg'; omega)) hx
   have c1 := hb5.cell 1
   have c2 := hb5.frozen 1
   simp at c1
   generalize ys[m] = x at *
   have hown : Own (wr.alloc (.cells #[.int .u8 (x : Int)] 5)).drew 5 1 (.slice Az zs.length cz) zs.length (zs.map u8v) := World.ownsRow.alloc hr _
   have hnew : B8 (wr.alloc (.cells #[.int .u8 (x : Int)] 5)).drew wr.heap.size [x] := by
    have := Blk.new wr 5 #[Value.int .u8 (x : Int)]
    have h2 : B8 (wr.alloc (.cells #[.int .u8 (x : Int)] 5)) wr.heap.size [x] := by simpa [B8, u8v] using this
    exact h2
   have hrd : Reads (wr.alloc (.cells #[.int .u8 (x : Int)] 5)).drew 1 (.slice (some ⟨wr.heap.size, 0, none⟩) 1 1) 1 [.int .u8 (x : Int)] := by
    have := (hnew.dgs (fun y hy => by simp at hy; omega) (by simp [maxLen]) rfl).1
    simpa [W8] using this
   have hne : g5 ∉ blk (.slice Az zs.length cz) := Own.ne_blk hr hb5 (of_decide_eq_true (by kernel_rfl))
   have hb5' : Blk (wr.alloc (.cells #[.int .u8 (x : Int)] 5)).drew g5 32 #[.bool (decide (0 < ys.length)), .slice Az zs.length cz] := hb5.alloc (.cells #[.int .u8 (x : Int)] 5)
   have HB5 := Lib.hid hb5'
   have d1 := hb5'.cell 1
   have d0 : (wr.alloc (.cells #[.int .u8 (x : Int)] 5)).drew.cell? ⟨b, off + m, none⟩ = some (.int .u8 (x : Int)) := (Touch.cell ((Touch.refl [] wr).alloc (.cells #[.int .u8 (x : Int)] 5)) (p := ⟨b, off + m, none⟩) (Nat.lt_of_lt_of_le hb ht.size) (by simp)).trans c0
   simp only [List.getElem?_toArray, List.getElem?_cons_succ, List.getElem?_cons_zero] at d1
   have HR5 := Lib.hid hr
   have HT5 : Hid (Touch [g5] w0 (wr.alloc (.cells #[.int .u8 (x : Int)] 5)).drew) := Lib.hid ((ht.alloc _).drew)
   clear h0 hr hb5 hb5' ht hnew
   go_wp2_with fail
   go_region_law ((refine step_app_reads elem_b8 hown hrd (by simp [Value.oneCell']) (by omega) (by unfold maxLen; omega) ?_; intro v3 w3 ho3 ht3 hf3; have hb6 := HB5.out.touch ht3 hne; have j0 := hb6.cell 1; have j1 := hb6.frozen 1; simp at j0; obtain ⟨A3, c3, e3⟩ := Own.form ho3; subst e3))
   all_goals
    have HO3 := Lib.hid ho3
    have HT3 := Lib.hid ht3
    have HF3 := Lib.hid hf3
    have HB6 := Lib.hid hb6
    have HNE := Lib.hid hne
    clear ho3 ht3 hf3 hb6 hown hrd hne
    go_wp2_with fail
    go_roundw
    case rel =>
     have hb7 := HB6.out.set_ 1 (.slice A3 (zs.length + 1) c3)
     have kt : Touch [g5] w3 (w3.setCell ⟨g5, 1, none⟩ (.slice A3 (zs.length + 1) c3)) := (Touch.refl _ _).setCell (p := ⟨g5, 1, none⟩) (.inl (by simp)) _
     have hgl := HB5.out.lt
     have hn3 : ∀ q ∈ blk (.slice A3 (zs.length + 1) c3), q ∉ [g5] := fun q hq hm => by
      rw [List.mem_singleton] at hm
      subst hm
      rcases HF3.out _ hq with h | h
      ·exact HNE.out h
      ·omega
     refine ⟨m, zs ++ [x], A3, c3, by omega, rfl, ?_, by simp; omega, ?_, (HT5.out.step HT3.out (fun q hq => .inr (HF.out q hq))).trans kt, Lib.hid (fun q hq => ?_), HN⟩
     ·rw [List.length_append, List.length_singleton]
      exact (Row8.snoc (Own.touch HO3.out kt hn3))
     ·rw [List.length_append, List.length_singleton]
      simpa using hb7
     ·rw [List.length_append, List.length_singleton] at hq
      rcases HF3.out _ hq with h | h
      ·exact HF.out _ h
      ·exact Nat.le_trans HT5.out.size h
    case measure => simp [intOf]
end Go.Proofs.YtedpaajpfaoffaaGreatDoor
namespace Go.Proofs.YtedpaajpfaoffaaGreatDoor
open Go.RowKit
end Go.Proofs.YtedpaajpfaoffaaGreatDoor
namespace Go.Proofs.YtedpaajpfaoffaaGreatDoor
open Go.RowKit
theorem rOf1_any (w : World) : Calls Tryz.prog 35 #[.int .i64 1] w fun r w' => ∃ x, r = .returned x ∧ IntAt w' false 1 x ∧ Touch [] w w' := by
 have b0 : Blk (w.alloc (.cells #[.bool false, .slice none 0 0] 32)) w.heap.size 32 #[.bool false, .slice none 0 0] := Blk.new _ _ _
 have ht0 : Touch [] w (w.alloc (.cells #[.bool false, .slice none 0 0] 32)) := (Touch.refl _ _).alloc _
 go_enter Tryz.func35, Tryz.ntmps35
 go_wp2_with fail
 generalize (w.alloc (.cells #[.bool false, .slice none 0 0] 32)) = w0 at *
 have HB0 := Lib.hid b0
 have HT0 := Lib.hid ht0
 clear b0 ht0
 go_loopw [3, 4] (fun to tm wr => (to = .slice none 0 0 ∧ tm = .int .i64 1 ∧ wr = w0) ∨ (tm = .int .i64 0 ∧ Row8 wr to [1] ∧ Touch [] w0 wr)) (fun _ tm _ => (intOf tm).toNat)
 case atStart => exact .inl ⟨rfl, rfl, rfl⟩
 case round =>
  rcases hrel with ⟨rfl, rfl, rfl⟩ | ⟨rfl, hr, ht⟩
  ·go_wp2_with (at_builtin; go_must (refine app_new elem_rnat (Own.nil _ _ 1) [_] 1 1 (by omega) (by unfold maxLen; omega) ?_); intro v1 w1 ho1 hg1 hf1)
   go_roundw
   case rel => exact .inr ⟨rfl, by simpa [Row8, u8v] using ho1, hg1⟩
   case measure => simp [intOf]
  ·have HD := Lib.hid (hr.dgs (fun x hx => by simp at hx; omega))
   have HM := Lib.hid (rmake_w false _ [1] 1 wr HD.out (by simp [nv]) (by simp))
   obtain ⟨A1, c1, rfl⟩ := hr.form
   clear hr
   simp only [List.length_singleton] at HM ⊢
   go_wp2_with fail
   with_reducible refine HM.out.mono ?_
   rintro r w2 ⟨x, rfl, ⟨A3, m3, c3, rfl, hd3⟩, ht2⟩
   dsimp only
   have ht3 := ht.then0 ht2
   have b1 := HB0.out.touch ht3 (by simp)
   have q0 := b1.cell 0
   have q1 := b1.cell 1
   have q2 := b1.frozen 0
   have q3 := b1.frozen 1
   simp at q0 q1
   have HB1 := Lib.hid b1
   have HD3 := Lib.hid hd3
   clear b1 ht2 hd3
   go_wp2_with fail
   obtain ⟨k, k1, k2⟩ := int_res' (sg false 1) HB1.out (Nat.le_refl _) (HT0.out.then0 ht3) HD3.out _ rfl
   refine bodyPost_ret (v := .agg #[.bool (sg false 1), .slice A3 m3 c3]) (by simp [results, Tryz.results35, go_sem, k.1, k.2]) rfl ⟨_, rfl, by simpa [sg] using k1, k2⟩
end Go.Proofs.YtedpaajpfaoffaaGreatDoor
