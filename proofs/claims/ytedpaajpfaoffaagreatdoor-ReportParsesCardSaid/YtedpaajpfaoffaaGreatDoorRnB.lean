/- The document's numbers: Split. -/
import Derived.Test.YtedpaajpfaoffaaGreatDoorRnA
import Derived.Laws.BitsAllLaws
import Derived.StillTailTactics
import Derived.Deep.LoopGhost
set_option linter.all false
set_option maxHeartbeats 4000000
set_option maxRecDepth 100000
namespace Go.Proofs.YtedpaajpfaoffaaGreatDoor
open Go.RowKit
def SplitRel (w : World) (g A B : Nat) (M : Nat) (tr ti : Value) (wr : World) : Prop := ∃ (k R : Nat) (qs : List Nat), k ≤ 8 * M ∧ ti = .int .i64 ((k : Int) - 1) ∧ qs.length = M ∧ B8 wr g qs ∧ Touch [] w wr ∧ Hid (Dgs wr tr (wordsOf 256 R) ∧ ∀ q ∈ rb tr, q ≠ g) ∧ Hid (BitsOf k A B qs R)
theorem rsplit_w (v u : Value) (A B : Nat) (xs : List Nat) (w : World) (hv : Dgs w v xs) (HXS : Hid (xs = wordsOf 256 A)) (hu : Dgs w u (wordsOf 256 B)) (hl : xs.length ≤ 10000) (hB : (wordsOf 256 B).length ≤ 10000) (hB0 : 0 < B) :
  Calls Tryz.prog 87 #[v, u] w fun r w' => ∃ q r', r = .returned (.tuple #[q, r']) ∧ Dgs w' q (wordsOf 256 (A / B)) ∧ Dgs w' r' (wordsOf 256 (A % B)) ∧ Touch [] w w' := by
 have HV := Lib.hid hv
 have HU := Lib.hid hu
 have HBL := Lib.hid (And.intro hB hB0)
 obtain ⟨Av, cv, rfl⟩ := hv.form
 obtain ⟨Au, nu, cu, rfl⟩ := hu.form3
 obtain ⟨hc1, hc2⟩ := hv.cap
 have hmk := make_bytes elem_rnat xs.length (by omega)
 have hst : SplitRel w w.heap.size A B xs.length (.slice none 0 0) (.int .i64 ((xs.length : Int) * 8 - 1)) (w.alloc (.cells (((List.replicate xs.length (0 : Nat)).map u8v).toArray) 5)) := by
  refine ⟨8 * xs.length, 0, _, by omega, by rw [show ((8 * xs.length : Nat) : Int) = (xs.length : Int) * 8 by omega], by simp, B8.new _ _, (Touch.refl _ _).alloc _, Lib.hid ⟨Dgs.nil _, fun q hq => by simp [rb] at hq⟩, Lib.hid (bits_new ?_ hB0)⟩
  have := lt_pow_of_len two256 (N := A) (Nat.le_refl _)
  rw [← HXS.out, show (256 : Nat) = 2 ^ 8 from rfl, ← Nat.pow_mul] at this
  exact this
 generalize (((List.replicate xs.length (0 : Nat)).map u8v).toArray) = cs at *
 clear hv hu hB hB0
 go_enter Tryz.func87, Tryz.ntmps87
 go_wp2_with fail
 go_loopw [7, 8] (fun tr ti wr => SplitRel w w.heap.size A B xs.length tr ti wr) (fun _ ti _ => (intOf ti + 1).toNat)
 case atStart => exact hst
 case round =>
  clear hst
  obtain ⟨k, R, qs, hk, rfl, hql, hq, ht, HR, HS⟩ := hrel
  have HRL : Hid (R < B) := Lib.hid HS.out.2.1
  have hwl : ∀ n, n < 2 * B → (wordsOf 256 n).length ≤ 10001 := fun n hn => by
   obtain ⟨K, hK⟩ : ∃ K, K = 10000 := ⟨_, rfl⟩
   have h0 := HBL.out.1
   rw [← hK] at h0
   have h1 := lt_pow_of_len two256 (N := B) (k := K) h0
   have h2 : (wordsOf 256 n).length ≤ K + 1 := by
    rw [len_le two256, Nat.pow_succ]
    omega
   omega
  obtain ⟨Ar, nr, cr, rfl⟩ := HR.out.1.form3
  rcases Nat.eq_zero_or_pos k with h0 | h0
  ·have h1 : ¬ (0 : Int) ≤ (k : Int) - 1 := by omega
   obtain ⟨e1, e2⟩ := bits_done (h0 ▸ HS.out)
   have HT := Lib.hid (rtrim_any (.slice (some ⟨w.heap.size, 0, none⟩) xs.length xs.length) qs _ (hq.dgs HS.out.2.2 (by rw [hql]; unfold maxLen; omega) hql.symm))
   rw [e1] at HT
   have E2 := Lib.hid e2
   clear HS hq e1 e2 hql hwl
   go_wp2_with fail
   with_reducible refine HT.out.mono ?_
   rintro r' w' ⟨v', rfl, hw, hr, rfl⟩
   dsimp only
   go_wp2_with fail
   go_ret2
   exact ⟨_, _, rfl, hw, by rw [← E2.out]; exact HR.out.1, ht⟩
  obtain ⟨m, hm⟩ : ∃ m, k = m + 1 := ⟨k - 1, by omega⟩
  subst hm
  have e1 : ((m + 1 : Nat) : Int) - 1 = (m : Int) := by omega
  rw [e1]
  have HP1 := Lib.hid (rplus_any _ _ R R wr HR.out.1 HR.out.1 (by have := hwl R (by have := HRL.out; omega); omega) (by have := hwl R (by have := HRL.out; omega); omega))
  have hm8 : m / 8 < xs.length := by omega
  obtain ⟨b, off, rfl, hb⟩ := HV.out.addr hm8
  have c0 := Dgs.at_ (HV.out.touch0 ht) hm8
  have bx := HV.out.below _ (List.getElem_mem hm8)
  have HBT : Hid (xs[m / 8] / 2 ^ (m % 8) % 2 = A / 2 ^ m % 2) := Lib.hid (by
   have h := bit_of (A := A) (i := m) (by rw [← HXS.out]; exact hm8)
   simp only [← HXS.out] at h
   exact h)
  generalize xs[m / 8] = x at *
  obtain ⟨s, hs⟩ : ∃ s, s = m % 8 := ⟨_, rfl⟩
  obtain ⟨j, hj⟩ : ∃ j, j = m / 8 := ⟨_, rfl⟩
  rw [← hs] at HBT
  rw [← hj] at c0 hm8
  have e2 : (m : Int) / 8 = (j : Int) := by omega
  have e3 : (m : Int) % 8 = (s : Int) := by omega
  have hs8 : s < 8 := by omega
  have hxs : x / 2 ^ s < 256 := Nat.lt_of_le_of_lt (Nat.div_le_self _ _) bx
  have hand := u8_and_nat (x / 2 ^ s) 1 hxs (by omega)
  rw [Nat.and_one_is_mod] at hand
  have hcast : ((x / 2 ^ s : Nat) : Int) = (x : Int) / 2 ^ s := by rw [Int.natCast_ediv, Int.natCast_pow]; rfl
  rw [hcast] at hand
  have hand2 : bits .and .u8 ((x : Int) / 2 ^ s) 1 = ((x / 2 ^ s % 2 : Nat) : Int) := hand
  clear hand
  have HCB : Hid (((x / 2 ^ s % 2 : Nat) : Int) = (x : Int) / 2 ^ s % 2) := Lib.hid (by rw [Int.natCast_emod, hcast]; rfl)
  clear hcast
  have HQ := Lib.hid hq
  have HQL := Lib.hid hql
  have HT := Lib.hid ht
  clear hq hql ht hs hj h0
  go_wp2_with fail
  with_reducible refine HP1.out.mono ?_
  rintro r w1 ⟨v1, rfl, hv1, ht1, hf1⟩
  dsimp only
  have hbw : b < wr.heap.size := Nat.lt_of_lt_of_le hb HT.out.size
  have c1 := (ht1.cell (p := ⟨b, off + j, none⟩) hbw (by simp)).trans c0
  have HV1 := Lib.hid hv1
  have HF1 : Hid (∀ q ∈ rb v1, q ≠ w.heap.size) := Lib.hid (fun q hq => by have h1 := hf1 q hq; have h2 := HQ.out.lt; omega)
  obtain ⟨A1, n1, c1v, rfl⟩ := hv1.form3
  have HT1 := Lib.hid ht1
  have HST := Lib.hid (fun R2 (e : R2 = 2 * R + A / 2 ^ m % 2) => bits_step HS.out e)
  clear hv1 ht1 hf1 c0
  by_cases hbit : x / 2 ^ s % 2 = 1
  ·have hb1 : ((x : Int) / 2 ^ s % 2 == 1) = true := by rw [← HCB.out, hbit]; rfl
   have HR2 : Hid (R + R + 1 = 2 * R + A / 2 ^ m % 2) := Lib.hid (by rw [← HBT.out, hbit]; omega)
   have hone : B8 (w1.alloc (.cells #[.int .u8 1] 5)) w1.heap.size [1] := by
    have := Blk.new w1 5 #[Value.int .u8 1]
    simpa [B8, u8v] using this
   have hone2 : Dgs (w1.alloc (.cells #[.int .u8 1] 5)) (.slice (some ⟨w1.heap.size, 0, none⟩) 1 1) (wordsOf 256 1) := hone.dgs (fun y hy => by simp at hy; omega) (by simp [maxLen]) rfl
   have HP2 := Lib.hid (rplus_any _ _ (R + R) 1 _ (HV1.out.touch0 ((Touch.refl _ _).alloc _)) hone2 (by have := hwl (R + R) (by have := HRL.out; omega); omega) (by have : (wordsOf 256 1).length = 1 := rfl; omega))
   have hta : Touch [] wr (w1.alloc (.cells #[.int .u8 1] 5)) := HT1.out.alloc _
   clear hone hone2 hbit
   go_wp2_with fail
   generalize (w1.alloc (.cells #[.int .u8 1] 5)) = w1a at *
   with_reducible refine HP2.out.mono ?_
   rintro r w2 ⟨v2, rfl, hv2, ht2, hf2⟩
   dsimp only
   have HT2 := Lib.hid (hta.then0 ht2)
   have HF2 : Hid (∀ q ∈ rb v2, q ≠ w.heap.size) := Lib.hid (fun q hq => by have h1 := hf2 q hq; have h2 := HQ.out.lt; have h3 := hta.size; omega)
   have HV2 := Lib.hid hv2
   obtain ⟨A2, n2, c2v, rfl⟩ := hv2.form3
   clear hv2 ht2 hf2 hta c1
   have HBS := Lib.hid (HST.out _ HR2.out)
   have hr2 : R + R + 1 < 2 * B := by have := HR2.out; have := HBS.out.1; have := HRL.out; omega
   have hwl2 := hwl _ hr2
   have HO := Lib.hid (rorder_any (.slice A2 n2 c2v) (.slice Au nu cu) (R + R + 1) B w2 HV2.out (HU.out.touch0 (HT.out.then0 HT2.out)))
   by_cases hge : B ≤ R + R + 1
   ·have hcm := cmp_ge hge
    have HMI := Lib.hid (fun W (t : Touch [] w2 W) => rminus_any (.slice A2 n2 c2v) (.slice Au nu cu) (R + R + 1) B W (HV2.out.touch0 t) (HU.out.touch0 ((HT.out.then0 HT2.out).then0 t)) (by omega) hge)
    have HBG := Lib.hid (HBS.out.2.2 hge)
    generalize cmpI (R + R + 1) B = cm at *
    clear hge hwl hwl2 hr2
    go_wp2_with fail
    with_reducible refine HO.out.mono ?_
    rintro r w3 ⟨rfl, ht3⟩
    dsimp only
    go_wp2_with fail
    with_reducible refine (HMI.out w3 ht3).mono ?_
    rintro r w4 ⟨v4, rfl, hv4, ht4, hf4⟩
    dsimp only
    have HT4 := Lib.hid ((HT2.out.then0 ht3).then0 ht4)
    have HF4 : Hid (∀ q ∈ rb v4, q ≠ w.heap.size) := Lib.hid (fun q hq => by have h1 := hf4 q hq; have h2 := HQ.out.lt; have h3 := HT2.out.size; have h4 := ht3.size; omega)
    have HV4 := Lib.hid hv4
    obtain ⟨A4, n4, c4v, rfl⟩ := hv4.form3
    have hq4 := HQ.out.touch HT4.out (by simp)
    have hjq : j < qs.length := by have := HQL.out; omega
    have hj8 : m / 8 < qs.length := by omega
    have HJ : Hid (m / 8 = j ∧ m % 8 = s) := Lib.hid ⟨by omega, by omega⟩
    have HB3 := Lib.hid (HBG.out hj8)
    have cz := hq4.at_ hjq
    have fz := hq4.frozen j
    have HQ4 := Lib.hid hq4
    have HZ : Hid (∀ z, z = qs[j] → (z ||| 2 ^ s = z + 2 ^ s ∧ z + 2 ^ s < 256 ∧ BitsOf m A B (qs.set j (z + 2 ^ s)) (R + R + 1 - B))) := Lib.hid (fun z hz => by
     have h := HB3.out
     subst hz
     simp only [HJ.out.1, HJ.out.2] at h
     exact h)
    have HZ2 := Lib.hid (HZ.out _ rfl)
    generalize qs[j] = z at *
    have hor : bits .or .u8 (z : Int) ((2 ^ s : Nat) : Int) = ((z + 2 ^ s : Nat) : Int) := by
     rw [u8_or_nat z (2 ^ s) (Nat.lt_of_le_of_lt (Nat.le_add_right z (2 ^ s)) HZ2.out.2.1) (Nat.lt_of_le_of_lt (Nat.le_add_left (2 ^ s) z) HZ2.out.2.1), HZ2.out.1]
    have hsl : IntKind.u8.wrap ((2 : Int) ^ s) = ((2 ^ s : Nat) : Int) := by
     have h1 := Nat.lt_of_le_of_lt (Nat.le_add_left (2 ^ s) z) HZ2.out.2.1
     rw [show ((2 : Int) ^ s) = ((2 ^ s : Nat) : Int) by rw [Int.natCast_pow]; rfl]
     generalize 2 ^ s = pw at h1
     show ((pw : Nat) : Int) % 256 = _
     omega
    have HOR := Lib.hid hor
    have HSL := Lib.hid hsl
    clear hv4 ht3 ht4 hf4 hq4 hor hsl hjq
    go_wp2_with fail
    have t2 : (m : Int).tdiv 8 = (j : Int) := by rw [← e2]; exact Int.tdiv_eq_ediv_of_nonneg (by omega)
    have t3 : (m : Int).tmod 8 = (s : Int) := by rw [← e3]; exact Int.tmod_eq_emod_of_nonneg (by omega)
    have t5 : (0 : Int) ≤ (j : Int) := by omega
    have t6 : (j : Int) < (xs.length : Int) := by omega
    have t7 : (0 : Int) ≤ (s : Int) := by omega
    have t8 : (s : Int) < 8 := by omega
    have t9 : IntKind.i64.wrap (j : Int) = (j : Int) := IntWalk.i64_in _ (by omega)
    have t11 : IntKind.i64.wrap (s : Int) = (s : Int) := IntWalk.i64_in _ (by omega)
    go_still_tail 13, (by kernel_rfl)
    change wpList _ _ _ _ _ w4.drew
    clear t9 t11
    have cz' : w4.drew.cell? ⟨w.heap.size, j, none⟩ = some (.int .u8 z) := cz
    have fz' : w4.drew.frozen? ⟨w.heap.size, j, none⟩ = false := fz
    have htd : Touch [] w w4.drew := (HT.out.then0 HT4.out).drew
    have HWD : Hid (∀ v : Nat, B8 (w4.drew.setCell ⟨w.heap.size, j, none⟩ (.int .u8 (v : Int))) w.heap.size (qs.set j v)) := Lib.hid (fun v => B8.set (show B8 w4.drew w.heap.size qs from HQ4.out) j v)
    have HVD : Hid (Dgs w4.drew (.slice A4 n4 c4v) (wordsOf 256 (R + R + 1 - B))) := Lib.hid (HV4.out.touch0 ((Touch.refl [] w4).drew))
    rw [HSL.out, HOR.out]
    generalize hWd : w4.drew = wd at *
    clear cz fz HB3 hj8
    go_wp2_with fail
    go_roundw
    case rel =>
     have kt : Touch [w.heap.size] wd (wd.setCell ⟨w.heap.size, j, none⟩ (.int .u8 ((z + 2 ^ s : Nat) : Int))) := (Touch.refl _ _).setCell (p := ⟨w.heap.size, j, none⟩) (.inl (by simp)) _
     exact ⟨m, R + R + 1 - B, qs.set j (z + 2 ^ s), by omega, by go_num, by rw [List.length_set]; exact HQL.out, HWD.out _, htd.setCell (p := ⟨w.heap.size, j, none⟩) (.inr (Nat.le_refl _)) _, Lib.hid ⟨HVD.out.touch kt (fun q hq hm => HF4.out q hq (by simpa using hm)), HF4.out⟩, Lib.hid HZ2.out.2.2⟩
    case measure => simp [intOf]
   ·have hcm : ¬ (0 : Int) ≤ cmpI (R + R + 1) B := by rw [cmp_lt (by omega)]; decide
    have HBG := Lib.hid (HBS.out.2.1 (by omega))
    generalize cmpI (R + R + 1) B = cm at *
    clear hge hwl hwl2 hr2
    go_wp2_with fail
    with_reducible refine HO.out.mono ?_
    rintro r w3 ⟨rfl, ht3⟩
    dsimp only
    have HT3 := Lib.hid (HT2.out.then0 ht3)
    have HV3 := Lib.hid (HV2.out.touch0 ht3)
    clear ht3
    go_wp2_with fail
    go_roundw
    case rel => exact ⟨m, R + R + 1, qs, by omega, by first | go_num | rfl, HQL.out, HQ.out.touch HT3.out (by simp), HT.out.then0 HT3.out, Lib.hid ⟨HV3.out, HF2.out⟩, HBG⟩
    case measure => simp [intOf]
  ·have hb1 : ((x : Int) / 2 ^ s % 2 == 1) = false := by rw [← HCB.out, beq_eq_false_iff_ne]; omega
   have HR2 : Hid (R + R = 2 * R + A / 2 ^ m % 2) := Lib.hid (by rw [← HBT.out]; have := Nat.mod_lt (x / 2 ^ s) (show 2 > 0 by omega); omega)
   clear hbit
   have HBS := Lib.hid (HST.out _ HR2.out)
   have hr2 : R + R < 2 * B := by have := HR2.out; have := HBS.out.1; have := HRL.out; omega
   have hwl2 := hwl _ hr2
   have HO := Lib.hid (rorder_any (.slice A1 n1 c1v) (.slice Au nu cu) (R + R) B w1 HV1.out (HU.out.touch0 (HT.out.then0 HT1.out)))
   by_cases hge : B ≤ R + R
   ·have hcm := cmp_ge hge
    have HMI := Lib.hid (fun W (t : Touch [] w1 W) => rminus_any (.slice A1 n1 c1v) (.slice Au nu cu) (R + R) B W (HV1.out.touch0 t) (HU.out.touch0 ((HT.out.then0 HT1.out).then0 t)) (by omega) hge)
    have HBG := Lib.hid (HBS.out.2.2 hge)
    generalize cmpI (R + R) B = cm at *
    clear hge hwl hwl2 hr2
    go_wp2_with fail
    with_reducible refine HO.out.mono ?_
    rintro r w3 ⟨rfl, ht3⟩
    dsimp only
    go_wp2_with fail
    with_reducible refine (HMI.out w3 ht3).mono ?_
    rintro r w4 ⟨v4, rfl, hv4, ht4, hf4⟩
    dsimp only
    have HT4 := Lib.hid ((HT1.out.then0 ht3).then0 ht4)
    have HF4 : Hid (∀ q ∈ rb v4, q ≠ w.heap.size) := Lib.hid (fun q hq => by have h1 := hf4 q hq; have h2 := HQ.out.lt; have h3 := HT1.out.size; have h4 := ht3.size; omega)
    have HV4 := Lib.hid hv4
    obtain ⟨A4, n4, c4v, rfl⟩ := hv4.form3
    have hq4 := HQ.out.touch HT4.out (by simp)
    have hjq : j < qs.length := by have := HQL.out; omega
    have hj8 : m / 8 < qs.length := by omega
    have HJ : Hid (m / 8 = j ∧ m % 8 = s) := Lib.hid ⟨by omega, by omega⟩
    have HB3 := Lib.hid (HBG.out hj8)
    have cz := hq4.at_ hjq
    have fz := hq4.frozen j
    have HQ4 := Lib.hid hq4
    have HZ : Hid (∀ z, z = qs[j] → (z ||| 2 ^ s = z + 2 ^ s ∧ z + 2 ^ s < 256 ∧ BitsOf m A B (qs.set j (z + 2 ^ s)) (R + R - B))) := Lib.hid (fun z hz => by
     have h := HB3.out
     subst hz
     simp only [HJ.out.1, HJ.out.2] at h
     exact h)
    have HZ2 := Lib.hid (HZ.out _ rfl)
    generalize qs[j] = z at *
    have hor : bits .or .u8 (z : Int) ((2 ^ s : Nat) : Int) = ((z + 2 ^ s : Nat) : Int) := by
     rw [u8_or_nat z (2 ^ s) (Nat.lt_of_le_of_lt (Nat.le_add_right z (2 ^ s)) HZ2.out.2.1) (Nat.lt_of_le_of_lt (Nat.le_add_left (2 ^ s) z) HZ2.out.2.1), HZ2.out.1]
    have hsl : IntKind.u8.wrap ((2 : Int) ^ s) = ((2 ^ s : Nat) : Int) := by
     have h1 := Nat.lt_of_le_of_lt (Nat.le_add_left (2 ^ s) z) HZ2.out.2.1
     rw [show ((2 : Int) ^ s) = ((2 ^ s : Nat) : Int) by rw [Int.natCast_pow]; rfl]
     generalize 2 ^ s = pw at h1
     show ((pw : Nat) : Int) % 256 = _
     omega
    have HOR := Lib.hid hor
    have HSL := Lib.hid hsl
    clear hv4 ht3 ht4 hf4 hq4 hor hsl hjq
    go_wp2_with fail
    have t2 : (m : Int).tdiv 8 = (j : Int) := by rw [← e2]; exact Int.tdiv_eq_ediv_of_nonneg (by omega)
    have t3 : (m : Int).tmod 8 = (s : Int) := by rw [← e3]; exact Int.tmod_eq_emod_of_nonneg (by omega)
    have t5 : (0 : Int) ≤ (j : Int) := by omega
    have t6 : (j : Int) < (xs.length : Int) := by omega
    have t7 : (0 : Int) ≤ (s : Int) := by omega
    have t8 : (s : Int) < 8 := by omega
    have t9 : IntKind.i64.wrap (j : Int) = (j : Int) := IntWalk.i64_in _ (by omega)
    have t11 : IntKind.i64.wrap (s : Int) = (s : Int) := IntWalk.i64_in _ (by omega)
    go_still_tail 13, (by kernel_rfl)
    change wpList _ _ _ _ _ w4.drew
    clear t9 t11
    have cz' : w4.drew.cell? ⟨w.heap.size, j, none⟩ = some (.int .u8 z) := cz
    have fz' : w4.drew.frozen? ⟨w.heap.size, j, none⟩ = false := fz
    have htd : Touch [] w w4.drew := (HT.out.then0 HT4.out).drew
    have HWD : Hid (∀ v : Nat, B8 (w4.drew.setCell ⟨w.heap.size, j, none⟩ (.int .u8 (v : Int))) w.heap.size (qs.set j v)) := Lib.hid (fun v => B8.set (show B8 w4.drew w.heap.size qs from HQ4.out) j v)
    have HVD : Hid (Dgs w4.drew (.slice A4 n4 c4v) (wordsOf 256 (R + R - B))) := Lib.hid (HV4.out.touch0 ((Touch.refl [] w4).drew))
    rw [HSL.out, HOR.out]
    generalize hWd : w4.drew = wd at *
    clear cz fz HB3 hj8
    go_wp2_with fail
    go_roundw
    case rel =>
     have kt : Touch [w.heap.size] wd (wd.setCell ⟨w.heap.size, j, none⟩ (.int .u8 ((z + 2 ^ s : Nat) : Int))) := (Touch.refl _ _).setCell (p := ⟨w.heap.size, j, none⟩) (.inl (by simp)) _
     exact ⟨m, R + R - B, qs.set j (z + 2 ^ s), by omega, by go_num, by rw [List.length_set]; exact HQL.out, HWD.out _, htd.setCell (p := ⟨w.heap.size, j, none⟩) (.inr (Nat.le_refl _)) _, Lib.hid ⟨HVD.out.touch kt (fun q hq hm => HF4.out q hq (by simpa using hm)), HF4.out⟩, Lib.hid HZ2.out.2.2⟩
    case measure => simp [intOf]
   ·have hcm : ¬ (0 : Int) ≤ cmpI (R + R) B := by rw [cmp_lt (by omega)]; decide
    have HBG := Lib.hid (HBS.out.2.1 (by omega))
    generalize cmpI (R + R) B = cm at *
    clear hge hwl hwl2 hr2
    go_wp2_with fail
    with_reducible refine HO.out.mono ?_
    rintro r w3 ⟨rfl, ht3⟩
    dsimp only
    have HT3 := Lib.hid (HT1.out.then0 ht3)
    have HV3 := Lib.hid (HV1.out.touch0 ht3)
    clear ht3
    go_wp2_with fail
    go_roundw
    case rel => exact ⟨m, R + R, qs, by omega, by first | go_num | rfl, HQL.out, HQ.out.touch HT3.out (by simp), HT.out.then0 HT3.out, Lib.hid ⟨HV3.out, HF1.out⟩, HBG⟩
    case measure => simp [intOf]
theorem rsplit_any (v u : Value) (A B : Nat) (w : World) (hv : Dgs w v (wordsOf 256 A)) (hu : Dgs w u (wordsOf 256 B)) (hl : (wordsOf 256 A).length ≤ 10000) (hB : (wordsOf 256 B).length ≤ 10000) (hB0 : 0 < B) :
  Calls Tryz.prog 87 #[v, u] w fun r w' => ∃ q r', r = .returned (.tuple #[q, r']) ∧ Dgs w' q (wordsOf 256 (A / B)) ∧ Dgs w' r' (wordsOf 256 (A % B)) ∧ Touch [] w w' := rsplit_w v u A B _ w hv (Lib.hid rfl) hu hl hB hB0
end Go.Proofs.YtedpaajpfaoffaaGreatDoor
namespace Go.Proofs.YtedpaajpfaoffaaGreatDoor
open Go.RowKit
theorem len_w8 {A : Nat} (h : A < Top) : (wordsOf 256 A).length ≤ 10000 := by
 have h := len_dg h
 unfold dg at h
 rw [List.length_reverse] at h
 omega
theorem rabs_top (n : Bool) (d : Value) (A : Nat) (w : World) (h : Dgs w d (dg A)) (hA : A < Top) : Calls Tryz.prog 86 #[.agg #[.bool n, d]] w fun r w' => ∃ v, r = .returned v ∧ Dgs w' v (wordsOf 256 A) ∧ Touch [] w w' := rabs_any n d A w h (by have := len_dg hA; omega)
def ComRel (w : World) (A B : Nat) (k : Nat) (tx ty : Value) (wr : World) : Prop := ∃ (a b : Nat) (A1 A2 : Option Addr) (n1 c1 n2 c2 : Nat), k = b ∧ tx = .slice A1 n1 c1 ∧ ty = .slice A2 n2 c2 ∧ n2 = (wordsOf 256 b).length ∧ Hid (Dgs wr (.slice A1 n1 c1) (wordsOf 256 a)) ∧ Hid (Dgs wr (.slice A2 n2 c2) (wordsOf 256 b)) ∧ Hid (Nat.gcd a b = Nat.gcd A B ∧ a < Top ∧ b < Top) ∧ Touch [] w wr
theorem rCommon_any (n1 n2 : Bool) (d1 d2 : Value) (A B : Nat) (w : World) (h1 : Dgs w d1 (dg A)) (h2 : Dgs w d2 (dg B)) (hA : A < Top) (hB : B < Top) :
  Calls Tryz.prog 34 #[.agg #[.bool n1, d1], .agg #[.bool n2, d2]] w fun r w' => ∃ x, r = .returned x ∧ IntAt w' false (Nat.gcd A B) x ∧ Touch [] w w' := by
 have HN1 := Lib.hid (fun W (t : Touch [] w W) => rabs_top n1 d1 A W (h1.touch0 t) hA)
 have HN2 := Lib.hid (fun W (t : Touch [] w W) => rabs_top n2 d2 B W (h2.touch0 t) hB)
 have HAB := Lib.hid (And.intro hA hB)
 obtain ⟨A1, m1, c1, rfl⟩ := h1.form3
 obtain ⟨A2, m2, c2, rfl⟩ := h2.form3
 obtain ⟨ht0, hcc⟩ := box2r w n1 n2 (.slice A1 m1 c1) (.slice A2 m2 c2)
 unfold W2I at ht0 hcc
 have HC := Lib.hid hcc
 clear h1 h2 hA hB hcc
 go_enter Tryz.func34, Tryz.ntmps34
 go_wp2_with fail
 generalize (((w.alloc (.cells #[.bool n1, .slice A1 m1 c1] 32)).alloc (.cells #[.bool n2, .slice A2 m2 c2] 32)).alloc (.cells #[.bool false, .slice none 0 0] 32)) = w0 at *
 have hT := (Touch.refl [] w0).drew
 have HT0 := Lib.hid ht0
 clear ht0
 go_region_held3 (fun W' => W'.cell? ⟨w.heap.size, 0, none⟩ = some (.bool n1) ∧ W'.cell? ⟨w.heap.size, 1, none⟩ = some (.slice A1 m1 c1) ∧ W'.cell? ⟨w.heap.size + 1, 0, none⟩ = some (.bool n2) ∧ W'.cell? ⟨w.heap.size + 1, 1, none⟩ = some (.slice A2 m2 c2)) (exact ⟨(HC.out _ hT).1.1, (HC.out _ hT).1.2, (HC.out _ hT).2.1.1, (HC.out _ hT).2.1.2⟩) (first
  | (go_at_call 86; (first
    | (with_reducible refine (HN1.out _ (HT0.out.then0 hT)).mono ?_; rintro r w6 ⟨v6, rfl, hw6, ht6⟩; (try dsimp only); have HA := Lib.hid hw6; obtain ⟨A6, n6, c6, e6⟩ := hw6.form3; subst e6; (try replace HB := Lib.hid (HB.out.touch0 ht6)))
    | (with_reducible refine (HN2.out _ (HT0.out.then0 hT)).mono ?_; rintro r w6 ⟨v6, rfl, hw6, ht6⟩; (try dsimp only); have HB := Lib.hid hw6; obtain ⟨A7, c7, e7⟩ := hw6.form; subst e7; (try replace HA := Lib.hid (HA.out.touch0 ht6)))); replace hT := hT.then0 ht6; clear ht6 hw6))
 all_goals
  have HAW : Hid (Dgs w6 (.slice A6 n6 c6) (wordsOf 256 A)) := HA
  go_wp2_with fail
  go_loopg [5, 6] B (fun k tx ty wr => ComRel w0 A B k tx ty wr)
  case atStart => exact ⟨A, B, A6, A7, n6, c6, _, c7, rfl, rfl, rfl, rfl, HAW, HB, Lib.hid ⟨rfl, HAB.out.1, HAB.out.2⟩, hT⟩
  case round =>
   clear HAW HB HA hT
   obtain ⟨a, b, X1, X2, l1, k1, l2, k2, rfl, rfl, rfl, hl, H1, H2, HG, ht⟩ := hrel
   by_cases h0 : gk = 0
   ·subst h0
    have hl0 : l2 = 0 := by rw [hl]; rfl
    subst hl0
    have HBL := Lib.hid (rmake_w false (.slice X1 l1 k1) _ a wr H1.out (nv_words two256 a) (by have := len_w8 HG.out.2.1; omega))
    have HGG : Hid (a = Nat.gcd A B) := Lib.hid (by have := HG.out.1; simpa using this)
    clear hl
    go_wp2_with fail
    with_reducible refine HBL.out.mono ?_
    rintro r w3 ⟨x, rfl, ⟨A3, n3, c3, rfl, hd⟩, ht3⟩
    dsimp only
    have ht4 := ht.then0 ht3
    have b2 := (HC.out _ ht4).2.2
    have q0 := b2.cell 0
    have q1 := b2.cell 1
    have f0 := b2.frozen 0
    have f1 := b2.frozen 1
    simp at q0 q1
    have HD := Lib.hid hd
    have HT4 := Lib.hid (HT0.out.then0 ht4)
    have HZ := Lib.hid HT0.out.size
    have HBB := Lib.hid b2
    clear hd ht3 b2
    go_wp2_with fail
    obtain ⟨k, k2, k3⟩ := int_res' (N := a) (sg false a) HBB.out (by omega) HT4.out HD.out _ rfl
    refine bodyPost_ret (v := .agg #[.bool (sg false a), .slice A3 n3 c3]) (by simp [results, Tryz.results34, go_sem, k.1, k.2]) rfl ⟨_, rfl, ?_, k3⟩
    rw [← HGG.out]
    simpa [sg] using k2
   ·have hl0 : (0 : Int) < (l2 : Int) := by
     have := words_nil_iff two256 (N := gk)
     rw [← hl] at this
     omega
    have hgk : 0 < gk := by omega
    have HD := Lib.hid (rsplit_any _ _ a gk wr H1.out H2.out (len_w8 HG.out.2.1) (len_w8 HG.out.2.2) hgk)
    have HM := Lib.hid (Nat.mod_lt a hgk)
    clear hl h0 hgk
    go_wp2_with fail
    with_reducible refine HD.out.mono ?_
    rintro r w3 ⟨q, r', rfl, hq, hr, ht3⟩
    dsimp only
    have ht4 := ht.then0 ht3
    obtain ⟨Aq, nq, cq, rfl⟩ := hq.form3
    have HR := Lib.hid hr
    obtain ⟨Ar, cr, rfl⟩ := hr.form
    have H2' := Lib.hid (H2.out.touch0 ht3)
    clear hq hr ht3
    go_wp2_with fail
    go_roundg (a % gk)
    case measure => exact HM.out
    case rel => exact ⟨gk, a % gk, X2, Ar, l2, k2, _, cr, rfl, rfl, rfl, rfl, H2', HR, Lib.hid ⟨by rw [← HG.out.1, Nat.gcd_comm a gk, Nat.gcd_rec gk a, Nat.gcd_comm], HG.out.2.2, Nat.lt_trans HM.out HG.out.2.2⟩, ht4⟩
end Go.Proofs.YtedpaajpfaoffaaGreatDoor
