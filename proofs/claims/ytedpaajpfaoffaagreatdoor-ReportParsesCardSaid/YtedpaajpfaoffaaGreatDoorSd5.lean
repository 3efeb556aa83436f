/- bandplanref52.areas: the walk (draft). -/
import Derived.Test.YtedpaajpfaoffaaGreatDoorSdB
import Derived.Test.YtedpaajpfaoffaaGreatDoorSe4
import Derived.Test.YtedpaajpfaoffaaGreatDoorSdA
import Derived.Deep.RegionHeld3
set_option linter.all false
set_option maxHeartbeats 8000000
set_option maxRecDepth 100000
namespace Go.Proofs.YtedpaajpfaoffaaGreatDoor
open Go.RowKit
theorem RC.putB {w w1 : World} {bd g : Nat} {l : List UInt8} {s : Int × Nat} {u : Value} {x : List UInt8} (h : RC w bd g l s) (ht : Touch [] w w1) (hb : Bytes w1 u x) (v1 v2 : Value) : Bytes ((w1.setCell ⟨g, 0, none⟩ v1).setCell ⟨g, 1, none⟩ v2) u x := by
 obtain ⟨A0, n0, c0, hbk, -⟩ := h
 have hb1 := hbk.touch ht (by simp)
 obtain ⟨k1, k2⟩ := hb1.put2 v1 v2
 exact Reads.touch hb k2 (fun b hb' hm => Bytes.far hb hb1 rd_cells b hb' (by simpa using hm))
theorem part_len {l : List UInt8} {lim : Int} {s t : Int × Nat} {pv : List UInt8} (h : rRead [] (pPart l lim) s = (pv, t)) : pv.length ≤ l.length := by
 unfold rRead at h
 split at h
 ·cases hp : pPart l lim s.2 with
  | ok x =>
   rw [hp] at h
   injection h with h _
   rw [← h]
   exact pPart_len hp
  | error k =>
   rw [hp] at h
   injection h with h _
   rw [← h]
   simp
 ·injection h with h _
  rw [← h]
  simp
def ArRel41 (w2 : World) (bd g : Nat) (l : List UInt8) (N : Nat) (res : Option (List (List UInt8) × Nat)) (tq ti : Value) (wr : World) : Prop :=
 ∃ (i : Nat) (acc : List (List UInt8)) (s : Int × Nat), i ≤ N ∧ ti = .int .i64 i ∧ acc.length ≤ 7 * i ∧ OwnS wr tq acc ∧ (∀ b ∈ blk tq, w2.heap.size ≤ b) ∧ RC wr bd g l s ∧ Touch [g] w2 wr ∧ Hid (s.1 ≠ 0 → res = none) ∧ Hid (s.1 = 0 → res = rowsB (areaStep l) acc (N - i) s.2)
def SlRel41 (w2 : World) (bd g : Nat) (l : List UInt8) (i M : Nat) (K : List (List UInt8) × Nat → Option (List (List UInt8) × Nat)) (res : Option (List (List UInt8) × Nat)) (tq tj : Value) (wr : World) : Prop :=
 ∃ (j : Nat) (acc : List (List UInt8)) (s : Int × Nat), j ≤ M ∧ tj = .int .i64 j ∧ acc.length ≤ 7 * i + 1 + j ∧ OwnS wr tq acc ∧ (∀ b ∈ blk tq, w2.heap.size ≤ b) ∧ RC wr bd g l s ∧ Touch [g] w2 wr ∧ Hid (s.1 ≠ 0 → M = 0 ∧ res = none) ∧ Hid (s.1 = 0 → res = (rowsB (slotStep l) acc (M - j) s.2).bind K)
theorem refAreas_any (bd : Nat) (l : List UInt8) (v : Value) (a : Nat) (w : World) (h : RS w bd l v (0, a)) (hbd : bd ≤ w.heap.size) (hl : l.length ≤ 65536) : Calls Tryz.prog 55 #[v] w (Ev41 bd l (areasL l a) w) := by
 obtain ⟨A, n, c, rfl⟩ := h.form
 have hS : ∃ (N : Nat) (s0 : Int × Nat), rRead 0 (pCount l 64) (0, a) = ((N : Int), s0) ∧ N ≤ 64 ∧ (s0.1 ≠ 0 → N = 0 ∧ areasL l a = none) ∧ (s0.1 = 0 → areasL l a = rowsB (areaStep l) [] N s0.2) := by
  obtain ⟨h1, h2⟩ := count_lim (l := l) (lim := 64) (a := a) (by omega)
  unfold rRead areasL
  simp only [if_true]
  cases hx : limO l 0 64 (0, a) with
  | none =>
   obtain ⟨k, hk⟩ := h2 hx
   rw [hk]
   exact ⟨0, (k, a), rfl, by omega, fun _ => ⟨rfl, rfl⟩, fun h => absurd h (pCount_err hk)⟩
  | some x =>
   obtain ⟨x, b⟩ := x
   obtain ⟨-, x0, x1, -⟩ := limO_some hx
   simp only at x0 x1
   rw [h1 _ hx]
   exact ⟨x.toNat, (0, b), by rw [Int.toNat_of_nonneg x0], by omega, fun h => absurd rfl h, fun _ => rfl⟩
 generalize areasL l a = res at *
 obtain ⟨N, s0, e1, hN, hbad, hgood⟩ := hS
 obtain ⟨ht0, hcc⟩ := boxr w (.slice A n c) 0
 unfold WR at ht0 hcc
 have HC := Lib.hid hcc
 obtain ⟨q0, q1, -⟩ := (hcc _ (Touch.refl _ _)).1.two
 have HU := Lib.hid (fun W (t : Touch [] w W) => count41_any bd l (.agg #[.slice A n c, .int .i64 0]) (0, a) 64 W (h.touch0 t) (by omega))
 have HUI := Lib.hid (fun (u : Value) (s : Int × Nat) W (hr : RS W bd l u s) => uint41_any bd l u s W hr (by omega))
 have HCI := Lib.hid (fun (u : Value) (s : Int × Nat) W (hr : RS W bd l u s) => count41_any bd l u s 6 W hr (by omega))
 have HPI := Lib.hid (fun (u : Value) (s : Int × Nat) W (hr : RS W bd l u s) => bytes41_any bd l u s 65536 W hr (by omega))
 rw [e1] at HU
 have HBAD := Lib.hid hbad
 have HGOOD := Lib.hid hgood
 clear hbad hgood hcc h e1
 go_enter Tryz.func55, Tryz.ntmps55
 go_wp2_with fail
 generalize ((w.alloc (.cells #[.slice A n c, .int .i64 0] 83)).alloc (.cells #[.slice none 0 0, .int .i64 0] 83)) = w0 at *
 have HT0 := Lib.hid ht0
 clear ht0 q0 q1
 refine (HU.out w0 HT0.out).mono ?_
 rintro r w1 ⟨u, v1, rfl, rfl, hr1, ht1⟩
 obtain ⟨A1, n1, c1, rfl⟩ := hr1.form
 dsimp only at hr1 ⊢
 unfold iv
 go_wp2_with fail
 have hrc := RC.new hr1
 have HT1 : Hid (Touch [] w (w1.alloc (.cells #[.slice A1 n1 c1, .int .i64 s0.1] 83))) := Lib.hid ((HT0.out.then0 ht1).alloc _)
 have HG3 : Hid (Blk (w1.alloc (.cells #[.slice A1 n1 c1, .int .i64 s0.1] 83)) (w.heap.size + 1) 83 #[.slice none 0 0, .int .i64 0]) := Lib.hid (((HC.out _ ht1).2).alloc _)
 have hg : w.heap.size + 1 < w1.heap.size := (HC.out _ ht1).2.lt
 generalize (w1.alloc (.cells #[.slice A1 n1 c1, .int .i64 s0.1] 83)) = w2 at *
 generalize w1.heap.size = g at *
 clear ht1 hr1
 have hst : ArRel41 w2 bd g l N res (.slice none 0 0) (.int .i64 0) w2 := ⟨0, [], s0, by omega, rfl, by simp, OwnS.nil _, (fun b hb => by cases hb), hrc, Touch.refl _ _, Lib.hid (fun h => (HBAD.out h).2), Lib.hid (by simpa using HGOOD.out)⟩
 clear hrc HBAD HGOOD
 go_loopw [6, 7] (fun tq ti wr => ArRel41 w2 bd g l N res tq ti wr) (fun _ ti _ => N - (intOf ti).toNat)
 case atStart => exact hst
 case round =>
  clear hst
  obtain ⟨i, acc, s, hi, rfl, hal, ho, hf, hrc, ht, HB1, HG1⟩ := hrel
  obtain ⟨Aq, cq, rfl⟩ := ho.form
  have HAL := Lib.hid hal
  have HF := Lib.hid hf
  clear hal hf
  by_cases hlt : i < N
  ·have hlt' : (i : Int) < (N : Int) := by omega
   obtain ⟨e, a2⟩ := s
   dsimp only at HB1 HG1
   generalize hR1 : rRead 0 (pUint l) (e, a2) = x1
   obtain ⟨av, ae, aa⟩ := x1
   generalize hR2 : rRead 0 (pCount l 6) (ae, aa) = x2
   obtain ⟨mv, me, ma⟩ := x2
   have HRD := Lib.hid (area_round (s := (e, a2)) HB1.out HG1.out hlt hR1 hR2)
   have HAV := Lib.hid (rUint_in hR1)
   obtain ⟨hm0, hm6⟩ := count_in (by omega) hR2
   obtain ⟨M, rfl⟩ : ∃ M : Nat, mv = (M : Int) := ⟨mv.toNat, by omega⟩
   have HR1 := Lib.hid hR1
   have HR2 := Lib.hid hR2
   clear hR1 hR2 HB1 HG1
   have HO := Lib.hid ho
   have HTR := Lib.hid ht
   clear ho ht
   obtain ⟨A0, n0, c0, hr0, q0, q1, f0, f1⟩ := hrc.cells
   have HRC := Lib.hid hrc
   clear hrc
   dsimp only at hr0 q0 q1
   go_wp2_with fail
   with_reducible refine Calls.mono (HUI.out _ (e, a2) _ hr0) ?_
   clear q0 q1 f0 f1 hr0
   rintro r w5 ⟨u, v5, rfl, rfl, hr5, ht5⟩
   rw [HR1.out] at hr5 ⊢
   obtain ⟨A5, n5, c5, rfl⟩ := hr5.form
   dsimp only at hr5 ⊢
   unfold iv
   obtain ⟨A0, n0, c0, -, q0, q1, f0, f1⟩ := (HRC.out.touch0 ht5).cells
   obtain ⟨hrc, htk, hr9⟩ := HRC.out.put (s' := (ae, aa)) ht5 hr5
   have HO2 := Lib.hid (HO.out.touch htk (fun b hb hm => by rw [List.mem_singleton] at hm; subst hm; exact HRC.out.far HO.out hb))
   have HTR2 := Lib.hid (HTR.out.trans htk)
   clear HRC HO HTR hr5 htk ht5
   have HO := HO2
   have HTR := HTR2
   clear HO2 HTR2
   dsimp only at hrc hr9
   go_wp2_with fail
   have HRC := Lib.hid hrc
   have hr0 := hr9
   clear hrc hr9
   generalize World.setCell (World.setCell w5 ⟨g, 0, none⟩ _) ⟨g, 1, none⟩ _ = w6 at *
   clear q0 q1 f0 f1
   with_reducible refine Calls.mono (HCI.out _ (ae, aa) _ hr0) ?_
   clear hr0
   rintro r w5 ⟨u, v5, rfl, rfl, hr5, ht5⟩
   rw [HR2.out] at hr5 ⊢
   obtain ⟨A5, n5, c5, rfl⟩ := hr5.form
   dsimp only at hr5 ⊢
   unfold iv
   obtain ⟨A0, n0, c0, -, q0, q1, f0, f1⟩ := (HRC.out.touch0 ht5).cells
   obtain ⟨hrc, htk, hr9⟩ := HRC.out.put (s' := (me, ma)) ht5 hr5
   have HO2 := Lib.hid (HO.out.touch htk (fun b hb hm => by rw [List.mem_singleton] at hm; subst hm; exact HRC.out.far HO.out hb))
   have HTR2 := Lib.hid (HTR.out.trans htk)
   clear HRC HO HTR hr5 htk ht5
   have HO := HO2
   have HTR := HTR2
   clear HO2 HTR2
   dsimp only at hrc hr9
   go_upto_region 9 with fail
   generalize World.setCell (World.setCell w5 ⟨g, 0, none⟩ _) ⟨g, 1, none⟩ _ = w7 at *
   clear q0 q1 f0 f1 hr9
   have HP := Lib.hid (fun W => plain_any av W (by have := HAV.out; omega) HAV.out.2)
   have hAL : areaLine av = [97, 114, 101, 97, 32] ++ Lib.itoa av := by unfold areaLine areaB; rw [Lib.join_cons]; simp [Lib.joinTail]
   have hlI := itoa_le av (by have := HAV.out; omega) HAV.out.2
   have HO7 := HO
   have hacc : acc.length ≤ 448 := by have := HAL.out; omega
   generalize areaLine av = ln at *
   generalize Lib.itoa av = x1 at *
   have hs1 : ¬ 9223372036854775807 < 5 + x1.length := by omega
   have hZ := (Touch.refl [] w7)
   clear HO
   go_wp2_with fail
   with_reducible refine Calls.mono (HP.out _) ?_
   rintro r w8 ⟨rfl, ht8⟩
   have hZ8 := hZ.then0 ht8
   have hOA := HO7.out.touch0 hZ8
   have hbl : ByteArray.mk #[97, 114, 101, 97, 32] ++ ByteArray.mk x1.toArray = ByteArray.mk ln.toArray := by rw [hAL]; exact tx_add _ _
   go_wp2_with (at_builtin; go_must (refine app_new elem_str hOA [.string (ByteArray.mk #[97, 114, 101, 97, 32] ++ ByteArray.mk x1.toArray)] 1 1 (by omega) (by unfold maxLen; omega) ?_); intro v12 w12 ho12 ht12 hf12; rw [hbl] at ho12; have HO12 := Lib.hid ho12; have HF12 := Lib.hid hf12; have HT12 := Lib.hid ht12; obtain ⟨A12, c12, rfl⟩ := ho12.form; clear ho12 hf12 ht12)
   have hgf : g ∉ blk (Value.slice Aq acc.length cq) := hrc.far HO7.out
   have hLb : ∀ b ∈ blk (Value.slice Aq acc.length cq), bd ≤ b := fun b hb => by
    have h1 := HF.out b hb
    have h2 := HT1.out.size
    omega
   have hsz : w2.heap.size ≤ w7.heap.size := HTR.out.size
   have hsz8 := hZ8.size
   have hrc12 := (hrc.touch0 hZ8).touchL HT12.out hgf hLb
   have hst2 : SlRel41 w2 bd g l i M (fun x => rowsB (areaStep l) x.1 (N - (i + 1)) x.2) res (.slice A12 (acc.length + 1) c12) (.int .i64 0) w12 := ⟨0, acc ++ [ln], (me, ma), by omega, rfl, by have := HAL.out; simp; omega, OwnS.snoc HO12.out, fun b hb => by
    rcases HF12.out b hb with h | h
    ·exact HF.out b h
    ·omega, hrc12, (HTR.out.then0 hZ8).step HT12.out (fun b hb => .inr (HF.out b hb)), Lib.hid (fun h => ⟨by have := (HRD.out.1 h).2; omega, (HRD.out.1 h).1⟩), Lib.hid (fun h => by have := (HRD.out.2 h).2.2; simpa using this)⟩
   clear hrc hrc12 HO7 HO12 HF12 HT12 hZ hZ8 ht8 HRD hOA hgf hLb hsz hsz8 HTR HR1 HR2
   go_loopw [6, 10] (fun tq tj wr => SlRel41 w2 bd g l i M (fun x => rowsB (areaStep l) x.1 (N - (i + 1)) x.2) res tq tj wr) (fun _ tj _ => M - (intOf tj).toNat)
   case atStart => exact hst2
   case round =>
    clear hst2
    obtain ⟨j, acc2, s2, hj, rfl, hal2, ho2, hf2, hrc2, ht2, HB2, HG2⟩ := hrel
    obtain ⟨Aw, cw, rfl⟩ := ho2.form
    by_cases hlt2 : j < M
    ·have hlt2' : (j : Int) < (M : Int) := by omega
     obtain ⟨e3, a3⟩ := s2
     have h30 : e3 = 0 := by
      by_cases h0 : e3 = 0
      ·exact h0
      ·have := (HB2.out h0).1; omega
     subst h30
     dsimp only at HB2 HG2
     generalize hR1 : rRead 0 (pUint l) (0, a3) = x1
     obtain ⟨xv, xe, xa⟩ := x1
     generalize hR2 : rRead 0 (pUint l) (xe, xa) = x2
     obtain ⟨yv, ye, ya⟩ := x2
     generalize hR3 : rRead 0 (pUint l) (ye, ya) = x3
     obtain ⟨zv, ze, za⟩ := x3
     generalize hR4 : rRead [] (pPart l 65536) (ze, za) = x4
     obtain ⟨pv, pe, pa⟩ := x4
     have HSR := Lib.hid (slot_round (HG2.out rfl) hlt2 hR1 hR2 hR3 hR4)
     have HXV := Lib.hid (And.intro (rUint_in hR1) (And.intro (rUint_in hR2) (rUint_in hR3)))
     have HR1 := Lib.hid hR1
     have HR2 := Lib.hid hR2
     have HR3 := Lib.hid hR3
     have HR4 := Lib.hid hR4
     clear hR1 hR2 hR3 hR4 HB2 HG2
     have HO := Lib.hid ho2
     have HTR := Lib.hid ht2
     have HF2 := Lib.hid hf2
     have HAL2 := Lib.hid hal2
     have hrc := hrc2
     clear ho2 ht2 hf2 hal2 hrc2
     obtain ⟨A0, n0, c0, hr0, q0, q1, f0, f1⟩ := hrc.cells
     have HRC := Lib.hid hrc
     clear hrc
     dsimp only at hr0 q0 q1
     go_wp2_with fail
     with_reducible refine Calls.mono (HUI.out _ (0, a3) _ hr0) ?_
     clear q0 q1 f0 f1 hr0
     rintro r w5 ⟨u, v5, rfl, rfl, hr5, ht5⟩
     rw [HR1.out] at hr5 ⊢
     obtain ⟨A5, n5, c5, rfl⟩ := hr5.form
     dsimp only at hr5 ⊢
     unfold iv
     obtain ⟨A0, n0, c0, -, q0, q1, f0, f1⟩ := (HRC.out.touch0 ht5).cells
     obtain ⟨hrc, htk, hr9⟩ := HRC.out.put (s' := (xe, xa)) ht5 hr5
     have HO2 := Lib.hid (HO.out.touch htk (fun b hb hm => by rw [List.mem_singleton] at hm; subst hm; exact HRC.out.far HO.out hb))
     have HTR2 := Lib.hid (HTR.out.trans htk)
     clear HRC HO HTR hr5 htk ht5
     have HO := HO2
     have HTR := HTR2
     clear HO2 HTR2
     dsimp only at hrc hr9
     go_wp2_with fail
     have HRC := Lib.hid hrc
     have hr0 := hr9
     clear hrc hr9
     generalize World.setCell (World.setCell w5 ⟨g, 0, none⟩ _) ⟨g, 1, none⟩ _ = w6 at *
     clear q0 q1 f0 f1
     with_reducible refine Calls.mono (HUI.out _ (xe, xa) _ hr0) ?_
     clear hr0
     rintro r w5 ⟨u, v5, rfl, rfl, hr5, ht5⟩
     rw [HR2.out] at hr5 ⊢
     obtain ⟨A5, n5, c5, rfl⟩ := hr5.form
     dsimp only at hr5 ⊢
     unfold iv
     obtain ⟨A0, n0, c0, -, q0, q1, f0, f1⟩ := (HRC.out.touch0 ht5).cells
     obtain ⟨hrc, htk, hr9⟩ := HRC.out.put (s' := (ye, ya)) ht5 hr5
     have HO2 := Lib.hid (HO.out.touch htk (fun b hb hm => by rw [List.mem_singleton] at hm; subst hm; exact HRC.out.far HO.out hb))
     have HTR2 := Lib.hid (HTR.out.trans htk)
     clear HRC HO HTR hr5 htk ht5
     have HO := HO2
     have HTR := HTR2
     clear HO2 HTR2
     dsimp only at hrc hr9
     go_wp2_with fail
     have HRC := Lib.hid hrc
     have hr0 := hr9
     clear hrc hr9
     generalize World.setCell (World.setCell w5 ⟨g, 0, none⟩ _) ⟨g, 1, none⟩ _ = w6 at *
     clear q0 q1 f0 f1
     with_reducible refine Calls.mono (HUI.out _ (ye, ya) _ hr0) ?_
     clear hr0
     rintro r w5 ⟨u, v5, rfl, rfl, hr5, ht5⟩
     rw [HR3.out] at hr5 ⊢
     obtain ⟨A5, n5, c5, rfl⟩ := hr5.form
     dsimp only at hr5 ⊢
     unfold iv
     obtain ⟨A0, n0, c0, -, q0, q1, f0, f1⟩ := (HRC.out.touch0 ht5).cells
     obtain ⟨hrc, htk, hr9⟩ := HRC.out.put (s' := (ze, za)) ht5 hr5
     have HO2 := Lib.hid (HO.out.touch htk (fun b hb hm => by rw [List.mem_singleton] at hm; subst hm; exact HRC.out.far HO.out hb))
     have HTR2 := Lib.hid (HTR.out.trans htk)
     clear HRC HO HTR hr5 htk ht5
     have HO := HO2
     have HTR := HTR2
     clear HO2 HTR2
     dsimp only at hrc hr9
     go_wp2_with fail
     have HRC := Lib.hid hrc
     have hr0 := hr9
     clear hrc hr9
     generalize World.setCell (World.setCell w5 ⟨g, 0, none⟩ _) ⟨g, 1, none⟩ _ = w6 at *
     clear q0 q1 f0 f1
     with_reducible refine Calls.mono (HPI.out _ (ze, za) _ hr0) ?_
     clear hr0
     rintro r w5 ⟨u, v5, rfl, hbt, hr5, ht5⟩
     rw [HR4.out] at hr5 hbt
     obtain ⟨A5, n5, c5, rfl⟩ := hr5.form
     dsimp only at hr5 hbt ⊢
     have hbt9 := HRC.out.putB ht5 hbt (.slice A5 n5 c5) (.int .i64 pe)
     obtain ⟨A0, n0, c0, -, q0, q1, f0, f1⟩ := (HRC.out.touch0 ht5).cells
     obtain ⟨hrc, htk, hr9⟩ := HRC.out.put (s' := (pe, pa)) ht5 hr5
     have HO2 := Lib.hid (HO.out.touch htk (fun b hb hm => by rw [List.mem_singleton] at hm; subst hm; exact HRC.out.far HO.out hb))
     have HTR2 := Lib.hid (HTR.out.trans htk)
     clear HRC HO HTR hr5 htk ht5
     have HO := HO2
     have HTR := HTR2
     clear HO2 HTR2
     dsimp only at hrc hr9
     have hcv := run_str hbt9
     have HPL := Lib.hid (part_len HR4.out)
     have HQR := Lib.hid (fun W => qRead_any pv W (by have := HPL.out; omega))
     have HBT := Lib.hid hbt9
     clear hbt hbt9
     go_wp2_with fail
     generalize World.setCell (World.setCell w5 ⟨g, 0, none⟩ _) ⟨g, 1, none⟩ _ = w6 at *
     clear q0 q1 f0 f1 hr9
     with_reducible refine Calls.mono (HQR.out _) ?_
     rintro r w8 ⟨n1, A1, k1, c1, n2, A2, k2, c2, eq, rfl, hiff, ht8⟩
     dsimp only
     have hal8 := (Touch.refl [] w8).alloc (.cells #[.bool n1, .slice A1 k1 c1, .bool n2, .slice A2 k2 c2] 34)
     have HT8 := Lib.hid ((HTR.out.then0 ht8).then0 hal8)
     have HRA := Lib.hid ((hrc.touch0 ht8).touch0 hal8)
     have HBA := Lib.hid ((HBT.out.touch0 ht8).touch0 hal8)
     have HOA := Lib.hid ((HO.out.touch0 ht8).touch0 hal8)
     have HG7 := Lib.hid (HG3.out.touch HT8.out (by simp; omega))
     obtain ⟨A0, n0, c0, -, q0, q1, f0, f1⟩ := HRA.out.cells
     obtain ⟨p0, p1, pf0, pf1⟩ := HG7.out.two
     dsimp only at q1
     clear hal8 ht8 hrc
     by_cases hpe : pe = 0
     ·subst hpe
      by_cases heq : eq = 0
      ·subst heq
       have HNX := Lib.hid (HSR.out.2 rfl (hiff.1 rfl))
       clear HSR hiff p0 p1 pf0 pf1 HG7 hcv
       go_wp2_with fail
       generalize (w8.alloc (.cells #[.bool n1, .slice A1 k1 c1, .bool n2, .slice A2 k2 c2] 34)) = w9 at *
       clear q0 q1 f0 f1
       have HP1 := Lib.hid (fun W => plain_any xv W (by have := HXV.out.1; omega) HXV.out.1.2)
       have HP2 := Lib.hid (fun W => plain_any yv W (by have := HXV.out.2.1; omega) HXV.out.2.1.2)
       have HP3 := Lib.hid (fun W => plain_any zv W (by have := HXV.out.2.2; omega) HXV.out.2.2.2)
       have l1 := itoa_le xv (by have := HXV.out.1; omega) HXV.out.1.2
       have l2 := itoa_le yv (by have := HXV.out.2.1; omega) HXV.out.2.1.2
       have l3 := itoa_le zv (by have := HXV.out.2.2; omega) HXV.out.2.2.2
       have l4 := HPL.out
       have hLN : Lib.itoa xv ++ [32] ++ Lib.itoa yv ++ [32] ++ Lib.itoa zv ++ [32] ++ pv = slotLine xv yv zv pv := by
        unfold slotLine
        rw [Lib.join_cons]
        simp [Lib.joinTail]
       generalize slotLine xv yv zv pv = ln at *
       generalize Lib.itoa xv = x1 at *
       generalize Lib.itoa yv = x2 at *
       generalize Lib.itoa zv = x3 at *
       have hs1 : ¬ 9223372036854775807 < x1.length + 1 := by omega
       have hs2 : ¬ 9223372036854775807 < x1.length + 1 + x2.length := by omega
       have hs3 : ¬ 9223372036854775807 < x1.length + 1 + x2.length + 1 := by omega
       have hs4 : ¬ 9223372036854775807 < x1.length + 1 + x2.length + 1 + x3.length := by omega
       have hs5 : ¬ 9223372036854775807 < x1.length + 1 + x2.length + 1 + x3.length + 1 := by omega
       have hs6 : ¬ 9223372036854775807 < x1.length + 1 + x2.length + 1 + x3.length + 1 + pv.length := by omega
       have hacc2 : acc2.length ≤ 512 := by have := HAL2.out; omega
       have hZ := (Touch.refl [] w9).drew
       refine wp_region_held_drew (S := fun _ => True) (by kernel_rfl) trivial (fun hS => ?_)
       refine wpAnyH_take (i := 0) (v := ?_) rfl (by kernel_rfl) (by kernel_rfl) (by kernel_rfl) (fun _ _ _ h => h) (Or.inl ⟨by rfl, ?_⟩) hS ?_
       rotate_left
       ·(intro W hSW; go_simp <;> with_reducible rfl)
       simp only [nz]
       refine wpAnyH_take (i := 1) (v := ?_) rfl (by kernel_rfl) (by kernel_rfl) (by kernel_rfl) (fun _ _ _ h => h) (Or.inl ⟨by rfl, ?_⟩) hS ?_
       rotate_left
       ·(intro W hSW; go_simp <;> with_reducible rfl)
       simp only [nz]
       refine wpAnyH_take (i := 4) (v := ?_) rfl (by kernel_rfl) (by kernel_rfl) (by kernel_rfl) (fun _ _ _ h => h) (Or.inl ⟨by rfl, ?_⟩) hS ?_
       rotate_left
       ·(intro W hSW; go_simp <;> with_reducible rfl)
       simp only [nz]
       refine wpAnyH_take (i := 8) (v := ?_) rfl (by kernel_rfl) (by kernel_rfl) (by kernel_rfl) (fun _ _ _ h => h) (Or.inl ⟨by rfl, ?_⟩) hS ?_
       rotate_left
       ·(intro W hSW; go_simp <;> with_reducible rfl)
       simp only [nz]
       refine wpAnyH_take (i := 12) (v := ?_) rfl (by kernel_rfl) (by kernel_rfl) (by kernel_rfl) (fun _ _ _ h => h) (Or.inl ⟨by rfl, ?_⟩) hS ?_
       rotate_left
       ·(intro W hSW; go_simp <;> with_reducible rfl)
       simp only [nz]
       refine wpAnyH_ready (rs := [2, 13]) (by kernel_rfl) (by simp) (AllReadyH.cons rfl (fun K hK => ?_) (AllReadyH.cons rfl (fun K hK => ?_) AllReadyH.nil))
       ·go_simp
        refine (HP1.out _).mono ?_
        rintro r w10 ⟨rfl, ht10⟩
        have hZ10 := hZ.then0 ht10
        go_wp2_with fail
        refine hK.out _ _ hS (fun _ => ?_)
        clear hK K
        try simp only [nz]
        refine wpAnyH_take (i := 3) (v := ?_) rfl (by kernel_rfl) (by kernel_rfl) (by kernel_rfl) (fun _ _ _ h => h) (Or.inl ⟨by rfl, ?_⟩) hS ?_
        rotate_left
        ·(intro W hSW; go_simp <;> with_reducible rfl)
        simp only [nz]
        refine wpAnyH_ready (rs := [5, 13]) (by kernel_rfl) (by simp) (AllReadyH.cons rfl (fun K hK => ?_) (AllReadyH.cons rfl (fun K hK => ?_) AllReadyH.nil))
        ·go_simp
         refine (HP2.out _).mono ?_
         rintro r w11 ⟨rfl, ht11⟩
         have hZ11 := hZ10.then0 ht11
         go_wp2_with fail
         refine hK.out _ _ hS (fun _ => ?_)
         clear hK K
         try simp only [nz]
         refine wpAnyH_take (i := 6) (v := ?_) rfl (by kernel_rfl) (by kernel_rfl) (by kernel_rfl) (fun _ _ _ h => h) (Or.inl ⟨by rfl, ?_⟩) hS ?_
         rotate_left
         ·(intro W hSW; go_simp <;> with_reducible rfl)
         simp only [nz]
         refine wpAnyH_take (i := 7) (v := ?_) rfl (by kernel_rfl) (by kernel_rfl) (by kernel_rfl) (fun _ _ _ h => h) (Or.inl ⟨by rfl, ?_⟩) hS ?_
         rotate_left
         ·(intro W hSW; go_simp <;> with_reducible rfl)
         simp only [nz]
         refine wpAnyH_ready (rs := [9, 13]) (by kernel_rfl) (by simp) (AllReadyH.cons rfl (fun K hK => ?_) (AllReadyH.cons rfl (fun K hK => ?_) AllReadyH.nil))
         ·go_simp
          refine (HP3.out _).mono ?_
          rintro r w12 ⟨rfl, ht12⟩
          have hZ12 := hZ11.then0 ht12
          go_wp2_with fail
          refine hK.out _ _ hS (fun _ => ?_)
          clear hK K
          try simp only [nz]
          refine wpAnyH_take (i := 10) (v := ?_) rfl (by kernel_rfl) (by kernel_rfl) (by kernel_rfl) (fun _ _ _ h => h) (Or.inl ⟨by rfl, ?_⟩) hS ?_
          rotate_left
          ·(intro W hSW; go_simp <;> with_reducible rfl)
          simp only [nz]
          refine wpAnyH_take (i := 11) (v := ?_) rfl (by kernel_rfl) (by kernel_rfl) (by kernel_rfl) (fun _ _ _ h => h) (Or.inl ⟨by rfl, ?_⟩) hS ?_
          rotate_left
          ·(intro W hSW; go_simp <;> with_reducible rfl)
          simp only [nz]
          refine rdy1 13 rfl (fun K hK => ?_)
          have hcv := run_str (HBA.out.touch0 hZ12)
          go_simp
          refine hK.out _ _ hS (fun _ => ?_)
          clear hK K
          try simp only [nz]
          refine wpAnyH_take (i := 14) (v := ?_) rfl (by kernel_rfl) (by kernel_rfl) (by kernel_rfl) (fun _ _ _ h => h) (Or.inl ⟨by rfl, ?_⟩) hS ?_
          rotate_left
          ·(intro W hSW; go_simp <;> with_reducible rfl)
          simp only [nz]
          simp only [tx32, tx_add]
          rw [hLN]
          have hOB := (HOA.out.touch0 hZ12).touch0 ((Touch.refl [] w12).alloc (.cells #[.string ⟨ln.toArray⟩] 9))
          have hrl := (ownLit w12 _ rfl 9 1 1 [.string ⟨ln.toArray⟩] rfl (by simp [maxLen])).reads
          refine rdy1 15 rfl (fun K hK => ?_)
          go_simp
          refine hK.out _ _ hS (fun _ => ?_)
          clear hK K
          try simp only [nz]
          refine rdy1 16 rfl (fun K hK => ?_)
          refine step_app_reads elem_str hOB hrl (by simp [Value.oneCell']) (by omega) (by unfold maxLen; omega) ?_
          intro v13 w13 ho13 ht13 hf13
          have HO13 := Lib.hid ho13
          have HF13 := Lib.hid hf13
          have HT13 := Lib.hid ht13
          obtain ⟨A13, c13, rfl⟩ := ho13.form
          clear ho13 hf13 ht13 hrl hOB
          refine hK.out _ _ hS (fun _ => ?_)
          clear hK K
          try simp only [nz]
          refine rdy1 17 rfl (fun K hK => ?_)
          go_simp
          refine hK.out _ _ hS (fun _ => ?_)
          clear hK K
          try simp only [nz]
          refine wpAnyH_done (by kernel_rfl) ?_ _
          go_wp2_with fail
          have hZA := hZ12.alloc (.cells #[.string ⟨ln.toArray⟩] 9)
          have hgf : g ∉ blk (Value.slice Aw acc2.length cw) := HRA.out.far HOA.out
          have hLb : ∀ b ∈ blk (Value.slice Aw acc2.length cw), bd ≤ b := fun b hb => by
           have h1 := HF2.out b hb
           have h2 := HT1.out.size
           omega
          have hsz1 := HT8.out.size
          have hsz2 := hZA.size
          refine ⟨⟨j + 1, acc2 ++ [ln], (0, pa), by omega, by go_num, by have := HAL2.out; simp; omega, OwnS.snoc HO13.out, fun b hb => ?_, (HRA.out.touch0 hZA).touchL HT13.out hgf hLb, (HT8.out.then0 hZA).step HT13.out (fun b hb => .inr (HF2.out b hb)), Lib.hid (fun h => absurd rfl h), Lib.hid (fun _ => HNX.out)⟩, by simp [intOf]; omega⟩
          rcases HF13.out b hb with h | h
          ·exact HF2.out b h
          ·omega
         ·have hcv := run_str (HBA.out.touch0 hZ11)
          go_simp
          refine hK.out _ _ hS (fun _ => ?_)
          clear hK K
          try simp only [nz]
          refine rdy1 9 rfl (fun K hK => ?_)
          go_simp
          refine (HP3.out _).mono ?_
          rintro r w12 ⟨rfl, ht12⟩
          have hZ12 := hZ11.then0 ht12
          go_wp2_with fail
          refine hK.out _ _ hS (fun _ => ?_)
          clear hK K
          try simp only [nz]
          refine wpAnyH_take (i := 10) (v := ?_) rfl (by kernel_rfl) (by kernel_rfl) (by kernel_rfl) (fun _ _ _ h => h) (Or.inl ⟨by rfl, ?_⟩) hS ?_
          rotate_left
          ·(intro W hSW; go_simp <;> with_reducible rfl)
          simp only [nz]
          refine wpAnyH_take (i := 11) (v := ?_) rfl (by kernel_rfl) (by kernel_rfl) (by kernel_rfl) (fun _ _ _ h => h) (Or.inl ⟨by rfl, ?_⟩) hS ?_
          rotate_left
          ·(intro W hSW; go_simp <;> with_reducible rfl)
          simp only [nz]
          refine wpAnyH_take (i := 14) (v := ?_) rfl (by kernel_rfl) (by kernel_rfl) (by kernel_rfl) (fun _ _ _ h => h) (Or.inl ⟨by rfl, ?_⟩) hS ?_
          rotate_left
          ·(intro W hSW; go_simp <;> with_reducible rfl)
          simp only [nz]
          simp only [tx32, tx_add]
          rw [hLN]
          have hOB := (HOA.out.touch0 hZ12).touch0 ((Touch.refl [] w12).alloc (.cells #[.string ⟨ln.toArray⟩] 9))
          have hrl := (ownLit w12 _ rfl 9 1 1 [.string ⟨ln.toArray⟩] rfl (by simp [maxLen])).reads
          refine rdy1 15 rfl (fun K hK => ?_)
          go_simp
          refine hK.out _ _ hS (fun _ => ?_)
          clear hK K
          try simp only [nz]
          refine rdy1 16 rfl (fun K hK => ?_)
          refine step_app_reads elem_str hOB hrl (by simp [Value.oneCell']) (by omega) (by unfold maxLen; omega) ?_
          intro v13 w13 ho13 ht13 hf13
          have HO13 := Lib.hid ho13
          have HF13 := Lib.hid hf13
          have HT13 := Lib.hid ht13
          obtain ⟨A13, c13, rfl⟩ := ho13.form
          clear ho13 hf13 ht13 hrl hOB
          refine hK.out _ _ hS (fun _ => ?_)
          clear hK K
          try simp only [nz]
          refine rdy1 17 rfl (fun K hK => ?_)
          go_simp
          refine hK.out _ _ hS (fun _ => ?_)
          clear hK K
          try simp only [nz]
          refine wpAnyH_done (by kernel_rfl) ?_ _
          go_wp2_with fail
          have hZA := hZ12.alloc (.cells #[.string ⟨ln.toArray⟩] 9)
          have hgf : g ∉ blk (Value.slice Aw acc2.length cw) := HRA.out.far HOA.out
          have hLb : ∀ b ∈ blk (Value.slice Aw acc2.length cw), bd ≤ b := fun b hb => by
           have h1 := HF2.out b hb
           have h2 := HT1.out.size
           omega
          have hsz1 := HT8.out.size
          have hsz2 := hZA.size
          refine ⟨⟨j + 1, acc2 ++ [ln], (0, pa), by omega, by go_num, by have := HAL2.out; simp; omega, OwnS.snoc HO13.out, fun b hb => ?_, (HRA.out.touch0 hZA).touchL HT13.out hgf hLb, (HT8.out.then0 hZA).step HT13.out (fun b hb => .inr (HF2.out b hb)), Lib.hid (fun h => absurd rfl h), Lib.hid (fun _ => HNX.out)⟩, by simp [intOf]; omega⟩
          rcases HF13.out b hb with h | h
          ·exact HF2.out b h
          ·omega
        ·have hcv := run_str (HBA.out.touch0 hZ10)
         go_simp
         refine hK.out _ _ hS (fun _ => ?_)
         clear hK K
         try simp only [nz]
         refine rdy1 5 rfl (fun K hK => ?_)
         go_simp
         refine (HP2.out _).mono ?_
         rintro r w11 ⟨rfl, ht11⟩
         have hZ11 := hZ10.then0 ht11
         go_wp2_with fail
         refine hK.out _ _ hS (fun _ => ?_)
         clear hK K
         try simp only [nz]
         refine wpAnyH_take (i := 6) (v := ?_) rfl (by kernel_rfl) (by kernel_rfl) (by kernel_rfl) (fun _ _ _ h => h) (Or.inl ⟨by rfl, ?_⟩) hS ?_
         rotate_left
         ·(intro W hSW; go_simp <;> with_reducible rfl)
         simp only [nz]
         refine wpAnyH_take (i := 7) (v := ?_) rfl (by kernel_rfl) (by kernel_rfl) (by kernel_rfl) (fun _ _ _ h => h) (Or.inl ⟨by rfl, ?_⟩) hS ?_
         rotate_left
         ·(intro W hSW; go_simp <;> with_reducible rfl)
         simp only [nz]
         refine rdy1 9 rfl (fun K hK => ?_)
         go_simp
         refine (HP3.out _).mono ?_
         rintro r w12 ⟨rfl, ht12⟩
         have hZ12 := hZ11.then0 ht12
         go_wp2_with fail
         refine hK.out _ _ hS (fun _ => ?_)
         clear hK K
         try simp only [nz]
         refine wpAnyH_take (i := 10) (v := ?_) rfl (by kernel_rfl) (by kernel_rfl) (by kernel_rfl) (fun _ _ _ h => h) (Or.inl ⟨by rfl, ?_⟩) hS ?_
         rotate_left
         ·(intro W hSW; go_simp <;> with_reducible rfl)
         simp only [nz]
         refine wpAnyH_take (i := 11) (v := ?_) rfl (by kernel_rfl) (by kernel_rfl) (by kernel_rfl) (fun _ _ _ h => h) (Or.inl ⟨by rfl, ?_⟩) hS ?_
         rotate_left
         ·(intro W hSW; go_simp <;> with_reducible rfl)
         simp only [nz]
         refine wpAnyH_take (i := 14) (v := ?_) rfl (by kernel_rfl) (by kernel_rfl) (by kernel_rfl) (fun _ _ _ h => h) (Or.inl ⟨by rfl, ?_⟩) hS ?_
         rotate_left
         ·(intro W hSW; go_simp <;> with_reducible rfl)
         simp only [nz]
         simp only [tx32, tx_add]
         rw [hLN]
         have hOB := (HOA.out.touch0 hZ12).touch0 ((Touch.refl [] w12).alloc (.cells #[.string ⟨ln.toArray⟩] 9))
         have hrl := (ownLit w12 _ rfl 9 1 1 [.string ⟨ln.toArray⟩] rfl (by simp [maxLen])).reads
         refine rdy1 15 rfl (fun K hK => ?_)
         go_simp
         refine hK.out _ _ hS (fun _ => ?_)
         clear hK K
         try simp only [nz]
         refine rdy1 16 rfl (fun K hK => ?_)
         refine step_app_reads elem_str hOB hrl (by simp [Value.oneCell']) (by omega) (by unfold maxLen; omega) ?_
         intro v13 w13 ho13 ht13 hf13
         have HO13 := Lib.hid ho13
         have HF13 := Lib.hid hf13
         have HT13 := Lib.hid ht13
         obtain ⟨A13, c13, rfl⟩ := ho13.form
         clear ho13 hf13 ht13 hrl hOB
         refine hK.out _ _ hS (fun _ => ?_)
         clear hK K
         try simp only [nz]
         refine rdy1 17 rfl (fun K hK => ?_)
         go_simp
         refine hK.out _ _ hS (fun _ => ?_)
         clear hK K
         try simp only [nz]
         refine wpAnyH_done (by kernel_rfl) ?_ _
         go_wp2_with fail
         have hZA := hZ12.alloc (.cells #[.string ⟨ln.toArray⟩] 9)
         have hgf : g ∉ blk (Value.slice Aw acc2.length cw) := HRA.out.far HOA.out
         have hLb : ∀ b ∈ blk (Value.slice Aw acc2.length cw), bd ≤ b := fun b hb => by
          have h1 := HF2.out b hb
          have h2 := HT1.out.size
          omega
         have hsz1 := HT8.out.size
         have hsz2 := hZA.size
         refine ⟨⟨j + 1, acc2 ++ [ln], (0, pa), by omega, by go_num, by have := HAL2.out; simp; omega, OwnS.snoc HO13.out, fun b hb => ?_, (HRA.out.touch0 hZA).touchL HT13.out hgf hLb, (HT8.out.then0 hZA).step HT13.out (fun b hb => .inr (HF2.out b hb)), Lib.hid (fun h => absurd rfl h), Lib.hid (fun _ => HNX.out)⟩, by simp [intOf]; omega⟩
         rcases HF13.out b hb with h | h
         ·exact HF2.out b h
         ·omega
       ·have hcv := run_str (HBA.out.touch0 hZ)
        go_simp
        refine hK.out _ _ hS (fun _ => ?_)
        clear hK K
        try simp only [nz]
        refine rdy1 2 rfl (fun K hK => ?_)
        go_simp
        refine (HP1.out _).mono ?_
        rintro r w10 ⟨rfl, ht10⟩
        have hZ10 := hZ.then0 ht10
        go_wp2_with fail
        refine hK.out _ _ hS (fun _ => ?_)
        clear hK K
        try simp only [nz]
        refine wpAnyH_take (i := 3) (v := ?_) rfl (by kernel_rfl) (by kernel_rfl) (by kernel_rfl) (fun _ _ _ h => h) (Or.inl ⟨by rfl, ?_⟩) hS ?_
        rotate_left
        ·(intro W hSW; go_simp <;> with_reducible rfl)
        simp only [nz]
        refine rdy1 5 rfl (fun K hK => ?_)
        go_simp
        refine (HP2.out _).mono ?_
        rintro r w11 ⟨rfl, ht11⟩
        have hZ11 := hZ10.then0 ht11
        go_wp2_with fail
        refine hK.out _ _ hS (fun _ => ?_)
        clear hK K
        try simp only [nz]
        refine wpAnyH_take (i := 6) (v := ?_) rfl (by kernel_rfl) (by kernel_rfl) (by kernel_rfl) (fun _ _ _ h => h) (Or.inl ⟨by rfl, ?_⟩) hS ?_
        rotate_left
        ·(intro W hSW; go_simp <;> with_reducible rfl)
        simp only [nz]
        refine wpAnyH_take (i := 7) (v := ?_) rfl (by kernel_rfl) (by kernel_rfl) (by kernel_rfl) (fun _ _ _ h => h) (Or.inl ⟨by rfl, ?_⟩) hS ?_
        rotate_left
        ·(intro W hSW; go_simp <;> with_reducible rfl)
        simp only [nz]
        refine rdy1 9 rfl (fun K hK => ?_)
        go_simp
        refine (HP3.out _).mono ?_
        rintro r w12 ⟨rfl, ht12⟩
        have hZ12 := hZ11.then0 ht12
        go_wp2_with fail
        refine hK.out _ _ hS (fun _ => ?_)
        clear hK K
        try simp only [nz]
        refine wpAnyH_take (i := 10) (v := ?_) rfl (by kernel_rfl) (by kernel_rfl) (by kernel_rfl) (fun _ _ _ h => h) (Or.inl ⟨by rfl, ?_⟩) hS ?_
        rotate_left
        ·(intro W hSW; go_simp <;> with_reducible rfl)
        simp only [nz]
        refine wpAnyH_take (i := 11) (v := ?_) rfl (by kernel_rfl) (by kernel_rfl) (by kernel_rfl) (fun _ _ _ h => h) (Or.inl ⟨by rfl, ?_⟩) hS ?_
        rotate_left
        ·(intro W hSW; go_simp <;> with_reducible rfl)
        simp only [nz]
        refine wpAnyH_take (i := 14) (v := ?_) rfl (by kernel_rfl) (by kernel_rfl) (by kernel_rfl) (fun _ _ _ h => h) (Or.inl ⟨by rfl, ?_⟩) hS ?_
        rotate_left
        ·(intro W hSW; go_simp <;> with_reducible rfl)
        simp only [nz]
        simp only [tx32, tx_add]
        rw [hLN]
        have hOB := (HOA.out.touch0 hZ12).touch0 ((Touch.refl [] w12).alloc (.cells #[.string ⟨ln.toArray⟩] 9))
        have hrl := (ownLit w12 _ rfl 9 1 1 [.string ⟨ln.toArray⟩] rfl (by simp [maxLen])).reads
        refine rdy1 15 rfl (fun K hK => ?_)
        go_simp
        refine hK.out _ _ hS (fun _ => ?_)
        clear hK K
        try simp only [nz]
        refine rdy1 16 rfl (fun K hK => ?_)
        refine step_app_reads elem_str hOB hrl (by simp [Value.oneCell']) (by omega) (by unfold maxLen; omega) ?_
        intro v13 w13 ho13 ht13 hf13
        have HO13 := Lib.hid ho13
        have HF13 := Lib.hid hf13
        have HT13 := Lib.hid ht13
        obtain ⟨A13, c13, rfl⟩ := ho13.form
        clear ho13 hf13 ht13 hrl hOB
        refine hK.out _ _ hS (fun _ => ?_)
        clear hK K
        try simp only [nz]
        refine rdy1 17 rfl (fun K hK => ?_)
        go_simp
        refine hK.out _ _ hS (fun _ => ?_)
        clear hK K
        try simp only [nz]
        refine wpAnyH_done (by kernel_rfl) ?_ _
        go_wp2_with fail
        have hZA := hZ12.alloc (.cells #[.string ⟨ln.toArray⟩] 9)
        have hgf : g ∉ blk (Value.slice Aw acc2.length cw) := HRA.out.far HOA.out
        have hLb : ∀ b ∈ blk (Value.slice Aw acc2.length cw), bd ≤ b := fun b hb => by
         have h1 := HF2.out b hb
         have h2 := HT1.out.size
         omega
        have hsz1 := HT8.out.size
        have hsz2 := hZA.size
        refine ⟨⟨j + 1, acc2 ++ [ln], (0, pa), by omega, by go_num, by have := HAL2.out; simp; omega, OwnS.snoc HO13.out, fun b hb => ?_, (HRA.out.touch0 hZA).touchL HT13.out hgf hLb, (HT8.out.then0 hZA).step HT13.out (fun b hb => .inr (HF2.out b hb)), Lib.hid (fun h => absurd rfl h), Lib.hid (fun _ => HNX.out)⟩, by simp [intOf]; omega⟩
        rcases HF13.out b hb with h | h
        ·exact HF2.out b h
        ·omega
      ·have heb : (eq != 0) = true := by simpa using heq
       have HNO := Lib.hid (HSR.out.1 (fun h => heq (hiff.2 h.2)))
       clear HSR hiff heq
       go_wp2_with fail
       obtain ⟨k1, k2, k3⟩ := HG7.out.int2 (.slice none 0 0) (.int .i64 6)
       refine bodyPost_ret (v := .tuple #[.slice none 0 0, .agg #[.slice none 0 0, .int .i64 6]]) (by simp [results, Tryz.results55, go_sem, k1, k2]) rfl ⟨_, _, rfl, (HT1.out.step HT8.out (fun m hm => .inr (by rw [List.mem_singleton] at hm; omega))).step k3 (fun m hm => .inr (by rw [List.mem_singleton] at hm; omega)), ?_⟩
       rw [HNO.out]
       exact ⟨6, 0, by omega, none, 0, 0, rfl, fun h => absurd h (by omega)⟩
     ·have heb : (pe != 0) = true := by simpa using hpe
      have HNO := Lib.hid (HSR.out.1 (fun h => hpe h.1))
      clear HSR hiff hpe
      go_wp2_with fail
      obtain ⟨k1, k2, k3⟩ := HG7.out.int2 (.slice none 0 0) (.int .i64 6)
      refine bodyPost_ret (v := .tuple #[.slice none 0 0, .agg #[.slice none 0 0, .int .i64 6]]) (by simp [results, Tryz.results55, go_sem, k1, k2]) rfl ⟨_, _, rfl, (HT1.out.step HT8.out (fun m hm => .inr (by rw [List.mem_singleton] at hm; omega))).step k3 (fun m hm => .inr (by rw [List.mem_singleton] at hm; omega)), ?_⟩
      rw [HNO.out]
      exact ⟨6, 0, by omega, none, 0, 0, rfl, fun h => absurd h (by omega)⟩
    ·have hlt2' : ¬ (j : Int) < (M : Int) := by omega
     obtain rfl : j = M := by omega
     have HO := Lib.hid ho2
     have HF2 := Lib.hid hf2
     have HRC := Lib.hid hrc2
     have HTR := Lib.hid ht2
     have HAL2 := Lib.hid hal2
     clear ho2 hf2 hrc2 ht2 hal2 hj hlt2
     go_wp2_with fail
     go_roundw
     case rel => exact ⟨i + 1, acc2, s2, by omega, by go_num, by have := HAL2.out; omega, HO.out, HF2.out, HRC.out, HTR.out, Lib.hid (fun h => (HB2.out h).2), Lib.hid (fun h => by rw [HG2.out h, Nat.sub_self]; rfl)⟩
     case measure => simp [intOf]; omega
  ·have hlt' : ¬ (i : Int) < (N : Int) := by omega
   have HI := Lib.hid (show i = N by omega)
   obtain ⟨A0, n0, c0, hr0, q0, q1, f0, f1⟩ := hrc.cells
   have HR0 := Lib.hid hr0
   have HGG := Lib.hid (HG3.out.touch ht (by simp; omega))
   obtain ⟨p0, p1, pf0, pf1⟩ := HGG.out.two
   have HO := Lib.hid ho
   have HTR := Lib.hid ht
   obtain ⟨se, sa⟩ := s
   dsimp only at HR0 q0 q1 HB1 HG1
   clear hr0 ho ht hi hlt hrc
   go_wp2_with fail
   go_region_with (fail)
   all_goals
    go_wp2_with fail
    obtain ⟨k1, k2, k3⟩ := HGG.out.int2 (.slice A0 n0 c0) (.int .i64 se)
    have k0 := HGG.out.one (.slice A0 n0 c0)
    have k4 := ((HT1.out.step HTR.out (fun m hm => .inr (by rw [List.mem_singleton] at hm; omega))).step k3 (fun m hm => .inr (by rw [List.mem_singleton] at hm; omega))).drew
    have k5 := (OwnS.touch HO.out k3 (fun b hb hm => by rw [List.mem_singleton] at hm; have h1 := HF.out b hb; have h2 := HG3.out.lt; omega)).touch0 ((Touch.refl [] _).drew)
    have k6 := (HR0.out.touch k3 HGG.out rd_cells).touch0 ((Touch.refl [] _).drew)
    refine bodyPost_ret (v := .tuple #[.slice Aq acc.length cq, .agg #[.slice A0 n0 c0, .int .i64 se]]) (by simp [results, Tryz.results55, go_sem, k0, k1, k2]) rfl ⟨_, _, rfl, k4, ?_⟩
    by_cases h0 : se = 0
    ·have e9 : res = some (acc, sa) := by rw [HG1.out h0, HI.out, Nat.sub_self]; rfl
     rw [e9]
     subst h0
     exact ⟨k5, fun b hb => by have h1 := HF.out b hb; have h2 := HT1.out.size; omega, k6⟩
    ·rw [(HB1.out h0)]
     exact ⟨se, sa, h0, k6⟩
end Go.Proofs.YtedpaajpfaoffaaGreatDoor
