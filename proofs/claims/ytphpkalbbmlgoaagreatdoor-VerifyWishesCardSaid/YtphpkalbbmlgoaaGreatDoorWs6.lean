/- The law VerifyWishes in a world, given its example. -/
import Derived.Test.YtphpkalbbmlgoaaGreatDoorWsB
import Derived.Deep.DeepCutAuto
namespace Go.Proofs.YtphpkalbbmlgoaaGreatDoor
open Go.RowKit
set_option linter.unusedSimpArgs false

theorem wpAnyH_mono6 {P : Program} {ops : Array Oper} {Q : Exit → Act → World → Prop} {md : Region.Mode} {S S' : World → Prop} (hS : ∀ w, S' w → S w) :
    ∀ (fuel : Nat) (listed : Array Bool) (a : Act) (w : World), wpAnyH P md ops Q S' fuel listed a w → wpAnyH P md ops Q S fuel listed a w
  | 0, _, _, _, h => h
  | fuel + 1, _, _, _, h => ⟨h.1, fun i hi => wpOp_mono (fun a' w' h' => ⟨hS w' h'.1, wpAnyH_mono6 hS fuel _ a' w' h'.2⟩) (h.2 i hi)⟩

def wishMk (n : Nat) : List Wx := (List.range n).map (fun i : Nat => ⟨(i : Int) / 12, (i : Int) % 12, 0⟩)

theorem wishMk_len (n : Nat) : (wishMk n).length = n := by simp [wishMk]

theorem wishMk_succ (n : Nat) : wishMk (n + 1) = wishMk n ++ [⟨(n : Int) / 12, (n : Int) % 12, 0⟩] := by simp [wishMk, List.range_succ]

def WmRel (w : World) (n : Nat) (tl ti : Value) (wr : World) : Prop := ∃ k : Nat, k ≤ n ∧ ti = .int .i64 k ∧ Own wr 26 3 tl k ((wishMk k).flatMap Wx.cells) ∧ Touch [] w wr ∧ ∀ g ∈ blk tl, w.heap.size ≤ g

theorem wishMk_fit (n : Nat) (h : n ≤ 100000) : ∀ x ∈ wishMk n, x.Fit := fun x hx => by
  unfold wishMk at hx
  obtain ⟨i, hi, rfl⟩ := List.mem_map.1 hx
  have := List.mem_range.1 hi
  unfold Wx.Fit Fits
  simp only
  omega

theorem wishMk_own {w : World} {v : Value} {n : Nat} (h : Own w 26 3 v n ((wishMk n).flatMap Wx.cells)) (hn : n ≤ 100000) : Wishes w v (wishMk n) := ⟨by rw [wishMk_len]; exact Own.reads h, wishMk_fit n hn⟩

def CmRel (w : World) (n : Nat) (ti : Value) (wr : World) : Prop := ∃ k : Nat, k ≤ n ∧ ti = .int .i64 k ∧ Touch [] w wr

set_option maxRecDepth 100000 in
set_option maxHeartbeats 16000000 in
theorem wishes_law (v u : Value) (xs : List Wx) (many : Int) (L : List UInt8) (w : World) (hv : Wishes w v xs) (hu : Bytes w u L) (hm : Fits many) (HKN : Hid (∀ W, Touch [] w W → Calls Tryz.prog 5 #[] W fun r w' => r = .returned (.bool true) ∧ Touch [] W w')) : Calls Tryz.prog 3 #[v, .int .i64 many, u] w fun r w' => r = .returned (.bool true) ∧ Touch [] w w' := by
  obtain ⟨A, cap, rfl, -⟩ := id hv.1
  obtain ⟨B, capb, rfl, -⟩ := id hu
  by_cases hl : 20 < xs.length
  · have hl' : (20 : Int) < (xs.length : Int) := by omega
    clear hv hu
    go_enter Tryz.func3, Tryz.ntmps3
    go_wp2_with fail
    refine (HKN.out _ (Touch.refl _ _)).mono ?_
    rintro r wk ⟨rfl, htk⟩
    go_wp2_with fail
    go_ret
    exact ⟨rfl, htk⟩
  have hl' : ¬ (20 : Int) < (xs.length : Int) := by omega
  by_cases hb : 200 < L.length
  · have hb' : (200 : Int) < (L.length : Int) := by omega
    clear hv hu
    go_enter Tryz.func3, Tryz.ntmps3
    go_wp2_with fail
    refine (HKN.out _ (Touch.refl _ _)).mono ?_
    rintro r wk ⟨rfl, htk⟩
    go_wp2_with fail
    go_ret
    exact ⟨rfl, htk⟩
  have hb' : ¬ (200 : Int) < (L.length : Int) := by omega
  have HENC := Lib.hid (fun (W : World) (V : Value) (ys : List Wx) (h : Wishes W V ys) => encwishes_any V ys W h)
  have HVAL := Lib.hid (fun (W : World) (V : Value) (ys : List Wx) (h : Wishes W V ys) => lawvalid_any V ys W h)
  have HLE := Lib.hid (fun (W : World) (V : Value) (ys : List Wx) (h : Wishes W V ys) (e : wishB ys = true) => lawencode_any V ys W h e)
  have HDE := Lib.hid (fun (W : World) (V : Value) (h : Bytes W V L) => decwishes_any V L W h (by omega))
  have HWI := Lib.hid (fun (W : World) (h : Touch [] w W) => lawwishes_any _ L W (Reads.touch0 hu h) (by omega))
  have HU := Lib.hid (fun (W : World) (h : Touch [] w W) => show Bytes W _ L from Reads.touch0 hu h)
  have HV := Lib.hid (fun (W : World) (h : Touch [] w W) => hv.touch0 h)
  have HBL : Hid (L.length ≤ 200) := Lib.hid (by omega)
  unfold EncWPost encWE encWL at HENC
  unfold DecWPost at HDE HWI
  generalize decW L = dw at *
  clear hv hu
  by_cases hm1 : 495 ≤ many ∧ many ≤ 505
  case neg =>
    have HW := Lib.hid (HV.out _ (Touch.refl _ _))
    have TT0 : Hid (Touch [] w w) := Lib.hid (Touch.refl _ _)
    by_cases hm2 : 495 ≤ many
    · have hm3 : ¬ many ≤ 505 := fun h => hm1 ⟨hm2, h⟩
      clear hm1
      go_enter Tryz.func3, Tryz.ntmps3
      cases hwb : wishB xs with
      | true =>
        have HE1 := Lib.hid (HENC.out _ _ _ HW.out)
        rw [hwb] at HE1
        simp only [if_true, if_false, Bool.false_eq_true, reduceIte] at HE1
        go_wp2_with fail
        refine HE1.out.mono ?_
        rintro r w1 ⟨v1, rfl, hr1, ht1⟩
        have HW1 := Lib.hid (HW.out.touch0 ht1)
        have HVA := Lib.hid (HVAL.out _ _ _ HW1.out)
        rw [hwb] at HVA
        have TT1 := Lib.hid (TT0.out.then0 ht1)
        go_wp2_with fail
        refine HVA.out.mono ?_
        rintro r w2 ⟨rfl, ht2⟩
        have TT2 := Lib.hid (TT1.out.then0 ht2)
        have HW2 := Lib.hid (HW1.out.touch0 ht2)
        have HEN := Lib.hid (fun (W : World) (t : Touch [] w2 W) => HLE.out _ _ _ (HW2.out.touch0 t) hwb)
        have HR2 := Lib.hid (show Row w2 v1 _ from Own.touch0 hr1 ht2)
        have KP := Lib.hid (fun (W : World) (t : Touch [] w2 W) => run_str (Row.bytes (show Row W v1 _ from Own.touch0 HR2.out t)))
        clear hr1 ht1 ht2
        go_wp2_with fail
        refine wp_region_held_drew (S := fun W => Touch [] w2 W) (by kernel_rfl) (Touch.refl _ w2).drew (fun hS => ?_)
        refine wpAnyH_take (i := 0) (v := ?_) rfl (by kernel_rfl) (by kernel_rfl) (by kernel_rfl) (fun _ _ _ h => h) (Or.inl ⟨by rfl, ?_⟩) hS ?_
        rotate_left
        · (intro W hSW; go_simp <;> with_reducible rfl)
        simp only [Act.put, List.setIfInBounds_toArray, List.set_cons_zero, List.set_cons_succ, List.getElem_toArray, List.getElem_cons_zero]
        refine wpAnyH_take (i := 1) (v := ?_) rfl (by kernel_rfl) (by kernel_rfl) (by kernel_rfl) (fun _ _ _ h => h) (Or.inl ⟨by rfl, ?_⟩) hS ?_
        rotate_left
        · (intro W hSW; have e := KP.out W hSW; go_simp <;> with_reducible rfl)
        simp only [Act.put, List.setIfInBounds_toArray, List.set_cons_zero, List.set_cons_succ, List.getElem_toArray, List.getElem_cons_succ, List.getElem_cons_zero]
        refine wpAnyH_take (i := 2) (v := ?_) rfl (by kernel_rfl) (by kernel_rfl) (by kernel_rfl) (fun _ _ _ h => h) (Or.inl ⟨by rfl, ?_⟩) hS ?_
        rotate_left
        · (intro W hSW; go_simp <;> with_reducible rfl)
        simp only [Act.put, List.setIfInBounds_toArray, List.set_cons_zero, List.set_cons_succ, List.getElem_toArray, List.getElem_cons_succ, List.getElem_cons_zero]
        refine wpAnyH_ready (rs := [3]) (by kernel_rfl) (by simp) (AllReadyH.cons rfl (fun K hK => ?_) AllReadyH.nil)
        go_simp
        refine (HEN.out _ hS).mono ?_
        rintro r w3 ⟨v2, rfl, hr3, ht3⟩
        have hS3 := hS.then0 ht3
        go_wp2_with fail
        refine hK.out _ _ hS3 (fun _ => ?_)
        clear hK K
        try simp only [Act.put, List.setIfInBounds_toArray, List.set_cons_zero, List.set_cons_succ, List.getElem_toArray, List.getElem_cons_succ, List.getElem_cons_zero]
        refine wpAnyH_mono6 (S' := fun W => Touch [] w3 W) (fun W h => hS3.then0 h) _ _ _ _ ?_
        have KE := Lib.hid (fun (W : World) (h : Touch [] w3 W) => run_str (Row.bytes (show Row W v2 _ from Own.touch0 hr3 h)))
        have hR3 := Touch.refl [] w3
        refine wpAnyH_take (i := 4) (v := ?_) rfl (by kernel_rfl) (by kernel_rfl) (by kernel_rfl) (fun _ _ _ h => h) (Or.inl ⟨by rfl, ?_⟩) hR3 ?_
        rotate_left
        · (intro W hSW; have e := KE.out W hSW; go_simp <;> with_reducible rfl)
        simp only [Act.put, List.setIfInBounds_toArray, List.set_cons_zero, List.set_cons_succ, List.getElem_toArray, List.getElem_cons_succ, List.getElem_cons_zero]
        refine wpAnyH_take (i := 5) (v := ?_) rfl (by kernel_rfl) (by kernel_rfl) (by kernel_rfl) (fun _ _ _ h => h) (Or.inl ⟨by rfl, ?_⟩) hR3 ?_
        rotate_left
        · (intro W hSW; go_simp <;> with_reducible rfl)
        simp only [Act.put, List.setIfInBounds_toArray, List.set_cons_zero, List.set_cons_succ, List.getElem_toArray, List.getElem_cons_succ, List.getElem_cons_zero]
        refine wpAnyH_take (i := 6) (v := ?_) rfl (by kernel_rfl) (by kernel_rfl) (by kernel_rfl) (fun _ _ _ h => h) (Or.inl ⟨by rfl, ?_⟩) hR3 ?_
        rotate_left
        · (intro W hSW; go_simp <;> with_reducible rfl)
        simp only [Act.put, List.setIfInBounds_toArray, List.set_cons_zero, List.set_cons_succ, List.getElem_toArray, List.getElem_cons_succ, List.getElem_cons_zero]
        refine wpAnyH_take (i := 7) (v := ?_) rfl (by kernel_rfl) (by kernel_rfl) (by kernel_rfl) (fun _ _ _ h => h) (Or.inl ⟨by rfl, ?_⟩) hR3 ?_
        rotate_left
        · (intro W hSW; go_simp <;> with_reducible rfl)
        simp only [Act.put, List.setIfInBounds_toArray, List.set_cons_zero, List.set_cons_succ, List.getElem_toArray, List.getElem_cons_succ, List.getElem_cons_zero]
        refine wpAnyH_take (i := 8) (v := ?_) rfl (by kernel_rfl) (by kernel_rfl) (by kernel_rfl) (fun _ _ _ h => h) (Or.inl ⟨by rfl, ?_⟩) hR3 ?_
        rotate_left
        · (intro W hSW; go_simp <;> with_reducible rfl)
        simp only [Act.put, List.setIfInBounds_toArray, List.set_cons_zero, List.set_cons_succ, List.getElem_toArray, List.getElem_cons_succ, List.getElem_cons_zero]
        refine wpAnyH_take (i := 9) (v := ?_) rfl (by kernel_rfl) (by kernel_rfl) (by kernel_rfl) (fun _ _ _ h => h) (Or.inl ⟨by rfl, ?_⟩) hR3 ?_
        rotate_left
        · (intro W hSW; go_simp <;> with_reducible rfl)
        simp only [Act.put, List.setIfInBounds_toArray, List.set_cons_zero, List.set_cons_succ, List.getElem_toArray, List.getElem_cons_succ, List.getElem_cons_zero]
        refine wpAnyH_done (by kernel_rfl) ?_ _
        have TT3 := Lib.hid (TT2.out.then0 hS3)
        clear hR3 hr3 ht3 hS3 hS
        have HUB := Lib.hid (HU.out _ TT3.out)
        go_wp2_with (at_builtin; go_must (refine app_reads elem_u8 (Own.nil _ _ 1) HUB.out (B_ones L) (by have := HBL.out; simp; omega) (by have := HBL.out; unfold maxLen; simp; omega) ?_); intro v4 w4 ho4 ht4 hf4; obtain ⟨A4, cap4, rfl⟩ := Own.form ho4)
        simp only [Nat.zero_add, List.nil_append] at ho4 hf4 ⊢
        have HB4 := Lib.hid (show Bytes w4 _ L from Row.bytes ho4)
        have TT4 := Lib.hid (TT3.out.then0 (ht4.shed (by simp [blk])))
        clear ho4 ht4 hf4
        go_wp2_with fail
        refine (HDE.out _ _ HB4.out).mono ?_
        rintro r w5 ⟨v5, rfl, hx5, ht5⟩
        have TT5 := Lib.hid (TT4.out.then0 ht5)
        go_wp2_with fail
        refine (HWI.out _ TT5.out).mono ?_
        rintro r w6 ⟨v6, rfl, hx6, ht6⟩
        have TT6 := Lib.hid (TT5.out.then0 ht6)
        have HX5 := Lib.hid (hx5.touch0 ht6)
        have HX6 := Lib.hid hx6
        obtain ⟨A5, c5, hv5, -⟩ := id hx5.1
        obtain ⟨A6, c6, hv6, -⟩ := id hx6.1
        subst hv5 hv6
        clear hx5 hx6 ht5 ht6 HWI HDE HENC HVAL HLE HU HV
        obtain ⟨ee, ys⟩ := dw
        simp only at HX5 HX6 ⊢
        go_wp2_with fail
        go_loopw [14] (fun ti wr => CmRel w6 ys.length ti wr) (fun ti _ => ys.length - (intOf ti).toNat)
        case atStart => exact ⟨0, by omega, rfl, Touch.refl _ _⟩
        case round =>
          obtain ⟨k, hk, rfl, ht⟩ := hrel
          by_cases hlt : k < ys.length
          case neg =>
            have hlt' : ¬ (k : Int) < (ys.length : Int) := by omega
            go_wp2_with fail
            refine (HKN.out _ (TT6.out.then0 ht)).mono ?_
            rintro r wk ⟨rfl, htk⟩
            go_wp2_with fail
            go_ret
            exact ⟨rfl, (TT6.out.then0 ht).then0 htk⟩
          have hlt' : (k : Int) < (ys.length : Int) := by omega
          obtain ⟨b5, o5, c5', e5, hb5, -, -⟩ := HX5.out.addr (by omega)
          injection e5 with e5 _ e5'
          subst e5 e5'
          obtain ⟨b6, o6, c6', e6, hb6, -, -⟩ := HX6.out.addr (by omega)
          injection e6 with e6 _ e6'
          subst e6 e6'
          have HC := Lib.hid (fun (W : World) (t : Touch [] wr W) => show (W.cell? ⟨b5, o5 + k * 3, none⟩ = some (I ys[k].ar) ∧ W.cell? ⟨b5, o5 + k * 3 + 1, none⟩ = some (I ys[k].st) ∧ W.cell? ⟨b5, o5 + k * 3 + 2, none⟩ = some (I ys[k].vl)) ∧ (W.cell? ⟨b6, o6 + k * 3, none⟩ = some (I ys[k].ar) ∧ W.cell? ⟨b6, o6 + k * 3 + 1, none⟩ = some (I ys[k].st) ∧ W.cell? ⟨b6, o6 + k * 3 + 2, none⟩ = some (I ys[k].vl)) from ⟨((HX5.out.touch0 ht).touch0 t).elem hlt rfl, ((HX6.out.touch0 ht).touch0 t).elem hlt rfl⟩)
          obtain ⟨⟨a0, a1, a2⟩, d0, d1, d2⟩ := HC.out wr (Touch.refl _ _)
          have hb5' : b5 < wr.heap.size := Nat.lt_of_lt_of_le hb5 ht.size
          have hb6' : b6 < wr.heap.size := Nat.lt_of_lt_of_le hb6 ht.size
          unfold I at a0 a1 a2 d0 d1 d2 HC
          have HTT := Lib.hid ht
          have HWR : Hid (wrap64 ((k : Int) + 1) = (k : Int) + 1) := Lib.hid (by obtain ⟨_, _, q1, q2, q3, _⟩ := HX5.out.1; injection q1 with _ q4 q5; unfold maxLen at q3; unfold wrap64; omega)
          clear hb5 hb6 ht
          have h0k : (0 : Int) ≤ (k : Int) := by omega
          go_wp2_with fail
          go_quiet (fail)
          go_wp2_with fail
          rw [HWR.out]
          go_roundw
          case rel => exact ⟨k + 1, hlt, by go_num, HTT.out.drewN _⟩
          case measure => simp [intOf]; omega
      | false =>
        have HE1 := Lib.hid (HENC.out _ _ _ HW.out)
        rw [hwb] at HE1
        simp only [if_true, if_false, Bool.false_eq_true, reduceIte] at HE1
        go_wp2_with fail
        refine HE1.out.mono ?_
        rintro r w1 ⟨v1, rfl, hr1, ht1⟩
        have HW1 := Lib.hid (HW.out.touch0 ht1)
        have HVA := Lib.hid (HVAL.out _ _ _ HW1.out)
        rw [hwb] at HVA
        obtain ⟨A1, c1, rfl⟩ := Own.form hr1
        simp only [List.length_nil] at hr1 ⊢
        have TT1 := Lib.hid (TT0.out.then0 ht1)
        go_wp2_with fail
        refine HVA.out.mono ?_
        rintro r w2 ⟨rfl, ht2⟩
        have TT2 := Lib.hid (TT1.out.then0 ht2)
        clear hr1 ht1 ht2
        have HUB := Lib.hid (HU.out _ TT2.out)
        go_wp2_with (at_builtin; go_must (refine app_reads elem_u8 (Own.nil _ _ 1) HUB.out (B_ones L) (by have := HBL.out; simp; omega) (by have := HBL.out; unfold maxLen; simp; omega) ?_); intro v4 w4 ho4 ht4 hf4; obtain ⟨A4, cap4, rfl⟩ := Own.form ho4)
        simp only [Nat.zero_add, List.nil_append] at ho4 hf4 ⊢
        have HB4 := Lib.hid (show Bytes w4 _ L from Row.bytes ho4)
        have TT4 := Lib.hid (TT2.out.then0 (ht4.shed (by simp [blk])))
        clear ho4 ht4 hf4
        go_wp2_with fail
        refine (HDE.out _ _ HB4.out).mono ?_
        rintro r w5 ⟨v5, rfl, hx5, ht5⟩
        have TT5 := Lib.hid (TT4.out.then0 ht5)
        go_wp2_with fail
        refine (HWI.out _ TT5.out).mono ?_
        rintro r w6 ⟨v6, rfl, hx6, ht6⟩
        have TT6 := Lib.hid (TT5.out.then0 ht6)
        have HX5 := Lib.hid (hx5.touch0 ht6)
        have HX6 := Lib.hid hx6
        obtain ⟨A5, c5, hv5, -⟩ := id hx5.1
        obtain ⟨A6, c6, hv6, -⟩ := id hx6.1
        subst hv5 hv6
        clear hx5 hx6 ht5 ht6 HWI HDE HENC HVAL HLE HU HV
        obtain ⟨ee, ys⟩ := dw
        simp only at HX5 HX6 ⊢
        go_wp2_with fail
        go_loopw [14] (fun ti wr => CmRel w6 ys.length ti wr) (fun ti _ => ys.length - (intOf ti).toNat)
        case atStart => exact ⟨0, by omega, rfl, Touch.refl _ _⟩
        case round =>
          obtain ⟨k, hk, rfl, ht⟩ := hrel
          by_cases hlt : k < ys.length
          case neg =>
            have hlt' : ¬ (k : Int) < (ys.length : Int) := by omega
            go_wp2_with fail
            refine (HKN.out _ (TT6.out.then0 ht)).mono ?_
            rintro r wk ⟨rfl, htk⟩
            go_wp2_with fail
            go_ret
            exact ⟨rfl, (TT6.out.then0 ht).then0 htk⟩
          have hlt' : (k : Int) < (ys.length : Int) := by omega
          obtain ⟨b5, o5, c5', e5, hb5, -, -⟩ := HX5.out.addr (by omega)
          injection e5 with e5 _ e5'
          subst e5 e5'
          obtain ⟨b6, o6, c6', e6, hb6, -, -⟩ := HX6.out.addr (by omega)
          injection e6 with e6 _ e6'
          subst e6 e6'
          have HC := Lib.hid (fun (W : World) (t : Touch [] wr W) => show (W.cell? ⟨b5, o5 + k * 3, none⟩ = some (I ys[k].ar) ∧ W.cell? ⟨b5, o5 + k * 3 + 1, none⟩ = some (I ys[k].st) ∧ W.cell? ⟨b5, o5 + k * 3 + 2, none⟩ = some (I ys[k].vl)) ∧ (W.cell? ⟨b6, o6 + k * 3, none⟩ = some (I ys[k].ar) ∧ W.cell? ⟨b6, o6 + k * 3 + 1, none⟩ = some (I ys[k].st) ∧ W.cell? ⟨b6, o6 + k * 3 + 2, none⟩ = some (I ys[k].vl)) from ⟨((HX5.out.touch0 ht).touch0 t).elem hlt rfl, ((HX6.out.touch0 ht).touch0 t).elem hlt rfl⟩)
          obtain ⟨⟨a0, a1, a2⟩, d0, d1, d2⟩ := HC.out wr (Touch.refl _ _)
          have hb5' : b5 < wr.heap.size := Nat.lt_of_lt_of_le hb5 ht.size
          have hb6' : b6 < wr.heap.size := Nat.lt_of_lt_of_le hb6 ht.size
          unfold I at a0 a1 a2 d0 d1 d2 HC
          have HTT := Lib.hid ht
          have HWR : Hid (wrap64 ((k : Int) + 1) = (k : Int) + 1) := Lib.hid (by obtain ⟨_, _, q1, q2, q3, _⟩ := HX5.out.1; injection q1 with _ q4 q5; unfold maxLen at q3; unfold wrap64; omega)
          clear hb5 hb6 ht
          have h0k : (0 : Int) ≤ (k : Int) := by omega
          go_wp2_with fail
          go_quiet (fail)
          go_wp2_with fail
          rw [HWR.out]
          go_roundw
          case rel => exact ⟨k + 1, hlt, by go_num, HTT.out.drewN _⟩
          case measure => simp [intOf]; omega
    · clear hm1
      go_enter Tryz.func3, Tryz.ntmps3
      cases hwb : wishB xs with
      | true =>
        have HE1 := Lib.hid (HENC.out _ _ _ HW.out)
        rw [hwb] at HE1
        simp only [if_true, if_false, Bool.false_eq_true, reduceIte] at HE1
        go_wp2_with fail
        refine HE1.out.mono ?_
        rintro r w1 ⟨v1, rfl, hr1, ht1⟩
        have HW1 := Lib.hid (HW.out.touch0 ht1)
        have HVA := Lib.hid (HVAL.out _ _ _ HW1.out)
        rw [hwb] at HVA
        have TT1 := Lib.hid (TT0.out.then0 ht1)
        go_wp2_with fail
        refine HVA.out.mono ?_
        rintro r w2 ⟨rfl, ht2⟩
        have TT2 := Lib.hid (TT1.out.then0 ht2)
        have HW2 := Lib.hid (HW1.out.touch0 ht2)
        have HEN := Lib.hid (fun (W : World) (t : Touch [] w2 W) => HLE.out _ _ _ (HW2.out.touch0 t) hwb)
        have HR2 := Lib.hid (show Row w2 v1 _ from Own.touch0 hr1 ht2)
        have KP := Lib.hid (fun (W : World) (t : Touch [] w2 W) => run_str (Row.bytes (show Row W v1 _ from Own.touch0 HR2.out t)))
        clear hr1 ht1 ht2
        go_wp2_with fail
        refine wp_region_held_drew (S := fun W => Touch [] w2 W) (by kernel_rfl) (Touch.refl _ w2).drew (fun hS => ?_)
        refine wpAnyH_take (i := 0) (v := ?_) rfl (by kernel_rfl) (by kernel_rfl) (by kernel_rfl) (fun _ _ _ h => h) (Or.inl ⟨by rfl, ?_⟩) hS ?_
        rotate_left
        · (intro W hSW; go_simp <;> with_reducible rfl)
        simp only [Act.put, List.setIfInBounds_toArray, List.set_cons_zero, List.set_cons_succ, List.getElem_toArray, List.getElem_cons_zero]
        refine wpAnyH_take (i := 1) (v := ?_) rfl (by kernel_rfl) (by kernel_rfl) (by kernel_rfl) (fun _ _ _ h => h) (Or.inl ⟨by rfl, ?_⟩) hS ?_
        rotate_left
        · (intro W hSW; have e := KP.out W hSW; go_simp <;> with_reducible rfl)
        simp only [Act.put, List.setIfInBounds_toArray, List.set_cons_zero, List.set_cons_succ, List.getElem_toArray, List.getElem_cons_succ, List.getElem_cons_zero]
        refine wpAnyH_take (i := 2) (v := ?_) rfl (by kernel_rfl) (by kernel_rfl) (by kernel_rfl) (fun _ _ _ h => h) (Or.inl ⟨by rfl, ?_⟩) hS ?_
        rotate_left
        · (intro W hSW; go_simp <;> with_reducible rfl)
        simp only [Act.put, List.setIfInBounds_toArray, List.set_cons_zero, List.set_cons_succ, List.getElem_toArray, List.getElem_cons_succ, List.getElem_cons_zero]
        refine wpAnyH_ready (rs := [3]) (by kernel_rfl) (by simp) (AllReadyH.cons rfl (fun K hK => ?_) AllReadyH.nil)
        go_simp
        refine (HEN.out _ hS).mono ?_
        rintro r w3 ⟨v2, rfl, hr3, ht3⟩
        have hS3 := hS.then0 ht3
        go_wp2_with fail
        refine hK.out _ _ hS3 (fun _ => ?_)
        clear hK K
        try simp only [Act.put, List.setIfInBounds_toArray, List.set_cons_zero, List.set_cons_succ, List.getElem_toArray, List.getElem_cons_succ, List.getElem_cons_zero]
        refine wpAnyH_mono6 (S' := fun W => Touch [] w3 W) (fun W h => hS3.then0 h) _ _ _ _ ?_
        have KE := Lib.hid (fun (W : World) (h : Touch [] w3 W) => run_str (Row.bytes (show Row W v2 _ from Own.touch0 hr3 h)))
        have hR3 := Touch.refl [] w3
        refine wpAnyH_take (i := 4) (v := ?_) rfl (by kernel_rfl) (by kernel_rfl) (by kernel_rfl) (fun _ _ _ h => h) (Or.inl ⟨by rfl, ?_⟩) hR3 ?_
        rotate_left
        · (intro W hSW; have e := KE.out W hSW; go_simp <;> with_reducible rfl)
        simp only [Act.put, List.setIfInBounds_toArray, List.set_cons_zero, List.set_cons_succ, List.getElem_toArray, List.getElem_cons_succ, List.getElem_cons_zero]
        refine wpAnyH_take (i := 5) (v := ?_) rfl (by kernel_rfl) (by kernel_rfl) (by kernel_rfl) (fun _ _ _ h => h) (Or.inl ⟨by rfl, ?_⟩) hR3 ?_
        rotate_left
        · (intro W hSW; go_simp <;> with_reducible rfl)
        simp only [Act.put, List.setIfInBounds_toArray, List.set_cons_zero, List.set_cons_succ, List.getElem_toArray, List.getElem_cons_succ, List.getElem_cons_zero]
        refine wpAnyH_take (i := 6) (v := ?_) rfl (by kernel_rfl) (by kernel_rfl) (by kernel_rfl) (fun _ _ _ h => h) (Or.inl ⟨by rfl, ?_⟩) hR3 ?_
        rotate_left
        · (intro W hSW; go_simp <;> with_reducible rfl)
        simp only [Act.put, List.setIfInBounds_toArray, List.set_cons_zero, List.set_cons_succ, List.getElem_toArray, List.getElem_cons_succ, List.getElem_cons_zero]
        refine wpAnyH_take (i := 7) (v := ?_) rfl (by kernel_rfl) (by kernel_rfl) (by kernel_rfl) (fun _ _ _ h => h) (Or.inl ⟨by rfl, ?_⟩) hR3 ?_
        rotate_left
        · (intro W hSW; go_simp <;> with_reducible rfl)
        simp only [Act.put, List.setIfInBounds_toArray, List.set_cons_zero, List.set_cons_succ, List.getElem_toArray, List.getElem_cons_succ, List.getElem_cons_zero]
        refine wpAnyH_take (i := 8) (v := ?_) rfl (by kernel_rfl) (by kernel_rfl) (by kernel_rfl) (fun _ _ _ h => h) (Or.inl ⟨by rfl, ?_⟩) hR3 ?_
        rotate_left
        · (intro W hSW; go_simp <;> with_reducible rfl)
        simp only [Act.put, List.setIfInBounds_toArray, List.set_cons_zero, List.set_cons_succ, List.getElem_toArray, List.getElem_cons_succ, List.getElem_cons_zero]
        refine wpAnyH_take (i := 9) (v := ?_) rfl (by kernel_rfl) (by kernel_rfl) (by kernel_rfl) (fun _ _ _ h => h) (Or.inl ⟨by rfl, ?_⟩) hR3 ?_
        rotate_left
        · (intro W hSW; go_simp <;> with_reducible rfl)
        simp only [Act.put, List.setIfInBounds_toArray, List.set_cons_zero, List.set_cons_succ, List.getElem_toArray, List.getElem_cons_succ, List.getElem_cons_zero]
        refine wpAnyH_done (by kernel_rfl) ?_ _
        have TT3 := Lib.hid (TT2.out.then0 hS3)
        clear hR3 hr3 ht3 hS3 hS
        have HUB := Lib.hid (HU.out _ TT3.out)
        go_wp2_with (at_builtin; go_must (refine app_reads elem_u8 (Own.nil _ _ 1) HUB.out (B_ones L) (by have := HBL.out; simp; omega) (by have := HBL.out; unfold maxLen; simp; omega) ?_); intro v4 w4 ho4 ht4 hf4; obtain ⟨A4, cap4, rfl⟩ := Own.form ho4)
        simp only [Nat.zero_add, List.nil_append] at ho4 hf4 ⊢
        have HB4 := Lib.hid (show Bytes w4 _ L from Row.bytes ho4)
        have TT4 := Lib.hid (TT3.out.then0 (ht4.shed (by simp [blk])))
        clear ho4 ht4 hf4
        go_wp2_with fail
        refine (HDE.out _ _ HB4.out).mono ?_
        rintro r w5 ⟨v5, rfl, hx5, ht5⟩
        have TT5 := Lib.hid (TT4.out.then0 ht5)
        go_wp2_with fail
        refine (HWI.out _ TT5.out).mono ?_
        rintro r w6 ⟨v6, rfl, hx6, ht6⟩
        have TT6 := Lib.hid (TT5.out.then0 ht6)
        have HX5 := Lib.hid (hx5.touch0 ht6)
        have HX6 := Lib.hid hx6
        obtain ⟨A5, c5, hv5, -⟩ := id hx5.1
        obtain ⟨A6, c6, hv6, -⟩ := id hx6.1
        subst hv5 hv6
        clear hx5 hx6 ht5 ht6 HWI HDE HENC HVAL HLE HU HV
        obtain ⟨ee, ys⟩ := dw
        simp only at HX5 HX6 ⊢
        go_wp2_with fail
        go_loopw [14] (fun ti wr => CmRel w6 ys.length ti wr) (fun ti _ => ys.length - (intOf ti).toNat)
        case atStart => exact ⟨0, by omega, rfl, Touch.refl _ _⟩
        case round =>
          obtain ⟨k, hk, rfl, ht⟩ := hrel
          by_cases hlt : k < ys.length
          case neg =>
            have hlt' : ¬ (k : Int) < (ys.length : Int) := by omega
            go_wp2_with fail
            refine (HKN.out _ (TT6.out.then0 ht)).mono ?_
            rintro r wk ⟨rfl, htk⟩
            go_wp2_with fail
            go_ret
            exact ⟨rfl, (TT6.out.then0 ht).then0 htk⟩
          have hlt' : (k : Int) < (ys.length : Int) := by omega
          obtain ⟨b5, o5, c5', e5, hb5, -, -⟩ := HX5.out.addr (by omega)
          injection e5 with e5 _ e5'
          subst e5 e5'
          obtain ⟨b6, o6, c6', e6, hb6, -, -⟩ := HX6.out.addr (by omega)
          injection e6 with e6 _ e6'
          subst e6 e6'
          have HC := Lib.hid (fun (W : World) (t : Touch [] wr W) => show (W.cell? ⟨b5, o5 + k * 3, none⟩ = some (I ys[k].ar) ∧ W.cell? ⟨b5, o5 + k * 3 + 1, none⟩ = some (I ys[k].st) ∧ W.cell? ⟨b5, o5 + k * 3 + 2, none⟩ = some (I ys[k].vl)) ∧ (W.cell? ⟨b6, o6 + k * 3, none⟩ = some (I ys[k].ar) ∧ W.cell? ⟨b6, o6 + k * 3 + 1, none⟩ = some (I ys[k].st) ∧ W.cell? ⟨b6, o6 + k * 3 + 2, none⟩ = some (I ys[k].vl)) from ⟨((HX5.out.touch0 ht).touch0 t).elem hlt rfl, ((HX6.out.touch0 ht).touch0 t).elem hlt rfl⟩)
          obtain ⟨⟨a0, a1, a2⟩, d0, d1, d2⟩ := HC.out wr (Touch.refl _ _)
          have hb5' : b5 < wr.heap.size := Nat.lt_of_lt_of_le hb5 ht.size
          have hb6' : b6 < wr.heap.size := Nat.lt_of_lt_of_le hb6 ht.size
          unfold I at a0 a1 a2 d0 d1 d2 HC
          have HTT := Lib.hid ht
          have HWR : Hid (wrap64 ((k : Int) + 1) = (k : Int) + 1) := Lib.hid (by obtain ⟨_, _, q1, q2, q3, _⟩ := HX5.out.1; injection q1 with _ q4 q5; unfold maxLen at q3; unfold wrap64; omega)
          clear hb5 hb6 ht
          have h0k : (0 : Int) ≤ (k : Int) := by omega
          go_wp2_with fail
          go_quiet (fail)
          go_wp2_with fail
          rw [HWR.out]
          go_roundw
          case rel => exact ⟨k + 1, hlt, by go_num, HTT.out.drewN _⟩
          case measure => simp [intOf]; omega
      | false =>
        have HE1 := Lib.hid (HENC.out _ _ _ HW.out)
        rw [hwb] at HE1
        simp only [if_true, if_false, Bool.false_eq_true, reduceIte] at HE1
        go_wp2_with fail
        refine HE1.out.mono ?_
        rintro r w1 ⟨v1, rfl, hr1, ht1⟩
        have HW1 := Lib.hid (HW.out.touch0 ht1)
        have HVA := Lib.hid (HVAL.out _ _ _ HW1.out)
        rw [hwb] at HVA
        obtain ⟨A1, c1, rfl⟩ := Own.form hr1
        simp only [List.length_nil] at hr1 ⊢
        have TT1 := Lib.hid (TT0.out.then0 ht1)
        go_wp2_with fail
        refine HVA.out.mono ?_
        rintro r w2 ⟨rfl, ht2⟩
        have TT2 := Lib.hid (TT1.out.then0 ht2)
        clear hr1 ht1 ht2
        have HUB := Lib.hid (HU.out _ TT2.out)
        go_wp2_with (at_builtin; go_must (refine app_reads elem_u8 (Own.nil _ _ 1) HUB.out (B_ones L) (by have := HBL.out; simp; omega) (by have := HBL.out; unfold maxLen; simp; omega) ?_); intro v4 w4 ho4 ht4 hf4; obtain ⟨A4, cap4, rfl⟩ := Own.form ho4)
        simp only [Nat.zero_add, List.nil_append] at ho4 hf4 ⊢
        have HB4 := Lib.hid (show Bytes w4 _ L from Row.bytes ho4)
        have TT4 := Lib.hid (TT2.out.then0 (ht4.shed (by simp [blk])))
        clear ho4 ht4 hf4
        go_wp2_with fail
        refine (HDE.out _ _ HB4.out).mono ?_
        rintro r w5 ⟨v5, rfl, hx5, ht5⟩
        have TT5 := Lib.hid (TT4.out.then0 ht5)
        go_wp2_with fail
        refine (HWI.out _ TT5.out).mono ?_
        rintro r w6 ⟨v6, rfl, hx6, ht6⟩
        have TT6 := Lib.hid (TT5.out.then0 ht6)
        have HX5 := Lib.hid (hx5.touch0 ht6)
        have HX6 := Lib.hid hx6
        obtain ⟨A5, c5, hv5, -⟩ := id hx5.1
        obtain ⟨A6, c6, hv6, -⟩ := id hx6.1
        subst hv5 hv6
        clear hx5 hx6 ht5 ht6 HWI HDE HENC HVAL HLE HU HV
        obtain ⟨ee, ys⟩ := dw
        simp only at HX5 HX6 ⊢
        go_wp2_with fail
        go_loopw [14] (fun ti wr => CmRel w6 ys.length ti wr) (fun ti _ => ys.length - (intOf ti).toNat)
        case atStart => exact ⟨0, by omega, rfl, Touch.refl _ _⟩
        case round =>
          obtain ⟨k, hk, rfl, ht⟩ := hrel
          by_cases hlt : k < ys.length
          case neg =>
            have hlt' : ¬ (k : Int) < (ys.length : Int) := by omega
            go_wp2_with fail
            refine (HKN.out _ (TT6.out.then0 ht)).mono ?_
            rintro r wk ⟨rfl, htk⟩
            go_wp2_with fail
            go_ret
            exact ⟨rfl, (TT6.out.then0 ht).then0 htk⟩
          have hlt' : (k : Int) < (ys.length : Int) := by omega
          obtain ⟨b5, o5, c5', e5, hb5, -, -⟩ := HX5.out.addr (by omega)
          injection e5 with e5 _ e5'
          subst e5 e5'
          obtain ⟨b6, o6, c6', e6, hb6, -, -⟩ := HX6.out.addr (by omega)
          injection e6 with e6 _ e6'
          subst e6 e6'
          have HC := Lib.hid (fun (W : World) (t : Touch [] wr W) => show (W.cell? ⟨b5, o5 + k * 3, none⟩ = some (I ys[k].ar) ∧ W.cell? ⟨b5, o5 + k * 3 + 1, none⟩ = some (I ys[k].st) ∧ W.cell? ⟨b5, o5 + k * 3 + 2, none⟩ = some (I ys[k].vl)) ∧ (W.cell? ⟨b6, o6 + k * 3, none⟩ = some (I ys[k].ar) ∧ W.cell? ⟨b6, o6 + k * 3 + 1, none⟩ = some (I ys[k].st) ∧ W.cell? ⟨b6, o6 + k * 3 + 2, none⟩ = some (I ys[k].vl)) from ⟨((HX5.out.touch0 ht).touch0 t).elem hlt rfl, ((HX6.out.touch0 ht).touch0 t).elem hlt rfl⟩)
          obtain ⟨⟨a0, a1, a2⟩, d0, d1, d2⟩ := HC.out wr (Touch.refl _ _)
          have hb5' : b5 < wr.heap.size := Nat.lt_of_lt_of_le hb5 ht.size
          have hb6' : b6 < wr.heap.size := Nat.lt_of_lt_of_le hb6 ht.size
          unfold I at a0 a1 a2 d0 d1 d2 HC
          have HTT := Lib.hid ht
          have HWR : Hid (wrap64 ((k : Int) + 1) = (k : Int) + 1) := Lib.hid (by obtain ⟨_, _, q1, q2, q3, _⟩ := HX5.out.1; injection q1 with _ q4 q5; unfold maxLen at q3; unfold wrap64; omega)
          clear hb5 hb6 ht
          have h0k : (0 : Int) ≤ (k : Int) := by omega
          go_wp2_with fail
          go_quiet (fail)
          go_wp2_with fail
          rw [HWR.out]
          go_roundw
          case rel => exact ⟨k + 1, hlt, by go_num, HTT.out.drewN _⟩
          case measure => simp [intOf]; omega
  case pos =>
    obtain ⟨n, rfl⟩ := Int.eq_ofNat_of_zero_le (show 0 ≤ many by omega)
    obtain ⟨hm2, hm3⟩ := hm1
    go_enter Tryz.func3, Tryz.ntmps3
    go_wp2_with fail
    go_loopw [0, 7] (fun tl ti wr => WmRel w n tl ti wr) (fun _ ti _ => n - (intOf ti).toNat)
    case atStart => exact ⟨0, by omega, rfl, Own.nil _ _ _, Touch.refl _ _, by simp [blk]⟩
    case round =>
      obtain ⟨k, hk, rfl, ho, ht, hf⟩ := hrel
      by_cases hlt : k < n
      case neg =>
        have hlt' : ¬ (k : Int) < (n : Int) := by omega
        obtain rfl : k = n := by omega
        have HW := Lib.hid (wishMk_own ho (by omega))
        have TT0 : Hid (Touch [] w _) := Lib.hid ht
        obtain ⟨A0, c0, rfl⟩ := Own.form ho
        clear ho ht hf
        cases hwb : wishB (wishMk k) with
        | true =>
          have HE1 := Lib.hid (HENC.out _ _ _ HW.out)
          rw [hwb] at HE1
          simp only [if_true, if_false, Bool.false_eq_true, reduceIte] at HE1
          go_wp2_with fail
          refine HE1.out.mono ?_
          rintro r w1 ⟨v1, rfl, hr1, ht1⟩
          have HW1 := Lib.hid (HW.out.touch0 ht1)
          have HVA := Lib.hid (HVAL.out _ _ _ HW1.out)
          rw [hwb] at HVA
          have TT1 := Lib.hid (TT0.out.then0 ht1)
          go_wp2_with fail
          refine HVA.out.mono ?_
          rintro r w2 ⟨rfl, ht2⟩
          have TT2 := Lib.hid (TT1.out.then0 ht2)
          have HW2 := Lib.hid (HW1.out.touch0 ht2)
          have HEN := Lib.hid (fun (W : World) (t : Touch [] w2 W) => HLE.out _ _ _ (HW2.out.touch0 t) hwb)
          have HR2 := Lib.hid (show Row w2 v1 _ from Own.touch0 hr1 ht2)
          have KP := Lib.hid (fun (W : World) (t : Touch [] w2 W) => run_str (Row.bytes (show Row W v1 _ from Own.touch0 HR2.out t)))
          clear hr1 ht1 ht2
          go_wp2_with fail
          refine wp_region_held_drew (S := fun W => Touch [] w2 W) (by kernel_rfl) (Touch.refl _ w2).drew (fun hS => ?_)
          refine wpAnyH_take (i := 0) (v := ?_) rfl (by kernel_rfl) (by kernel_rfl) (by kernel_rfl) (fun _ _ _ h => h) (Or.inl ⟨by rfl, ?_⟩) hS ?_
          rotate_left
          · (intro W hSW; go_simp <;> with_reducible rfl)
          simp only [Act.put, List.setIfInBounds_toArray, List.set_cons_zero, List.set_cons_succ, List.getElem_toArray, List.getElem_cons_zero]
          refine wpAnyH_take (i := 1) (v := ?_) rfl (by kernel_rfl) (by kernel_rfl) (by kernel_rfl) (fun _ _ _ h => h) (Or.inl ⟨by rfl, ?_⟩) hS ?_
          rotate_left
          · (intro W hSW; have e := KP.out W hSW; go_simp <;> with_reducible rfl)
          simp only [Act.put, List.setIfInBounds_toArray, List.set_cons_zero, List.set_cons_succ, List.getElem_toArray, List.getElem_cons_succ, List.getElem_cons_zero]
          refine wpAnyH_take (i := 2) (v := ?_) rfl (by kernel_rfl) (by kernel_rfl) (by kernel_rfl) (fun _ _ _ h => h) (Or.inl ⟨by rfl, ?_⟩) hS ?_
          rotate_left
          · (intro W hSW; go_simp <;> with_reducible rfl)
          simp only [Act.put, List.setIfInBounds_toArray, List.set_cons_zero, List.set_cons_succ, List.getElem_toArray, List.getElem_cons_succ, List.getElem_cons_zero]
          refine wpAnyH_ready (rs := [3]) (by kernel_rfl) (by simp) (AllReadyH.cons rfl (fun K hK => ?_) AllReadyH.nil)
          go_simp
          refine (HEN.out _ hS).mono ?_
          rintro r w3 ⟨v2, rfl, hr3, ht3⟩
          have hS3 := hS.then0 ht3
          go_wp2_with fail
          refine hK.out _ _ hS3 (fun _ => ?_)
          clear hK K
          try simp only [Act.put, List.setIfInBounds_toArray, List.set_cons_zero, List.set_cons_succ, List.getElem_toArray, List.getElem_cons_succ, List.getElem_cons_zero]
          refine wpAnyH_mono6 (S' := fun W => Touch [] w3 W) (fun W h => hS3.then0 h) _ _ _ _ ?_
          have KE := Lib.hid (fun (W : World) (h : Touch [] w3 W) => run_str (Row.bytes (show Row W v2 _ from Own.touch0 hr3 h)))
          have hR3 := Touch.refl [] w3
          refine wpAnyH_take (i := 4) (v := ?_) rfl (by kernel_rfl) (by kernel_rfl) (by kernel_rfl) (fun _ _ _ h => h) (Or.inl ⟨by rfl, ?_⟩) hR3 ?_
          rotate_left
          · (intro W hSW; have e := KE.out W hSW; go_simp <;> with_reducible rfl)
          simp only [Act.put, List.setIfInBounds_toArray, List.set_cons_zero, List.set_cons_succ, List.getElem_toArray, List.getElem_cons_succ, List.getElem_cons_zero]
          refine wpAnyH_take (i := 5) (v := ?_) rfl (by kernel_rfl) (by kernel_rfl) (by kernel_rfl) (fun _ _ _ h => h) (Or.inl ⟨by rfl, ?_⟩) hR3 ?_
          rotate_left
          · (intro W hSW; go_simp <;> with_reducible rfl)
          simp only [Act.put, List.setIfInBounds_toArray, List.set_cons_zero, List.set_cons_succ, List.getElem_toArray, List.getElem_cons_succ, List.getElem_cons_zero]
          refine wpAnyH_take (i := 6) (v := ?_) rfl (by kernel_rfl) (by kernel_rfl) (by kernel_rfl) (fun _ _ _ h => h) (Or.inl ⟨by rfl, ?_⟩) hR3 ?_
          rotate_left
          · (intro W hSW; go_simp <;> with_reducible rfl)
          simp only [Act.put, List.setIfInBounds_toArray, List.set_cons_zero, List.set_cons_succ, List.getElem_toArray, List.getElem_cons_succ, List.getElem_cons_zero]
          refine wpAnyH_take (i := 7) (v := ?_) rfl (by kernel_rfl) (by kernel_rfl) (by kernel_rfl) (fun _ _ _ h => h) (Or.inl ⟨by rfl, ?_⟩) hR3 ?_
          rotate_left
          · (intro W hSW; go_simp <;> with_reducible rfl)
          simp only [Act.put, List.setIfInBounds_toArray, List.set_cons_zero, List.set_cons_succ, List.getElem_toArray, List.getElem_cons_succ, List.getElem_cons_zero]
          refine wpAnyH_take (i := 8) (v := ?_) rfl (by kernel_rfl) (by kernel_rfl) (by kernel_rfl) (fun _ _ _ h => h) (Or.inl ⟨by rfl, ?_⟩) hR3 ?_
          rotate_left
          · (intro W hSW; go_simp <;> with_reducible rfl)
          simp only [Act.put, List.setIfInBounds_toArray, List.set_cons_zero, List.set_cons_succ, List.getElem_toArray, List.getElem_cons_succ, List.getElem_cons_zero]
          refine wpAnyH_take (i := 9) (v := ?_) rfl (by kernel_rfl) (by kernel_rfl) (by kernel_rfl) (fun _ _ _ h => h) (Or.inl ⟨by rfl, ?_⟩) hR3 ?_
          rotate_left
          · (intro W hSW; go_simp <;> with_reducible rfl)
          simp only [Act.put, List.setIfInBounds_toArray, List.set_cons_zero, List.set_cons_succ, List.getElem_toArray, List.getElem_cons_succ, List.getElem_cons_zero]
          refine wpAnyH_done (by kernel_rfl) ?_ _
          have TT3 := Lib.hid (TT2.out.then0 hS3)
          clear hR3 hr3 ht3 hS3 hS
          have HUB := Lib.hid (HU.out _ TT3.out)
          go_wp2_with (at_builtin; go_must (refine app_reads elem_u8 (Own.nil _ _ 1) HUB.out (B_ones L) (by have := HBL.out; simp; omega) (by have := HBL.out; unfold maxLen; simp; omega) ?_); intro v4 w4 ho4 ht4 hf4; obtain ⟨A4, cap4, rfl⟩ := Own.form ho4)
          simp only [Nat.zero_add, List.nil_append] at ho4 hf4 ⊢
          have HB4 := Lib.hid (show Bytes w4 _ L from Row.bytes ho4)
          have TT4 := Lib.hid (TT3.out.then0 (ht4.shed (by simp [blk])))
          clear ho4 ht4 hf4
          go_wp2_with fail
          refine (HDE.out _ _ HB4.out).mono ?_
          rintro r w5 ⟨v5, rfl, hx5, ht5⟩
          have TT5 := Lib.hid (TT4.out.then0 ht5)
          go_wp2_with fail
          refine (HWI.out _ TT5.out).mono ?_
          rintro r w6 ⟨v6, rfl, hx6, ht6⟩
          have TT6 := Lib.hid (TT5.out.then0 ht6)
          have HX5 := Lib.hid (hx5.touch0 ht6)
          have HX6 := Lib.hid hx6
          obtain ⟨A5, c5, hv5, -⟩ := id hx5.1
          obtain ⟨A6, c6, hv6, -⟩ := id hx6.1
          subst hv5 hv6
          clear hx5 hx6 ht5 ht6 HWI HDE HENC HVAL HLE HU HV
          obtain ⟨ee, ys⟩ := dw
          simp only at HX5 HX6 ⊢
          go_wp2_with fail
          go_loopw [14] (fun ti wr => CmRel w6 ys.length ti wr) (fun ti _ => ys.length - (intOf ti).toNat)
          case atStart => exact ⟨0, by omega, rfl, Touch.refl _ _⟩
          case round =>
            obtain ⟨k, hk, rfl, ht⟩ := hrel
            by_cases hlt : k < ys.length
            case neg =>
              have hlt' : ¬ (k : Int) < (ys.length : Int) := by omega
              go_wp2_with fail
              refine (HKN.out _ (TT6.out.then0 ht)).mono ?_
              rintro r wk ⟨rfl, htk⟩
              go_wp2_with fail
              go_ret
              exact ⟨rfl, (TT6.out.then0 ht).then0 htk⟩
            have hlt' : (k : Int) < (ys.length : Int) := by omega
            obtain ⟨b5, o5, c5', e5, hb5, -, -⟩ := HX5.out.addr (by omega)
            injection e5 with e5 _ e5'
            subst e5 e5'
            obtain ⟨b6, o6, c6', e6, hb6, -, -⟩ := HX6.out.addr (by omega)
            injection e6 with e6 _ e6'
            subst e6 e6'
            have HC := Lib.hid (fun (W : World) (t : Touch [] wr W) => show (W.cell? ⟨b5, o5 + k * 3, none⟩ = some (I ys[k].ar) ∧ W.cell? ⟨b5, o5 + k * 3 + 1, none⟩ = some (I ys[k].st) ∧ W.cell? ⟨b5, o5 + k * 3 + 2, none⟩ = some (I ys[k].vl)) ∧ (W.cell? ⟨b6, o6 + k * 3, none⟩ = some (I ys[k].ar) ∧ W.cell? ⟨b6, o6 + k * 3 + 1, none⟩ = some (I ys[k].st) ∧ W.cell? ⟨b6, o6 + k * 3 + 2, none⟩ = some (I ys[k].vl)) from ⟨((HX5.out.touch0 ht).touch0 t).elem hlt rfl, ((HX6.out.touch0 ht).touch0 t).elem hlt rfl⟩)
            obtain ⟨⟨a0, a1, a2⟩, d0, d1, d2⟩ := HC.out wr (Touch.refl _ _)
            have hb5' : b5 < wr.heap.size := Nat.lt_of_lt_of_le hb5 ht.size
            have hb6' : b6 < wr.heap.size := Nat.lt_of_lt_of_le hb6 ht.size
            unfold I at a0 a1 a2 d0 d1 d2 HC
            have HTT := Lib.hid ht
            have HWR : Hid (wrap64 ((k : Int) + 1) = (k : Int) + 1) := Lib.hid (by obtain ⟨_, _, q1, q2, q3, _⟩ := HX5.out.1; injection q1 with _ q4 q5; unfold maxLen at q3; unfold wrap64; omega)
            clear hb5 hb6 ht
            have h0k : (0 : Int) ≤ (k : Int) := by omega
            go_wp2_with fail
            go_quiet (fail)
            go_wp2_with fail
            rw [HWR.out]
            go_roundw
            case rel => exact ⟨k + 1, hlt, by go_num, HTT.out.drewN _⟩
            case measure => simp [intOf]; omega
        | false =>
          have HE1 := Lib.hid (HENC.out _ _ _ HW.out)
          rw [hwb] at HE1
          simp only [if_true, if_false, Bool.false_eq_true, reduceIte] at HE1
          go_wp2_with fail
          refine HE1.out.mono ?_
          rintro r w1 ⟨v1, rfl, hr1, ht1⟩
          have HW1 := Lib.hid (HW.out.touch0 ht1)
          have HVA := Lib.hid (HVAL.out _ _ _ HW1.out)
          rw [hwb] at HVA
          obtain ⟨A1, c1, rfl⟩ := Own.form hr1
          simp only [List.length_nil] at hr1 ⊢
          have TT1 := Lib.hid (TT0.out.then0 ht1)
          go_wp2_with fail
          refine HVA.out.mono ?_
          rintro r w2 ⟨rfl, ht2⟩
          have TT2 := Lib.hid (TT1.out.then0 ht2)
          clear hr1 ht1 ht2
          have HUB := Lib.hid (HU.out _ TT2.out)
          go_wp2_with (at_builtin; go_must (refine app_reads elem_u8 (Own.nil _ _ 1) HUB.out (B_ones L) (by have := HBL.out; simp; omega) (by have := HBL.out; unfold maxLen; simp; omega) ?_); intro v4 w4 ho4 ht4 hf4; obtain ⟨A4, cap4, rfl⟩ := Own.form ho4)
          simp only [Nat.zero_add, List.nil_append] at ho4 hf4 ⊢
          have HB4 := Lib.hid (show Bytes w4 _ L from Row.bytes ho4)
          have TT4 := Lib.hid (TT2.out.then0 (ht4.shed (by simp [blk])))
          clear ho4 ht4 hf4
          go_wp2_with fail
          refine (HDE.out _ _ HB4.out).mono ?_
          rintro r w5 ⟨v5, rfl, hx5, ht5⟩
          have TT5 := Lib.hid (TT4.out.then0 ht5)
          go_wp2_with fail
          refine (HWI.out _ TT5.out).mono ?_
          rintro r w6 ⟨v6, rfl, hx6, ht6⟩
          have TT6 := Lib.hid (TT5.out.then0 ht6)
          have HX5 := Lib.hid (hx5.touch0 ht6)
          have HX6 := Lib.hid hx6
          obtain ⟨A5, c5, hv5, -⟩ := id hx5.1
          obtain ⟨A6, c6, hv6, -⟩ := id hx6.1
          subst hv5 hv6
          clear hx5 hx6 ht5 ht6 HWI HDE HENC HVAL HLE HU HV
          obtain ⟨ee, ys⟩ := dw
          simp only at HX5 HX6 ⊢
          go_wp2_with fail
          go_loopw [14] (fun ti wr => CmRel w6 ys.length ti wr) (fun ti _ => ys.length - (intOf ti).toNat)
          case atStart => exact ⟨0, by omega, rfl, Touch.refl _ _⟩
          case round =>
            obtain ⟨k, hk, rfl, ht⟩ := hrel
            by_cases hlt : k < ys.length
            case neg =>
              have hlt' : ¬ (k : Int) < (ys.length : Int) := by omega
              go_wp2_with fail
              refine (HKN.out _ (TT6.out.then0 ht)).mono ?_
              rintro r wk ⟨rfl, htk⟩
              go_wp2_with fail
              go_ret
              exact ⟨rfl, (TT6.out.then0 ht).then0 htk⟩
            have hlt' : (k : Int) < (ys.length : Int) := by omega
            obtain ⟨b5, o5, c5', e5, hb5, -, -⟩ := HX5.out.addr (by omega)
            injection e5 with e5 _ e5'
            subst e5 e5'
            obtain ⟨b6, o6, c6', e6, hb6, -, -⟩ := HX6.out.addr (by omega)
            injection e6 with e6 _ e6'
            subst e6 e6'
            have HC := Lib.hid (fun (W : World) (t : Touch [] wr W) => show (W.cell? ⟨b5, o5 + k * 3, none⟩ = some (I ys[k].ar) ∧ W.cell? ⟨b5, o5 + k * 3 + 1, none⟩ = some (I ys[k].st) ∧ W.cell? ⟨b5, o5 + k * 3 + 2, none⟩ = some (I ys[k].vl)) ∧ (W.cell? ⟨b6, o6 + k * 3, none⟩ = some (I ys[k].ar) ∧ W.cell? ⟨b6, o6 + k * 3 + 1, none⟩ = some (I ys[k].st) ∧ W.cell? ⟨b6, o6 + k * 3 + 2, none⟩ = some (I ys[k].vl)) from ⟨((HX5.out.touch0 ht).touch0 t).elem hlt rfl, ((HX6.out.touch0 ht).touch0 t).elem hlt rfl⟩)
            obtain ⟨⟨a0, a1, a2⟩, d0, d1, d2⟩ := HC.out wr (Touch.refl _ _)
            have hb5' : b5 < wr.heap.size := Nat.lt_of_lt_of_le hb5 ht.size
            have hb6' : b6 < wr.heap.size := Nat.lt_of_lt_of_le hb6 ht.size
            unfold I at a0 a1 a2 d0 d1 d2 HC
            have HTT := Lib.hid ht
            have HWR : Hid (wrap64 ((k : Int) + 1) = (k : Int) + 1) := Lib.hid (by obtain ⟨_, _, q1, q2, q3, _⟩ := HX5.out.1; injection q1 with _ q4 q5; unfold maxLen at q3; unfold wrap64; omega)
            clear hb5 hb6 ht
            have h0k : (0 : Int) ≤ (k : Int) := by omega
            go_wp2_with fail
            go_quiet (fail)
            go_wp2_with fail
            rw [HWR.out]
            go_roundw
            case rel => exact ⟨k + 1, hlt, by go_num, HTT.out.drewN _⟩
            case measure => simp [intOf]; omega
      have hlt' : (k : Int) < (n : Int) := by omega
      have h0k : (0 : Int) ≤ (k : Int) := by omega
      have hdm : ¬ ((12 : Int) = 0) := by omega
      go_wp2_with (at_builtin; go_must (refine app_new elem_wish ho [Value.int .i64 ((k : Int) / 12), Value.int .i64 ((k : Int) % 12), Value.int .i64 0] 1 1 (by omega) (by unfold maxLen; omega) ?_); intro v10 w10 ho10 ht10 hf10)
      have HN : Hid (WmRel w n v10 (.int .i64 ((k : Int) + 1)) w10) := Lib.hid ⟨k + 1, hlt, by go_num, by rw [wishMk_succ, List.flatMap_append]; simpa [Wx.cells, I] using ho10, Touch.fresh ht hf ht10, From.fresh ht hf hf10⟩
      go_roundw
      case rel => exact HN.out
      case measure => simp [intOf]; omega

end Go.Proofs.YtphpkalbbmlgoaaGreatDoor
