/- The laws of layer 30: their walks. -/
import Derived.Test.YtpbknnkobhjjcaaKnown30
namespace Go.Proofs.Ytpbknnkobhjjcaa
open Go.RowKit
set_option linter.unusedSimpArgs false

theorem nums_near {lo : Int} {n : Nat} (h1 : 0 ≤ lo) (h2 : lo + n ≤ 1000) : ∀ m ∈ numsFrom lo n, Fits m := fun m hm => by
  have := mem_nums.1 hm
  exact fit_near (by omega) (by omega)
theorem optsL_fit (h c : Int) : ∀ m ∈ optsL h c, Fits m := by
  unfold optsL
  cases hg : goodB h c with
  | false => simp
  | true =>
    obtain ⟨g1, g2, g3, g4⟩ := goodB_iff.1 hg
    simp only [if_true]
    exact nums_near g3 (by omega)
theorem openL_fit (t h c least : Int) : ∀ m ∈ openL t h c least, Fits m := by
  unfold openL
  cases hg : openOk t h c least with
  | false => simp
  | true =>
    simp only [if_true]
    intro m hm
    unfold openOk at hg
    rw [Bool.and_eq_true] at hg
    obtain ⟨g1, g2, g3, g4⟩ := goodB_iff.1 hg.1
    exact nums_near g3 (by omega) m (List.mem_filter.1 hm).1
set_option maxRecDepth 100000 in
set_option maxHeartbeats 8000000 in
theorem optAllowed_walk (h c o : Int) (w : World) (_ : Fits h) (_ : Fits c) (_ : Fits o) : Calls Try.prog 11 #[.int .i64 h, .int .i64 c, .int .i64 o] w fun r w' => r = .returned (.bool true) ∧ Touch [] w w' := by
  have HFIT := Lib.hid (optsL_fit h c)
  have HO := Lib.hid (fun W => options_any h c W)
  have HRO := Lib.hid (fun W => roptions_any h c W)
  have HA := Lib.hid (fun W => allowed_any h c o W)
  have HRA := Lib.hid (fun W => rallowed_any h c o W)
  generalize optsL h c = l at *
  generalize (if goodB h c = true then (0 : Int) else 2) = e at *
  generalize allowB h c o = ab at *
  go_enter Try.func11, Try.ntmps11
  go_wp2_with fail
  refine (HO.out _).mono ?_
  rintro r w1 ⟨v1, rfl, hr1, ht1, -⟩
  go_wp2_with fail
  refine (HRO.out _).mono ?_
  rintro r w2 ⟨v2, rfl, hr2, ht2, -⟩
  have hr1b : RowI w2 v1 l := Own.touch0 hr1 ht2
  go_wp2_with fail
  refine (same_any _ _ l l _ (RowI.ints hr1b HFIT.out) (RowI.ints hr2 HFIT.out)).mono ?_
  rintro r w3 ⟨rfl, ht3⟩
  rw [show decide (l = l) = true by simp]
  have htt := (ht1.then0 ht2).then0 ht3
  clear hr1 hr2 hr1b ht1 ht2 ht3
  go_wp2_with fail
  refine (HA.out _).mono ?_
  rintro r w4 ⟨rfl, rfl⟩
  go_wp2_with fail
  refine (HRA.out _).mono ?_
  rintro r w4 ⟨rfl, rfl⟩
  go_wp2_with fail
  refine (known30_any _).mono ?_
  rintro r wk ⟨rfl, htk⟩
  go_wp2_with fail
  go_ret
  exact ⟨rfl, htt.then0 htk⟩
set_option maxRecDepth 100000 in
set_option maxHeartbeats 8000000 in
theorem optOpen_walk (v : Value) (t : Int) (h c least : Int) (w : World) (hv : v = .agg #[.int .i64 t]) (_ : Fits h) (_ : Fits c) (_ : Fits least) : Calls Try.prog 12 #[v, .int .i64 h, .int .i64 c, .int .i64 least] w fun r w' => r = .returned (.bool true) ∧ Touch [] w w' := by
  subst hv
  have HFIT := Lib.hid (openL_fit t h c least)
  have HO := Lib.hid (fun W => open_any t h c least W)
  have HRO := Lib.hid (fun W => ropen_any t h c least W)
  have hblk := Blk.new w 86 #[.int .i64 t]
  have hta := (Touch.refl [] w).alloc (.cells #[.int .i64 t] 86)
  generalize openL t h c least = l at *
  generalize (if openOk t h c least = true then (0 : Int) else 2) = e at *
  go_enter Try.func12, Try.ntmps12
  go_wp2_with fail
  refine (HO.out _).mono ?_
  rintro r w1 ⟨v1, rfl, hr1, ht1, -⟩
  have k0 := (hblk.touch ht1 (by simp)).cell 0
  simp at k0
  go_wp2_with fail
  refine (HRO.out _).mono ?_
  rintro r w2 ⟨v2, rfl, hr2, ht2, -⟩
  have hr1b : RowI w2 v1 l := Own.touch0 hr1 ht2
  go_wp2_with fail
  refine (same_any _ _ l l _ (RowI.ints hr1b HFIT.out) (RowI.ints hr2 HFIT.out)).mono ?_
  rintro r w3 ⟨rfl, ht3⟩
  rw [show decide (l = l) = true by simp]
  have htt := ((hta.then0 ht1).then0 ht2).then0 ht3
  clear hr1 hr2 hr1b ht1 ht2 ht3 hblk hta k0
  go_wp2_with fail
  refine (known30_any _).mono ?_
  rintro r wk ⟨rfl, htk⟩
  go_wp2_with fail
  go_ret
  exact ⟨rfl, htt.then0 htk⟩
set_option maxRecDepth 100000 in
set_option maxHeartbeats 8000000 in
theorem optEncode_walk (v : Value) (xs : List Bx) (w : World) (hv : Bids w v xs) : Calls Try.prog 15 #[v] w fun r w' => r = .returned (.bool true) ∧ Touch [] w w' := by
  obtain ⟨A, cap, hvf, -⟩ := id hv.1
  by_cases hl : 30 < xs.length
  · have hl' : (30 : Int) < (xs.length : Int) := by omega
    subst hvf
    go_enter Try.func15, Try.ntmps15
    go_wp2_with fail
    refine (known30_any _).mono ?_
    rintro r wk ⟨rfl, htk⟩
    go_wp2_with fail
    go_ret
    exact ⟨rfl, htk⟩
  have hl' : ¬ (30 : Int) < (xs.length : Int) := by omega
  have HE := Lib.hid (encode_any v xs w hv (by omega))
  have HRE := Lib.hid (fun (W : World) (h : Touch [] w W) => rencode_any v xs W (hv.touch0 h) (by omega))
  subst hvf
  generalize encL xs = l at *
  generalize encE xs = e at *
  go_enter Try.func15, Try.ntmps15
  go_wp2_with fail
  refine HE.out.mono ?_
  rintro r w1 ⟨v1, rfl, hr1, ht1⟩
  go_wp2_with fail
  refine (HRE.out _ ht1).mono ?_
  rintro r w2 ⟨v2, rfl, hr2, ht2⟩
  have hr1b : Row w2 v1 l := Own.touch0 hr1 ht2
  have k1 := run_str (Row.bytes hr1b)
  have k2 := run_str (Row.bytes hr2)
  have htt := ht1.then0 ht2
  clear hr1 hr2 hr1b ht1 ht2
  go_wp2_with fail
  refine (known30_any _).mono ?_
  rintro r wk ⟨rfl, htk⟩
  go_wp2_with fail
  go_ret
  exact ⟨rfl, htt.then0 htk⟩
def IsBid (w : World) (v : Value) (x : Bx) : Prop := v = .agg #[I x.st, I x.pf, x.fv] ∧ x.Ok w
set_option maxRecDepth 100000 in
set_option maxHeartbeats 8000000 in
theorem optChoose_walk (v : Value) (x : Bx) (h c : Int) (fF : Value) (F : List Int) (w : World) (hx : IsBid w v x) (_ : Fits h) (_ : Fits c) (hF : Ints w fF F) : Calls Try.prog 14 #[v, .int .i64 h, .int .i64 c, fF] w fun r w' => r = .returned (.bool true) ∧ Touch [] w w' := by
  obtain ⟨hvx, hok⟩ := hx
  subst hvx
  obtain ⟨A, cap, hfv, -⟩ := id hok.2.2.1
  have hta := (Touch.refl [] w).alloc (.cells #[I x.st, I x.pf, x.fv] 91)
  have hblk := Blk.new w 91 #[I x.st, I x.pf, x.fv]
  obtain ⟨AF, capF, hfF, -⟩ := id hF.1
  have HC := Lib.hid (fun (hl : x.fb.length ≤ 1000) (W : World) (ht : Touch [] w W) => choose_any x h c fF F W (hok.touch0 ht) hl (hF.touch0 ht))
  have HRC := Lib.hid (fun (hl : x.fb.length ≤ 1000) (W : World) (ht : Touch [] w W) => rchoose_any x h c fF F W (hok.touch0 ht) hl (hF.touch0 ht))
  unfold ChoosePost at HC HRC
  generalize chooseV x h c F = cv at *
  generalize chooseE x h c F = ce at *
  obtain ⟨st, pf, fv, fb⟩ := x
  simp only at hfv hta hblk HC HRC ⊢
  subst hfv hfF
  clear hok hF
  unfold I at *
  by_cases hl : 20 < fb.length
  · have hl' : (20 : Int) < (fb.length : Int) := by omega
    go_enter Try.func14, Try.ntmps14
    go_wp2_with fail
    refine (known30_any _).mono ?_
    rintro r wk ⟨rfl, htk⟩
    go_wp2_with fail
    go_ret
    exact ⟨rfl, hta.then0 htk⟩
  have hl' : ¬ (20 : Int) < (fb.length : Int) := by omega
  have dl : decide ((20 : Int) < (fb.length : Int)) = false := by simp; omega
  by_cases hl2 : 20 < F.length
  · have hl2' : (20 : Int) < (F.length : Int) := by omega
    go_enter Try.func14, Try.ntmps14
    go_wp2_with fail
    refine (known30_any _).mono ?_
    rintro r wk ⟨rfl, htk⟩
    go_wp2_with fail
    go_ret
    exact ⟨rfl, hta.then0 htk⟩
  have hl2' : ¬ (20 : Int) < (F.length : Int) := by omega
  have dl2 : decide ((20 : Int) < (F.length : Int)) = false := by simp; omega
  go_enter Try.func14, Try.ntmps14
  go_wp2_with fail
  refine (HC.out (by omega) _ hta).mono ?_
  rintro r w1 ⟨rfl, ht1⟩
  have hB1 := hblk.touch ht1 (by simp)
  have k0 := hB1.cell 0
  have k1 := hB1.cell 1
  have k2 := hB1.cell 2
  simp at k0 k1 k2
  have ht01 := hta.then0 ht1
  go_wp2_with fail
  refine (HRC.out (by omega) _ ht01).mono ?_
  rintro r w2 ⟨rfl, ht2⟩
  have htt := ht01.then0 ht2
  go_wp2_with fail
  refine (known30_any _).mono ?_
  rintro r wk ⟨rfl, htk⟩
  go_wp2_with fail
  go_ret
  exact ⟨rfl, htt.then0 htk⟩
set_option maxRecDepth 100000 in
set_option maxHeartbeats 8000000 in
theorem optValid_walk (v : Value) (x : Bx) (u : Value) (xs : List Bx) (h c : Int) (w : World) (hx : IsBid w v x) (hu : Bids w u xs) (_ : Fits h) (_ : Fits c) : Calls Try.prog 13 #[v, u, .int .i64 h, .int .i64 c] w fun r w' => r = .returned (.bool true) ∧ Touch [] w w' := by
  obtain ⟨hvx, hok⟩ := hx
  subst hvx
  obtain ⟨A, cap, hfv, -⟩ := id hok.2.2.1
  have hta := (Touch.refl [] w).alloc (.cells #[I x.st, I x.pf, x.fv] 91)
  have hblk := Blk.new w 91 #[I x.st, I x.pf, x.fv]
  obtain ⟨AU, capU, hfU, -⟩ := id hu.1
  have HV := Lib.hid (fun (W : World) (ht : Touch [] w W) => bvalid_any x W (hok.touch0 ht))
  have HRV := Lib.hid (fun (W : World) (ht : Touch [] w W) => rbvalid_any x W (hok.touch0 ht))
  have HVF := Lib.hid (fun (hl : x.fb.length ≤ 1000) (W : World) (ht : Touch [] w W) => validfor_any x h c W (hok.touch0 ht) hl)
  have HRVF := Lib.hid (fun (hl : x.fb.length ≤ 1000) (W : World) (ht : Touch [] w W) => rvalidfor_any x h c W (hok.touch0 ht) hl)
  have HVB := Lib.hid (fun (W : World) (ht : Touch [] w W) => validbids_any u xs W (hu.touch0 ht))
  have HRVB := Lib.hid (fun (W : World) (ht : Touch [] w W) => rvalidbids_any u xs W (hu.touch0 ht))
  generalize bidB x = b1 at *
  generalize forB x h c = b2 at *
  generalize bidsB xs = b3 at *
  obtain ⟨st, pf, fv, fb⟩ := x
  simp only at hfv hta hblk HV HRV HVF HRVF ⊢
  subst hfv hfU
  clear hok hu
  unfold I at *
  by_cases hl : 20 < fb.length
  · have hl' : (20 : Int) < (fb.length : Int) := by omega
    go_enter Try.func13, Try.ntmps13
    go_wp2_with fail
    refine (known30_any _).mono ?_
    rintro r wk ⟨rfl, htk⟩
    go_wp2_with fail
    go_ret
    exact ⟨rfl, hta.then0 htk⟩
  have hl' : ¬ (20 : Int) < (fb.length : Int) := by omega
  have dl : decide ((20 : Int) < (fb.length : Int)) = false := by simp; omega
  by_cases hl2 : 30 < xs.length
  · have hl2' : (30 : Int) < (xs.length : Int) := by omega
    go_enter Try.func13, Try.ntmps13
    go_wp2_with fail
    refine (known30_any _).mono ?_
    rintro r wk ⟨rfl, htk⟩
    go_wp2_with fail
    go_ret
    exact ⟨rfl, hta.then0 htk⟩
  have hl2' : ¬ (30 : Int) < (xs.length : Int) := by omega
  have dl2 : decide ((30 : Int) < (xs.length : Int)) = false := by simp; omega
  have hq : Hid (∀ i : Nat, (w.alloc (.cells #[.int .i64 st, .int .i64 pf, .slice A fb.length cap] 91)).cell? ⟨w.heap.size, i, none⟩ = #[Value.int .i64 st, .int .i64 pf, .slice A fb.length cap][i]?) := Lib.hid (fun i => hblk.cell i)
  go_enter Try.func13, Try.ntmps13
  go_wp2_with fail
  go_cut [8] (fun s2 wx => s2 = .bool true ∧ Touch [] w wx)
  case first =>
    refine wp_region_held_drew (S := fun W => Touch [] (w.alloc (.cells #[.int .i64 st, .int .i64 pf, .slice A fb.length cap] 91)) W) (by kernel_rfl) (Touch.refl _ _).drew (fun hS => ?_)
    refine wpAnyH_take (i := 0) (v := ?_) rfl (by kernel_rfl) (by kernel_rfl) (by kernel_rfl) (fun _ _ _ h => h) (Or.inl ⟨by rfl, ?_⟩) hS ?_
    rotate_left
    · (intro W hSW; have e0 := (hSW.cell (p := ⟨w.heap.size, 0, none⟩) (by simp) (by simp)).trans (hq.out 0); have e1 := (hSW.cell (p := ⟨w.heap.size, 1, none⟩) (by simp) (by simp)).trans (hq.out 1); have e2 := (hSW.cell (p := ⟨w.heap.size, 2, none⟩) (by simp) (by simp)).trans (hq.out 2); go_simp <;> with_reducible rfl)
    simp only [Act.put, List.setIfInBounds_toArray, List.set_cons_zero, List.set_cons_succ, List.getElem_toArray, List.getElem_cons_zero]
    refine wpAnyH_take (i := 2) (v := ?_) rfl (by kernel_rfl) (by kernel_rfl) (by kernel_rfl) (fun _ _ _ h => h) (Or.inl ⟨by rfl, ?_⟩) hS ?_
    rotate_left
    · (intro W hSW; have e0 := (hSW.cell (p := ⟨w.heap.size, 0, none⟩) (by simp) (by simp)).trans (hq.out 0); have e1 := (hSW.cell (p := ⟨w.heap.size, 1, none⟩) (by simp) (by simp)).trans (hq.out 1); have e2 := (hSW.cell (p := ⟨w.heap.size, 2, none⟩) (by simp) (by simp)).trans (hq.out 2); go_simp <;> with_reducible rfl)
    simp only [Act.put, List.setIfInBounds_toArray, List.set_cons_zero, List.set_cons_succ, List.getElem_toArray, List.getElem_cons_succ, List.getElem_cons_zero]
    refine wpAnyH_ready (rs := [1]) (by kernel_rfl) (by simp) (AllReadyH.cons rfl (fun K hK => ?_) AllReadyH.nil)
    go_simp
    refine (HV.out _ (hta.then0 hS)).mono ?_
    rintro r w1 ⟨rfl, ht1⟩
    have hS1 := hS.then0 ht1
    go_wp2_with fail
    refine hK.out _ _ hS1 (fun _ => ?_)
    clear hK K
    try simp only [Act.put, List.setIfInBounds_toArray, List.set_cons_zero, List.set_cons_succ, List.getElem_toArray, List.getElem_cons_succ, List.getElem_cons_zero]
    refine wpAnyH_ready (rs := [3]) (by kernel_rfl) (by simp) (AllReadyH.cons rfl (fun K hK => ?_) AllReadyH.nil)
    go_simp
    refine (HRV.out _ (hta.then0 hS1)).mono ?_
    rintro r w2 ⟨rfl, ht2⟩
    have hS2 := hS1.then0 ht2
    go_wp2_with fail
    refine hK.out _ _ hS2 (fun _ => ?_)
    clear hK K
    try simp only [Act.put, List.setIfInBounds_toArray, List.set_cons_zero, List.set_cons_succ, List.getElem_toArray, List.getElem_cons_succ, List.getElem_cons_zero]
    refine wpAnyH_take (i := 4) (v := ?_) rfl (by kernel_rfl) (by kernel_rfl) (by kernel_rfl) (fun _ _ _ h => h) (Or.inl ⟨by rfl, ?_⟩) hS2 ?_
    rotate_left
    · (intro W hSW; go_simp <;> with_reducible rfl)
    simp only [Act.put, List.setIfInBounds_toArray, List.set_cons_zero, List.set_cons_succ, List.getElem_toArray, List.getElem_cons_succ, List.getElem_cons_zero]
    refine wpAnyH_take (i := 5) (v := ?_) rfl (by kernel_rfl) (by kernel_rfl) (by kernel_rfl) (fun _ _ _ h => h) (Or.inl ⟨by rfl, ?_⟩) hS2 ?_
    rotate_left
    · (intro W hSW; go_simp <;> with_reducible rfl)
    simp only [Act.put, List.setIfInBounds_toArray, List.set_cons_zero, List.set_cons_succ, List.getElem_toArray, List.getElem_cons_succ, List.getElem_cons_zero]
    refine wpAnyH_take (i := 6) (v := ?_) rfl (by kernel_rfl) (by kernel_rfl) (by kernel_rfl) (fun _ _ _ h => h) (Or.inl ⟨by rfl, ?_⟩) hS2 ?_
    rotate_left
    · (intro W hSW; have e0 := (hSW.cell (p := ⟨w.heap.size, 0, none⟩) (by simp) (by simp)).trans (hq.out 0); have e1 := (hSW.cell (p := ⟨w.heap.size, 1, none⟩) (by simp) (by simp)).trans (hq.out 1); have e2 := (hSW.cell (p := ⟨w.heap.size, 2, none⟩) (by simp) (by simp)).trans (hq.out 2); go_simp <;> with_reducible rfl)
    simp only [Act.put, List.setIfInBounds_toArray, List.set_cons_zero, List.set_cons_succ, List.getElem_toArray, List.getElem_cons_succ, List.getElem_cons_zero]
    refine wpAnyH_take (i := 7) (v := ?_) rfl (by kernel_rfl) (by kernel_rfl) (by kernel_rfl) (fun _ _ _ h => h) (Or.inl ⟨by rfl, ?_⟩) hS2 ?_
    rotate_left
    · (intro W hSW; go_simp <;> with_reducible rfl)
    simp only [Act.put, List.setIfInBounds_toArray, List.set_cons_zero, List.set_cons_succ, List.getElem_toArray, List.getElem_cons_succ, List.getElem_cons_zero]
    refine wpAnyH_take (i := 8) (v := ?_) rfl (by kernel_rfl) (by kernel_rfl) (by kernel_rfl) (fun _ _ _ h => h) (Or.inl ⟨by rfl, ?_⟩) hS2 ?_
    rotate_left
    · (intro W hSW; go_simp <;> with_reducible rfl)
    simp only [Act.put, List.setIfInBounds_toArray, List.set_cons_zero, List.set_cons_succ, List.getElem_toArray, List.getElem_cons_succ, List.getElem_cons_zero]
    refine wpAnyH_take (i := 10) (v := ?_) rfl (by kernel_rfl) (by kernel_rfl) (by kernel_rfl) (fun _ _ _ h => h) (Or.inl ⟨by rfl, ?_⟩) hS2 ?_
    rotate_left
    · (intro W hSW; have e0 := (hSW.cell (p := ⟨w.heap.size, 0, none⟩) (by simp) (by simp)).trans (hq.out 0); have e1 := (hSW.cell (p := ⟨w.heap.size, 1, none⟩) (by simp) (by simp)).trans (hq.out 1); have e2 := (hSW.cell (p := ⟨w.heap.size, 2, none⟩) (by simp) (by simp)).trans (hq.out 2); go_simp <;> with_reducible rfl)
    simp only [Act.put, List.setIfInBounds_toArray, List.set_cons_zero, List.set_cons_succ, List.getElem_toArray, List.getElem_cons_succ, List.getElem_cons_zero]
    refine wpAnyH_take (i := 11) (v := ?_) rfl (by kernel_rfl) (by kernel_rfl) (by kernel_rfl) (fun _ _ _ h => h) (Or.inl ⟨by rfl, ?_⟩) hS2 ?_
    rotate_left
    · (intro W hSW; go_simp <;> with_reducible rfl)
    simp only [Act.put, List.setIfInBounds_toArray, List.set_cons_zero, List.set_cons_succ, List.getElem_toArray, List.getElem_cons_succ, List.getElem_cons_zero]
    refine wpAnyH_take (i := 12) (v := ?_) rfl (by kernel_rfl) (by kernel_rfl) (by kernel_rfl) (fun _ _ _ h => h) (Or.inl ⟨by rfl, ?_⟩) hS2 ?_
    rotate_left
    · (intro W hSW; go_simp <;> with_reducible rfl)
    simp only [Act.put, List.setIfInBounds_toArray, List.set_cons_zero, List.set_cons_succ, List.getElem_toArray, List.getElem_cons_succ, List.getElem_cons_zero]
    refine wpAnyH_ready (rs := [9]) (by kernel_rfl) (by simp) (AllReadyH.cons rfl (fun K hK => ?_) AllReadyH.nil)
    go_simp
    refine (HVF.out (by omega) _ (hta.then0 hS2)).mono ?_
    rintro r w3 ⟨rfl, ht3⟩
    have hS3 := hS2.then0 ht3
    go_wp2_with fail
    refine hK.out _ _ hS3 (fun _ => ?_)
    clear hK K
    try simp only [Act.put, List.setIfInBounds_toArray, List.set_cons_zero, List.set_cons_succ, List.getElem_toArray, List.getElem_cons_succ, List.getElem_cons_zero]
    refine wpAnyH_ready (rs := [13]) (by kernel_rfl) (by simp) (AllReadyH.cons rfl (fun K hK => ?_) AllReadyH.nil)
    go_simp
    refine (HRVF.out (by omega) _ (hta.then0 hS3)).mono ?_
    rintro r w4 ⟨rfl, ht4⟩
    have hS4 := hS3.then0 ht4
    go_wp2_with fail
    refine hK.out _ _ hS4 (fun _ => ?_)
    clear hK K
    try simp only [Act.put, List.setIfInBounds_toArray, List.set_cons_zero, List.set_cons_succ, List.getElem_toArray, List.getElem_cons_succ, List.getElem_cons_zero]
    refine wpAnyH_take (i := 14) (v := ?_) rfl (by kernel_rfl) (by kernel_rfl) (by kernel_rfl) (fun _ _ _ h => h) (Or.inl ⟨by rfl, ?_⟩) hS4 ?_
    rotate_left
    · (intro W hSW; go_simp <;> with_reducible rfl)
    simp only [Act.put, List.setIfInBounds_toArray, List.set_cons_zero, List.set_cons_succ, List.getElem_toArray, List.getElem_cons_succ, List.getElem_cons_zero]
    refine wpAnyH_take (i := 15) (v := ?_) rfl (by kernel_rfl) (by kernel_rfl) (by kernel_rfl) (fun _ _ _ h => h) (Or.inl ⟨by rfl, ?_⟩) hS4 ?_
    rotate_left
    · (intro W hSW; go_simp <;> with_reducible rfl)
    simp only [Act.put, List.setIfInBounds_toArray, List.set_cons_zero, List.set_cons_succ, List.getElem_toArray, List.getElem_cons_succ, List.getElem_cons_zero]
    refine wpAnyH_take (i := 16) (v := ?_) rfl (by kernel_rfl) (by kernel_rfl) (by kernel_rfl) (fun _ _ _ h => h) (Or.inl ⟨by rfl, ?_⟩) hS4 ?_
    rotate_left
    · (intro W hSW; go_simp <;> with_reducible rfl)
    simp only [Act.put, List.setIfInBounds_toArray, List.set_cons_zero, List.set_cons_succ, List.getElem_toArray, List.getElem_cons_succ, List.getElem_cons_zero]
    refine wpAnyH_take (i := 17) (v := ?_) rfl (by kernel_rfl) (by kernel_rfl) (by kernel_rfl) (fun _ _ _ h => h) (Or.inl ⟨by rfl, ?_⟩) hS4 ?_
    rotate_left
    · (intro W hSW; go_simp <;> with_reducible rfl)
    simp only [Act.put, List.setIfInBounds_toArray, List.set_cons_zero, List.set_cons_succ, List.getElem_toArray, List.getElem_cons_succ, List.getElem_cons_zero]
    refine wpAnyH_take (i := 19) (v := ?_) rfl (by kernel_rfl) (by kernel_rfl) (by kernel_rfl) (fun _ _ _ h => h) (Or.inl ⟨by rfl, ?_⟩) hS4 ?_
    rotate_left
    · (intro W hSW; go_simp <;> with_reducible rfl)
    simp only [Act.put, List.setIfInBounds_toArray, List.set_cons_zero, List.set_cons_succ, List.getElem_toArray, List.getElem_cons_succ, List.getElem_cons_zero]
    refine wpAnyH_ready (rs := [18]) (by kernel_rfl) (by simp) (AllReadyH.cons rfl (fun K hK => ?_) AllReadyH.nil)
    go_simp
    refine (HVB.out _ (hta.then0 hS4)).mono ?_
    rintro r w5 ⟨rfl, ht5⟩
    have hS5 := hS4.then0 ht5
    go_wp2_with fail
    refine hK.out _ _ hS5 (fun _ => ?_)
    clear hK K
    try simp only [Act.put, List.setIfInBounds_toArray, List.set_cons_zero, List.set_cons_succ, List.getElem_toArray, List.getElem_cons_succ, List.getElem_cons_zero]
    refine wpAnyH_ready (rs := [20]) (by kernel_rfl) (by simp) (AllReadyH.cons rfl (fun K hK => ?_) AllReadyH.nil)
    go_simp
    refine (HRVB.out _ (hta.then0 hS5)).mono ?_
    rintro r w6 ⟨rfl, ht6⟩
    have hS6 := hS5.then0 ht6
    go_wp2_with fail
    refine hK.out _ _ hS6 (fun _ => ?_)
    clear hK K
    try simp only [Act.put, List.setIfInBounds_toArray, List.set_cons_zero, List.set_cons_succ, List.getElem_toArray, List.getElem_cons_succ, List.getElem_cons_zero]
    refine wpAnyH_take (i := 21) (v := ?_) rfl (by kernel_rfl) (by kernel_rfl) (by kernel_rfl) (fun _ _ _ h => h) (Or.inl ⟨by rfl, ?_⟩) hS6 ?_
    rotate_left
    · (intro W hSW; go_simp <;> with_reducible rfl)
    simp only [Act.put, List.setIfInBounds_toArray, List.set_cons_zero, List.set_cons_succ, List.getElem_toArray, List.getElem_cons_succ, List.getElem_cons_zero]
    refine wpAnyH_take (i := 22) (v := ?_) rfl (by kernel_rfl) (by kernel_rfl) (by kernel_rfl) (fun _ _ _ h => h) (Or.inl ⟨by rfl, ?_⟩) hS6 ?_
    rotate_left
    · (intro W hSW; go_simp <;> with_reducible rfl)
    simp only [Act.put, List.setIfInBounds_toArray, List.set_cons_zero, List.set_cons_succ, List.getElem_toArray, List.getElem_cons_succ, List.getElem_cons_zero]
    refine wpAnyH_take (i := 23) (v := ?_) rfl (by kernel_rfl) (by kernel_rfl) (by kernel_rfl) (fun _ _ _ h => h) (Or.inl ⟨by rfl, ?_⟩) hS6 ?_
    rotate_left
    · (intro W hSW; go_simp <;> with_reducible rfl)
    simp only [Act.put, List.setIfInBounds_toArray, List.set_cons_zero, List.set_cons_succ, List.getElem_toArray, List.getElem_cons_succ, List.getElem_cons_zero]
    refine wpAnyH_ready (rs := [24]) (by kernel_rfl) (by simp) (AllReadyH.cons rfl (fun K hK => ?_) AllReadyH.nil)
    go_simp
    refine (known30_any _).mono ?_
    rintro r w7 ⟨rfl, ht7⟩
    have hS7 := hS6.then0 ht7
    go_wp2_with fail
    refine hK.out _ _ hS7 (fun _ => ?_)
    clear hK K
    try simp only [Act.put, List.setIfInBounds_toArray, List.set_cons_zero, List.set_cons_succ, List.getElem_toArray, List.getElem_cons_succ, List.getElem_cons_zero]
    refine wpAnyH_take (i := 25) (v := ?_) rfl (by kernel_rfl) (by kernel_rfl) (by kernel_rfl) (fun _ _ _ h => h) (Or.inl ⟨by rfl, ?_⟩) hS7 ?_
    rotate_left
    · (intro W hSW; go_simp <;> with_reducible rfl)
    simp only [Act.put, List.setIfInBounds_toArray, List.set_cons_zero, List.set_cons_succ, List.getElem_toArray, List.getElem_cons_succ, List.getElem_cons_zero]
    refine wpAnyH_take (i := 26) (v := ?_) rfl (by kernel_rfl) (by kernel_rfl) (by kernel_rfl) (fun _ _ _ h => h) (Or.inl ⟨by rfl, ?_⟩) hS7 ?_
    rotate_left
    · (intro W hSW; go_simp <;> with_reducible rfl)
    simp only [Act.put, List.setIfInBounds_toArray, List.set_cons_zero, List.set_cons_succ, List.getElem_toArray, List.getElem_cons_succ, List.getElem_cons_zero]
    refine wpAnyH_done (by kernel_rfl) ?_ _
    go_wp2_with fail
    go_meet
    exact ⟨rfl, hta.then0 hS7⟩
  case rest =>
    obtain ⟨rfl, htt15⟩ := hcut
    go_wp2_with fail
    go_ret
    exact ⟨rfl, htt15⟩
end Go.Proofs.Ytpbknnkobhjjcaa
