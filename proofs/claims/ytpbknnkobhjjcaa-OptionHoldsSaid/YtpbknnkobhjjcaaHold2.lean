/- The law OptionHolds: its walk. -/
import Derived.Test.YtpbknnkobhjjcaaHold1
namespace Go.Proofs.Ytpbknnkobhjjcaa
open Go.RowKit
set_option linter.unusedSimpArgs false

theorem bids_one {x : Bx} {W : World} (h : x.Ok W) : Bids (W.alloc (.cells #[I x.st, I x.pf, x.fv] 91)) (.slice (some ⟨W.heap.size, 0, none⟩) 1 1) [x] :=
  ⟨Own.reads (Own.lit W 91 3 1 [I x.st, I x.pf, x.fv] rfl (by simp [maxLen])), fun y hy => by rw [List.mem_singleton.1 hy]; exact h.touch0 ((Touch.refl [] W).alloc _)⟩
def HoRel (l : List Int) (y : Int) (w : World) (ti : Value) (wr : World) : Prop := ∃ k : Nat, k ≤ l.length ∧ ti = .int .i64 k ∧ (∀ (j : Nat) (hj : j < l.length), j < k → l[j] ≠ y) ∧ wr = w
theorem HoRel.next {l : List Int} {y : Int} {w : World} {k : Nat} (hk : k < l.length) (h : ∀ (j : Nat) (hj : j < l.length), j < k → l[j] ≠ y) (hy : l[k] ≠ y) : HoRel l y w (.int .i64 ((k : Int) + 1)) w :=
  ⟨k + 1, hk, by go_num, fun j hj h2 => by rcases Nat.lt_succ_iff_lt_or_eq.1 h2 with h1 | rfl; exact h j hj h1; exact hy, rfl⟩

set_option maxRecDepth 100000 in
set_option maxHeartbeats 40000000 in
theorem optHolds_walk (v : Value) (x : Bx) (h c : Int) (fF : Value) (F : List Int) (u : Value) (L : List UInt8) (w : World) (hx : IsBid w v x) (_ : Fits h) (_ : Fits c) (hF : Ints w fF F) (hu : Bytes w u L) : Calls Try.prog 17 #[v, .int .i64 h, .int .i64 c, fF, u] w fun r w' => r = .returned (.bool true) ∧ Touch [] w w' := by
  obtain ⟨hvx, hok⟩ := hx
  subst hvx
  obtain ⟨A, cap, hfv, -⟩ := id hok.2.2.1
  obtain ⟨AF, capF, hfF, -⟩ := id hF.1
  obtain ⟨AU, capU, hfU, -⟩ := id hu
  have hta := (Touch.refl [] w).alloc (.cells #[I x.st, I x.pf, x.fv] 91)
  have hblk := Blk.new w 91 #[I x.st, I x.pf, x.fv]
  have HV := Lib.hid (fun (W : World) (ht : Touch [] w W) => bvalid_any x W (hok.touch0 ht))
  have HAL := Lib.hid (fun (W : World) (y : Int) => allowed_any h c y W)
  have HHS := Lib.hid (fun (W : World) (ht : Touch [] w W) (y : Int) => rhas_any fF F y W (hF.touch0 ht))
  have HNM := Lib.hid (fun (hl : x.fb.length ≤ 1000) (W : World) (ht : Touch [] w W) => rnamed_any x W (hok.touch0 ht) hl)
  have HC := Lib.hid (fun (hl : x.fb.length ≤ 1000) (W : World) (ht : Touch [] w W) => choose_any x h c fF F W (hok.touch0 ht) hl (hF.touch0 ht))
  have HEN := Lib.hid (fun (W : World) (ht : Touch [] w W) => encode_any _ [x] _ (bids_one (hok.touch0 ht)) (by simp))
  have HSB := Lib.hid (fun (W : World) (ht : Touch [] w W) (v1 : Value) (xs : List Bx) (hb : Bids W v1 xs) (he : xs.map Bx.data = [x.data]) => samebids_eq v1 _ xs [x] _ (hb.touch0 ((Touch.refl [] W).alloc _)) (bids_one (hok.touch0 ht)) (by simpa using he))
  have HUB := Lib.hid (fun (W : World) (ht : Touch [] w W) => run_str (Reads.touch0 hu ht))
  have HD2 := Lib.hid (fun (hl : L.length ≤ 1000) (W : World) (ht : Touch [] w W) => decode_any u L W (Reads.touch0 hu ht) (by omega))
  have HD1 : Hid (bidB x = true → ∀ (W : World) (v' : Value), Row W v' (encBids [x]) → Calls Try.prog 71 #[v'] W (DecPost W (0, [x.data]))) := Lib.hid (fun hb W v' hr => by
    have := decode_any v' (encBids [x]) W (Row.bytes hr) (by
      have h1 := encBids_len [x] (fun y hy => by rw [List.mem_singleton.1 hy]; exact (bidB_nums hb).2.2.1)
      have h2 := grp_len 1
      unfold encBids
      rw [List.length_append]
      simp only [List.length_singleton] at h1 ⊢
      omega)
    rwa [dec_one hb] at this)
  have HEO : Hid (bidB x = true → encL [x] = encBids [x] ∧ encE [x] = 0) := Lib.hid (fun hb => by unfold encL encE; rw [bidsB_one, hb]; exact ⟨rfl, rfl⟩)
  have HDZ : Hid ((decOf L).1 = 0 → ∀ (W : World) (v' : Value) (ys : List Bx), Bids W v' ys → ys.map Bx.data = (decOf L).2 → Calls Try.prog 69 #[v'] W (EncPost W L 0)) := Lib.hid (fun h0 W v' ys hb he => by
    obtain ⟨z1, z2, z3⟩ := dec_zero he h0
    have := encode_any v' ys W hb (by omega)
    unfold encL encE at this
    rw [z1, if_pos rfl, if_pos rfl, z2] at this
    exact this)
  have HVB : Hid ((decOf L).1 = 0 → ∀ (W : World) (v' : Value) (ys : List Bx), Bids W v' ys → ys.map Bx.data = (decOf L).2 → Calls Try.prog 65 #[v'] W fun r w' => r = .returned (.bool true) ∧ Touch [] W w') := Lib.hid (fun h0 W v' ys hb he => by
    obtain ⟨z1, z2, z3⟩ := dec_zero he h0
    have := validbids_any v' ys W hb
    rwa [z1] at this)
  generalize decOf L = dd at *
  obtain ⟨de, ds⟩ := dd
  simp only at HDZ HVB
  have HCB : Hid (bidB x = false → chooseOk x h c F = false) := Lib.hid choose_bid
  have HPK : Hid (chooseOk x h c F = true → ∃ y, chooseV x h c F = y ∧ chooseE x h c F = 0 ∧ allowB h c y = true ∧ (y ≠ c → hasB F y = true) ∧ (hasB F x.pf = true → y = x.pf) ∧ ∀ (k : Nat) (hk : k < x.names.length), (∀ (j : Nat) (hj : j < x.names.length), j < k → x.names[j] ≠ y) → x.names[k] ≠ y → (x.names[k] == c) = false ∧ hasB F x.names[k] = false) := Lib.hid (fun hc => by
    refine ⟨pickOf x.names c F, by unfold chooseV; rw [hc]; rfl, by unfold chooseE; rw [hc]; rfl, pick_allowed hc, fun hn => (pick_hit _ _ _ hn).1, fun hp => pick_first hp, fun k hk h1 h2 => ?_⟩
    have hh := pick_before x.names k hk (c := c) (F := F) (fun j hj => by
      rcases Nat.lt_or_eq_of_le hj with h3 | h3
      · exact h1 j (by omega) h3
      · subst h3; exact h2)
    unfold hitB at hh
    rwa [Bool.or_eq_false_iff] at hh)
  have HCN : Hid (chooseOk x h c F = false → chooseV x h c F = 0 ∧ chooseE x h c F = 2) := Lib.hid (fun hc => by unfold chooseV chooseE; rw [hc]; exact ⟨rfl, rfl⟩)
  unfold ChoosePost at HC
  generalize chooseV x h c F = y at *
  generalize chooseE x h c F = ce at *
  generalize chooseOk x h c F = ok at *
  generalize bidB x = bb at *
  generalize hnm : x.names = nm at *
  clear hnm
  generalize encL [x] = el at *
  generalize encE [x] = ee at *
  generalize encBids [x] = eb at *
  generalize hxd : x.data = xd at *
  clear hxd
  obtain ⟨st, pf, fv, fb⟩ := x
  simp only at hfv hta hblk HV HNM HC HEN HSB HPK ⊢
  subst hfv hfF hfU
  clear hok hF hu
  unfold I at *
  by_cases hl : 20 < fb.length
  · have hl' : (20 : Int) < (fb.length : Int) := by omega
    go_enter Try.func17, Try.ntmps17
    go_wp2_with fail
    refine (known30_any _).mono ?_
    rintro r wk ⟨rfl, htk⟩
    go_wp2_with fail
    go_ret
    exact ⟨rfl, hta.then0 htk⟩
  have hl' : ¬ (20 : Int) < (fb.length : Int) := by omega
  have dhl : decide ((20 : Int) < (fb.length : Int)) = false := by simp; omega
  by_cases hl2 : 20 < F.length
  · have hl2' : (20 : Int) < (F.length : Int) := by omega
    go_enter Try.func17, Try.ntmps17
    go_wp2_with fail
    refine (known30_any _).mono ?_
    rintro r wk ⟨rfl, htk⟩
    go_wp2_with fail
    go_ret
    exact ⟨rfl, hta.then0 htk⟩
  have hl2' : ¬ (20 : Int) < (F.length : Int) := by omega
  have dhl2 : decide ((20 : Int) < (F.length : Int)) = false := by simp; omega
  by_cases hl3 : 1000 < L.length
  · have hl3' : (1000 : Int) < (L.length : Int) := by omega
    go_enter Try.func17, Try.ntmps17
    go_wp2_with fail
    refine (known30_any _).mono ?_
    rintro r wk ⟨rfl, htk⟩
    go_wp2_with fail
    go_ret
    exact ⟨rfl, hta.then0 htk⟩
  have hl3' : ¬ (1000 : Int) < (L.length : Int) := by omega
  have dhl3 : decide ((1000 : Int) < (L.length : Int)) = false := by simp; omega
  have HD3 := Lib.hid (HD2.out (by omega))
  have HC3 := Lib.hid (HC.out (by omega))
  have HNM3 := Lib.hid (HNM.out (by omega))
  clear HD2 HC HNM
  cases bb with
  | false =>
    obtain rfl : ok = false := HCB.out rfl
    obtain ⟨rfl, rfl⟩ := HCN.out rfl
    clear HPK HCN HCB HD1 HEO HEN HSB
    by_cases hz : de = 0
    · subst hz
      have HDZ1 := Lib.hid (HDZ.out rfl)
      have HVB1 := Lib.hid (HVB.out rfl)
      clear HDZ HVB
      go_enter Try.func17, Try.ntmps17
      go_wp2_with fail
      refine (HV.out _ hta).mono ?_
      rintro r w1 ⟨rfl, ht1⟩
      have hB1 := hblk.touch ht1 (by simp)
      have k0 := hB1.cell 0
      have k1 := hB1.cell 1
      have k2 := hB1.cell 2
      simp at k0 k1 k2
      have t1 := hta.then0 ht1
      have s1 := ht1
      clear ht1 hB1
      go_wp2_with fail
      refine (HD3.out _ t1).mono ?_
      rintro r w5 ⟨v5, ys, rfl, hb5, he5, ht5⟩
      have s5 := s1.then0 ht5
      have t5 := hta.then0 s5
      clear ht5
      clear k0 k1 k2
      go_wp2_with fail
      refine (HDZ1.out _ _ _ hb5 he5).mono ?_
      rintro r w6 ⟨v6, rfl, hr6, ht6⟩
      have s6 := s5.then0 ht6
      have t6 := hta.then0 s6
      have q1 := run_str (Row.bytes hr6)
      have q2 := HUB.out _ t6
      have hb6 := hb5.touch0 ht6
      clear hr6 ht6 hb5
      go_wp2_with fail
      refine (HVB1.out _ _ _ hb6 he5).mono ?_
      rintro r w7 ⟨rfl, ht7⟩
      have s7 := s6.then0 ht7
      have t7 := hta.then0 s7
      clear q1 q2 ht7 hb6 he5
      have hB7 := hblk.touch s7 (by simp)
      have k0 := hB7.cell 0
      have k1 := hB7.cell 1
      have k2 := hB7.cell 2
      simp at k0 k1 k2
      clear hB7
      go_wp2_with fail
      refine (HC3.out _ t7).mono ?_
      rintro r w8 ⟨rfl, ht8⟩
      have s8 := s7.then0 ht8
      have t8 := hta.then0 s8
      clear k0 k1 k2 ht8
      go_wp2_with fail
      refine (known30_any _).mono ?_
      rintro r wk ⟨rfl, htk⟩
      go_wp2_with fail
      go_ret
      exact ⟨rfl, t8.then0 htk⟩
    · have bz1 : (de == 0) = false := by simpa using hz
      have bz2 : (de != 0) = true := by simpa using hz
      clear hz HDZ HVB
      go_enter Try.func17, Try.ntmps17
      go_wp2_with fail
      refine (HV.out _ hta).mono ?_
      rintro r w1 ⟨rfl, ht1⟩
      have hB1 := hblk.touch ht1 (by simp)
      have k0 := hB1.cell 0
      have k1 := hB1.cell 1
      have k2 := hB1.cell 2
      simp at k0 k1 k2
      have t1 := hta.then0 ht1
      have s1 := ht1
      clear ht1 hB1
      go_wp2_with fail
      refine (HD3.out _ t1).mono ?_
      rintro r w5 ⟨v5, ys, rfl, hb5, he5, ht5⟩
      have s5 := s1.then0 ht5
      have t5 := hta.then0 s5
      clear ht5
      clear k0 k1 k2
      have hB5 := hblk.touch s5 (by simp)
      have k0 := hB5.cell 0
      have k1 := hB5.cell 1
      have k2 := hB5.cell 2
      simp at k0 k1 k2
      clear hB5
      go_wp2_with fail
      refine (HC3.out _ t5).mono ?_
      rintro r w8 ⟨rfl, ht8⟩
      have s8 := s5.then0 ht8
      have t8 := hta.then0 s8
      clear k0 k1 k2 ht8
      go_wp2_with fail
      refine (known30_any _).mono ?_
      rintro r wk ⟨rfl, htk⟩
      go_wp2_with fail
      go_ret
      exact ⟨rfl, t8.then0 htk⟩
  | true =>
    have HDB := Lib.hid (HD1.out rfl)
    obtain ⟨e1, e2⟩ := HEO.out rfl
    subst e1 e2
    clear HEO HCB HD1
    cases ok with
    | false =>
      obtain ⟨rfl, rfl⟩ := HCN.out rfl
      clear HPK HCN
      by_cases hz : de = 0
      · subst hz
        have HDZ1 := Lib.hid (HDZ.out rfl)
        have HVB1 := Lib.hid (HVB.out rfl)
        clear HDZ HVB
        go_enter Try.func17, Try.ntmps17
        go_wp2_with fail
        refine (HV.out _ hta).mono ?_
        rintro r w1 ⟨rfl, ht1⟩
        have hB1 := hblk.touch ht1 (by simp)
        have k0 := hB1.cell 0
        have k1 := hB1.cell 1
        have k2 := hB1.cell 2
        simp at k0 k1 k2
        have t1 := hta.then0 ht1
        have s1 := ht1
        clear ht1 hB1
        go_wp2_with fail
        refine (HEN.out _ t1).mono ?_
        rintro r w2 ⟨v2, rfl, hr2, ht2⟩
        have s2 := s1.then0 (((Touch.refl [] w1).alloc _).then0 ht2)
        clear k0 k1 k2
        go_wp2_with fail
        refine (HDB.out _ _ hr2).mono ?_
        rintro r w3 ⟨v3, xs, rfl, hb3, he3, ht3⟩
        have s3 := s2.then0 ht3
        have hB3 := hblk.touch s3 (by simp)
        have k0 := hB3.cell 0
        have k1 := hB3.cell 1
        have k2 := hB3.cell 2
        simp at k0 k1 k2
        have t3 := hta.then0 s3
        clear hB3
        go_wp2_with fail
        refine (HSB.out _ t3 _ _ hb3 he3).mono ?_
        rintro r w4 ⟨rfl, ht4⟩
        have s4 := s3.then0 (((Touch.refl [] w3).alloc _).then0 ht4)
        clear k0 k1 k2 hb3 he3
        have t4 := hta.then0 s4
        go_wp2_with fail
        refine (HD3.out _ t4).mono ?_
        rintro r w5 ⟨v5, ys, rfl, hb5, he5, ht5⟩
        have s5 := s4.then0 ht5
        have t5 := hta.then0 s5
        clear ht5
        go_wp2_with fail
        refine (HDZ1.out _ _ _ hb5 he5).mono ?_
        rintro r w6 ⟨v6, rfl, hr6, ht6⟩
        have s6 := s5.then0 ht6
        have t6 := hta.then0 s6
        have q1 := run_str (Row.bytes hr6)
        have q2 := HUB.out _ t6
        have hb6 := hb5.touch0 ht6
        clear hr6 ht6 hb5
        go_wp2_with fail
        refine (HVB1.out _ _ _ hb6 he5).mono ?_
        rintro r w7 ⟨rfl, ht7⟩
        have s7 := s6.then0 ht7
        have t7 := hta.then0 s7
        clear q1 q2 ht7 hb6 he5
        have hB7 := hblk.touch s7 (by simp)
        have k0 := hB7.cell 0
        have k1 := hB7.cell 1
        have k2 := hB7.cell 2
        simp at k0 k1 k2
        clear hB7
        go_wp2_with fail
        refine (HC3.out _ t7).mono ?_
        rintro r w8 ⟨rfl, ht8⟩
        have s8 := s7.then0 ht8
        have t8 := hta.then0 s8
        clear k0 k1 k2 ht8
        go_wp2_with fail
        refine (known30_any _).mono ?_
        rintro r wk ⟨rfl, htk⟩
        go_wp2_with fail
        go_ret
        exact ⟨rfl, t8.then0 htk⟩
      · have bz1 : (de == 0) = false := by simpa using hz
        have bz2 : (de != 0) = true := by simpa using hz
        clear hz HDZ HVB
        go_enter Try.func17, Try.ntmps17
        go_wp2_with fail
        refine (HV.out _ hta).mono ?_
        rintro r w1 ⟨rfl, ht1⟩
        have hB1 := hblk.touch ht1 (by simp)
        have k0 := hB1.cell 0
        have k1 := hB1.cell 1
        have k2 := hB1.cell 2
        simp at k0 k1 k2
        have t1 := hta.then0 ht1
        have s1 := ht1
        clear ht1 hB1
        go_wp2_with fail
        refine (HEN.out _ t1).mono ?_
        rintro r w2 ⟨v2, rfl, hr2, ht2⟩
        have s2 := s1.then0 (((Touch.refl [] w1).alloc _).then0 ht2)
        clear k0 k1 k2
        go_wp2_with fail
        refine (HDB.out _ _ hr2).mono ?_
        rintro r w3 ⟨v3, xs, rfl, hb3, he3, ht3⟩
        have s3 := s2.then0 ht3
        have hB3 := hblk.touch s3 (by simp)
        have k0 := hB3.cell 0
        have k1 := hB3.cell 1
        have k2 := hB3.cell 2
        simp at k0 k1 k2
        have t3 := hta.then0 s3
        clear hB3
        go_wp2_with fail
        refine (HSB.out _ t3 _ _ hb3 he3).mono ?_
        rintro r w4 ⟨rfl, ht4⟩
        have s4 := s3.then0 (((Touch.refl [] w3).alloc _).then0 ht4)
        clear k0 k1 k2 hb3 he3
        have t4 := hta.then0 s4
        go_wp2_with fail
        refine (HD3.out _ t4).mono ?_
        rintro r w5 ⟨v5, ys, rfl, hb5, he5, ht5⟩
        have s5 := s4.then0 ht5
        have t5 := hta.then0 s5
        clear ht5
        have hB5 := hblk.touch s5 (by simp)
        have k0 := hB5.cell 0
        have k1 := hB5.cell 1
        have k2 := hB5.cell 2
        simp at k0 k1 k2
        clear hB5
        go_wp2_with fail
        refine (HC3.out _ t5).mono ?_
        rintro r w8 ⟨rfl, ht8⟩
        have s8 := s5.then0 ht8
        have t8 := hta.then0 s8
        clear k0 k1 k2 ht8
        go_wp2_with fail
        refine (known30_any _).mono ?_
        rintro r wk ⟨rfl, htk⟩
        go_wp2_with fail
        go_ret
        exact ⟨rfl, t8.then0 htk⟩
    | true =>
      obtain ⟨_, rfl, rfl, ya, yc, yp, yb⟩ := HPK.out rfl
      have HYA := Lib.hid ya
      have HYC := Lib.hid yc
      have HYP := Lib.hid yp
      have HYB := Lib.hid yb
      clear ya yc yp yb HPK HCN
      by_cases hz : de = 0
      · subst hz
        have HDZ1 := Lib.hid (HDZ.out rfl)
        have HVB1 := Lib.hid (HVB.out rfl)
        clear HDZ HVB
        go_enter Try.func17, Try.ntmps17
        go_wp2_with fail
        refine (HV.out _ hta).mono ?_
        rintro r w1 ⟨rfl, ht1⟩
        have hB1 := hblk.touch ht1 (by simp)
        have k0 := hB1.cell 0
        have k1 := hB1.cell 1
        have k2 := hB1.cell 2
        simp at k0 k1 k2
        have t1 := hta.then0 ht1
        have s1 := ht1
        clear ht1 hB1
        go_wp2_with fail
        refine (HEN.out _ t1).mono ?_
        rintro r w2 ⟨v2, rfl, hr2, ht2⟩
        have s2 := s1.then0 (((Touch.refl [] w1).alloc _).then0 ht2)
        clear k0 k1 k2
        go_wp2_with fail
        refine (HDB.out _ _ hr2).mono ?_
        rintro r w3 ⟨v3, xs, rfl, hb3, he3, ht3⟩
        have s3 := s2.then0 ht3
        have hB3 := hblk.touch s3 (by simp)
        have k0 := hB3.cell 0
        have k1 := hB3.cell 1
        have k2 := hB3.cell 2
        simp at k0 k1 k2
        have t3 := hta.then0 s3
        clear hB3
        go_wp2_with fail
        refine (HSB.out _ t3 _ _ hb3 he3).mono ?_
        rintro r w4 ⟨rfl, ht4⟩
        have s4 := s3.then0 (((Touch.refl [] w3).alloc _).then0 ht4)
        clear k0 k1 k2 hb3 he3
        have t4 := hta.then0 s4
        go_wp2_with fail
        refine (HD3.out _ t4).mono ?_
        rintro r w5 ⟨v5, ys, rfl, hb5, he5, ht5⟩
        have s5 := s4.then0 ht5
        have t5 := hta.then0 s5
        clear ht5
        go_wp2_with fail
        refine (HDZ1.out _ _ _ hb5 he5).mono ?_
        rintro r w6 ⟨v6, rfl, hr6, ht6⟩
        have s6 := s5.then0 ht6
        have t6 := hta.then0 s6
        have q1 := run_str (Row.bytes hr6)
        have q2 := HUB.out _ t6
        have hb6 := hb5.touch0 ht6
        clear hr6 ht6 hb5
        go_wp2_with fail
        refine (HVB1.out _ _ _ hb6 he5).mono ?_
        rintro r w7 ⟨rfl, ht7⟩
        have s7 := s6.then0 ht7
        have t7 := hta.then0 s7
        clear q1 q2 ht7 hb6 he5
        have hB7 := hblk.touch s7 (by simp)
        have k0 := hB7.cell 0
        have k1 := hB7.cell 1
        have k2 := hB7.cell 2
        simp at k0 k1 k2
        clear hB7
        go_wp2_with fail
        refine (HC3.out _ t7).mono ?_
        rintro r w8 ⟨rfl, ht8⟩
        have s8 := s7.then0 ht8
        have t8 := hta.then0 s8
        clear k0 k1 k2 ht8
        have hB8 := hblk.touch s8 (by simp)
        have k0 := hB8.cell 0
        have k1 := hB8.cell 1
        have k2 := hB8.cell 2
        simp at k0 k1 k2
        clear hB8
        go_wp2_with fail
        refine (HAL.out _ _).mono ?_
        rintro r w9 ⟨rfl, rfl⟩
        rw [HYA.out]
        by_cases hyc : y = c
        · have bc1 : (y == c) = true := by simpa using hyc
          have bc2 : (y != c) = false := by simpa using hyc
          clear hyc
          go_wp2_with fail
          refine (HHS.out _ t8 _).mono ?_
          rintro r w12 ⟨rfl, rfl⟩
          cases hpf : hasB F pf with
          | false =>
            clear hpf
            go_wp2_with fail
            refine (HNM3.out _ t8).mono ?_
            rintro r w10 ⟨v10, rfl, hi10, ht10⟩
            have t10 := t8.then0 ht10
            obtain ⟨A10, cap10, hf10, -⟩ := id hi10.1
            subst hf10
            have hlen10 : nm.length ≤ 9223372036854775807 := by obtain ⟨_, _, _, h1, h2, _⟩ := id hi10.1; unfold maxLen at h2; omega
            clear k0 k1 k2 ht10
            go_wp2_with fail
            go_loopw [22] (fun ti wr => HoRel nm y w10 ti wr) (fun ti _ => nm.length - (intOf ti).toNat)
            case atStart => exact ⟨0, by omega, rfl, fun j hj h => by omega, rfl⟩
            case round =>
              obtain ⟨k, hk, rfl, hall, rfl⟩ := hrel
              have HK := Lib.hid hall
              clear hall
              by_cases hlt : k < nm.length
              case neg =>
                have hlt' : ¬ (k : Int) < (nm.length : Int) := by omega
                have dlt : decide ((k : Int) < (nm.length : Int)) = false := by simp; omega
                go_wp2_with fail
                refine (known30_any _).mono ?_
                rintro r wk ⟨rfl, htk⟩
                go_wp2_with fail
                go_ret
                exact ⟨rfl, t10.then0 htk⟩
              have hlt' : (k : Int) < (nm.length : Int) := by omega
              obtain ⟨b, off, c10, e, hc, hc1, hc2⟩ := hi10.at hlt
              injection e with e1 _ e2
              subst e1 e2
              have HN := Lib.hid (fun he => HoRel.next (w := wr) hlt HK.out he)
              have HH := Lib.hid (HYB.out k hlt HK.out)
              generalize nm[k] = z at *
              by_cases hzy : z = y
              · have hb1 : (z == y) = true := by simpa using hzy
                have hb2 : (z != y) = false := by simpa using hzy
                clear hzy
                go_wp2_with fail
                refine (known30_any _).mono ?_
                rintro r wk ⟨rfl, htk⟩
                go_wp2_with fail
                go_ret
                exact ⟨rfl, t10.then0 htk⟩
              have hb1 : (z == y) = false := by simpa using hzy
              have hb2 : (z != y) = true := by simpa using hzy
              obtain ⟨hz1, hz2⟩ := HH.out hzy
              have HZ2 := Lib.hid hz2
              have HZY := Lib.hid hzy
              clear hz2 hzy
              go_wp2_with fail
              refine (HHS.out _ t10 _).mono ?_
              rintro r w11 ⟨rfl, rfl⟩
              rw [HZ2.out]
              go_wp2_with fail
              go_roundw
              case rel => exact HN.out HZY.out
              case measure => simp [intOf]; omega
          | true =>
            have hyp := HYP.out hpf
            have bp : (y != pf) = false := by simpa using hyp
            have bp2 : (y == pf) = true := by simpa using hyp
            clear hpf hyp
            go_wp2_with fail
            refine (HNM3.out _ t8).mono ?_
            rintro r w10 ⟨v10, rfl, hi10, ht10⟩
            have t10 := t8.then0 ht10
            obtain ⟨A10, cap10, hf10, -⟩ := id hi10.1
            subst hf10
            have hlen10 : nm.length ≤ 9223372036854775807 := by obtain ⟨_, _, _, h1, h2, _⟩ := id hi10.1; unfold maxLen at h2; omega
            clear k0 k1 k2 ht10
            go_wp2_with fail
            go_loopw [22] (fun ti wr => HoRel nm y w10 ti wr) (fun ti _ => nm.length - (intOf ti).toNat)
            case atStart => exact ⟨0, by omega, rfl, fun j hj h => by omega, rfl⟩
            case round =>
              obtain ⟨k, hk, rfl, hall, rfl⟩ := hrel
              have HK := Lib.hid hall
              clear hall
              by_cases hlt : k < nm.length
              case neg =>
                have hlt' : ¬ (k : Int) < (nm.length : Int) := by omega
                have dlt : decide ((k : Int) < (nm.length : Int)) = false := by simp; omega
                go_wp2_with fail
                refine (known30_any _).mono ?_
                rintro r wk ⟨rfl, htk⟩
                go_wp2_with fail
                go_ret
                exact ⟨rfl, t10.then0 htk⟩
              have hlt' : (k : Int) < (nm.length : Int) := by omega
              obtain ⟨b, off, c10, e, hc, hc1, hc2⟩ := hi10.at hlt
              injection e with e1 _ e2
              subst e1 e2
              have HN := Lib.hid (fun he => HoRel.next (w := wr) hlt HK.out he)
              have HH := Lib.hid (HYB.out k hlt HK.out)
              generalize nm[k] = z at *
              by_cases hzy : z = y
              · have hb1 : (z == y) = true := by simpa using hzy
                have hb2 : (z != y) = false := by simpa using hzy
                clear hzy
                go_wp2_with fail
                refine (known30_any _).mono ?_
                rintro r wk ⟨rfl, htk⟩
                go_wp2_with fail
                go_ret
                exact ⟨rfl, t10.then0 htk⟩
              have hb1 : (z == y) = false := by simpa using hzy
              have hb2 : (z != y) = true := by simpa using hzy
              obtain ⟨hz1, hz2⟩ := HH.out hzy
              have HZ2 := Lib.hid hz2
              have HZY := Lib.hid hzy
              clear hz2 hzy
              go_wp2_with fail
              refine (HHS.out _ t10 _).mono ?_
              rintro r w11 ⟨rfl, rfl⟩
              rw [HZ2.out]
              go_wp2_with fail
              go_roundw
              case rel => exact HN.out HZY.out
              case measure => simp [intOf]; omega
        · have bc1 : (y == c) = false := by simpa using hyc
          have bc2 : (y != c) = true := by simpa using hyc
          have HYF := Lib.hid (HYC.out hyc)
          clear hyc
          go_wp2_with fail
          refine (HHS.out _ t8 _).mono ?_
          rintro r w13 ⟨rfl, rfl⟩
          rw [HYF.out]
          go_wp2_with fail
          refine (HHS.out _ t8 _).mono ?_
          rintro r w12 ⟨rfl, rfl⟩
          cases hpf : hasB F pf with
          | false =>
            clear hpf
            go_wp2_with fail
            refine (HNM3.out _ t8).mono ?_
            rintro r w10 ⟨v10, rfl, hi10, ht10⟩
            have t10 := t8.then0 ht10
            obtain ⟨A10, cap10, hf10, -⟩ := id hi10.1
            subst hf10
            have hlen10 : nm.length ≤ 9223372036854775807 := by obtain ⟨_, _, _, h1, h2, _⟩ := id hi10.1; unfold maxLen at h2; omega
            clear k0 k1 k2 ht10
            go_wp2_with fail
            go_loopw [22] (fun ti wr => HoRel nm y w10 ti wr) (fun ti _ => nm.length - (intOf ti).toNat)
            case atStart => exact ⟨0, by omega, rfl, fun j hj h => by omega, rfl⟩
            case round =>
              obtain ⟨k, hk, rfl, hall, rfl⟩ := hrel
              have HK := Lib.hid hall
              clear hall
              by_cases hlt : k < nm.length
              case neg =>
                have hlt' : ¬ (k : Int) < (nm.length : Int) := by omega
                have dlt : decide ((k : Int) < (nm.length : Int)) = false := by simp; omega
                go_wp2_with fail
                refine (known30_any _).mono ?_
                rintro r wk ⟨rfl, htk⟩
                go_wp2_with fail
                go_ret
                exact ⟨rfl, t10.then0 htk⟩
              have hlt' : (k : Int) < (nm.length : Int) := by omega
              obtain ⟨b, off, c10, e, hc, hc1, hc2⟩ := hi10.at hlt
              injection e with e1 _ e2
              subst e1 e2
              have HN := Lib.hid (fun he => HoRel.next (w := wr) hlt HK.out he)
              have HH := Lib.hid (HYB.out k hlt HK.out)
              generalize nm[k] = z at *
              by_cases hzy : z = y
              · have hb1 : (z == y) = true := by simpa using hzy
                have hb2 : (z != y) = false := by simpa using hzy
                clear hzy
                go_wp2_with fail
                refine (known30_any _).mono ?_
                rintro r wk ⟨rfl, htk⟩
                go_wp2_with fail
                go_ret
                exact ⟨rfl, t10.then0 htk⟩
              have hb1 : (z == y) = false := by simpa using hzy
              have hb2 : (z != y) = true := by simpa using hzy
              obtain ⟨hz1, hz2⟩ := HH.out hzy
              have HZ2 := Lib.hid hz2
              have HZY := Lib.hid hzy
              clear hz2 hzy
              go_wp2_with fail
              refine (HHS.out _ t10 _).mono ?_
              rintro r w11 ⟨rfl, rfl⟩
              rw [HZ2.out]
              go_wp2_with fail
              go_roundw
              case rel => exact HN.out HZY.out
              case measure => simp [intOf]; omega
          | true =>
            have hyp := HYP.out hpf
            have bp : (y != pf) = false := by simpa using hyp
            have bp2 : (y == pf) = true := by simpa using hyp
            clear hpf hyp
            go_wp2_with fail
            refine (HNM3.out _ t8).mono ?_
            rintro r w10 ⟨v10, rfl, hi10, ht10⟩
            have t10 := t8.then0 ht10
            obtain ⟨A10, cap10, hf10, -⟩ := id hi10.1
            subst hf10
            have hlen10 : nm.length ≤ 9223372036854775807 := by obtain ⟨_, _, _, h1, h2, _⟩ := id hi10.1; unfold maxLen at h2; omega
            clear k0 k1 k2 ht10
            go_wp2_with fail
            go_loopw [22] (fun ti wr => HoRel nm y w10 ti wr) (fun ti _ => nm.length - (intOf ti).toNat)
            case atStart => exact ⟨0, by omega, rfl, fun j hj h => by omega, rfl⟩
            case round =>
              obtain ⟨k, hk, rfl, hall, rfl⟩ := hrel
              have HK := Lib.hid hall
              clear hall
              by_cases hlt : k < nm.length
              case neg =>
                have hlt' : ¬ (k : Int) < (nm.length : Int) := by omega
                have dlt : decide ((k : Int) < (nm.length : Int)) = false := by simp; omega
                go_wp2_with fail
                refine (known30_any _).mono ?_
                rintro r wk ⟨rfl, htk⟩
                go_wp2_with fail
                go_ret
                exact ⟨rfl, t10.then0 htk⟩
              have hlt' : (k : Int) < (nm.length : Int) := by omega
              obtain ⟨b, off, c10, e, hc, hc1, hc2⟩ := hi10.at hlt
              injection e with e1 _ e2
              subst e1 e2
              have HN := Lib.hid (fun he => HoRel.next (w := wr) hlt HK.out he)
              have HH := Lib.hid (HYB.out k hlt HK.out)
              generalize nm[k] = z at *
              by_cases hzy : z = y
              · have hb1 : (z == y) = true := by simpa using hzy
                have hb2 : (z != y) = false := by simpa using hzy
                clear hzy
                go_wp2_with fail
                refine (known30_any _).mono ?_
                rintro r wk ⟨rfl, htk⟩
                go_wp2_with fail
                go_ret
                exact ⟨rfl, t10.then0 htk⟩
              have hb1 : (z == y) = false := by simpa using hzy
              have hb2 : (z != y) = true := by simpa using hzy
              obtain ⟨hz1, hz2⟩ := HH.out hzy
              have HZ2 := Lib.hid hz2
              have HZY := Lib.hid hzy
              clear hz2 hzy
              go_wp2_with fail
              refine (HHS.out _ t10 _).mono ?_
              rintro r w11 ⟨rfl, rfl⟩
              rw [HZ2.out]
              go_wp2_with fail
              go_roundw
              case rel => exact HN.out HZY.out
              case measure => simp [intOf]; omega
      · have bz1 : (de == 0) = false := by simpa using hz
        have bz2 : (de != 0) = true := by simpa using hz
        clear hz HDZ HVB
        go_enter Try.func17, Try.ntmps17
        go_wp2_with fail
        refine (HV.out _ hta).mono ?_
        rintro r w1 ⟨rfl, ht1⟩
        have hB1 := hblk.touch ht1 (by simp)
        have k0 := hB1.cell 0
        have k1 := hB1.cell 1
        have k2 := hB1.cell 2
        simp at k0 k1 k2
        have t1 := hta.then0 ht1
        have s1 := ht1
        clear ht1 hB1
        go_wp2_with fail
        refine (HEN.out _ t1).mono ?_
        rintro r w2 ⟨v2, rfl, hr2, ht2⟩
        have s2 := s1.then0 (((Touch.refl [] w1).alloc _).then0 ht2)
        clear k0 k1 k2
        go_wp2_with fail
        refine (HDB.out _ _ hr2).mono ?_
        rintro r w3 ⟨v3, xs, rfl, hb3, he3, ht3⟩
        have s3 := s2.then0 ht3
        have hB3 := hblk.touch s3 (by simp)
        have k0 := hB3.cell 0
        have k1 := hB3.cell 1
        have k2 := hB3.cell 2
        simp at k0 k1 k2
        have t3 := hta.then0 s3
        clear hB3
        go_wp2_with fail
        refine (HSB.out _ t3 _ _ hb3 he3).mono ?_
        rintro r w4 ⟨rfl, ht4⟩
        have s4 := s3.then0 (((Touch.refl [] w3).alloc _).then0 ht4)
        clear k0 k1 k2 hb3 he3
        have t4 := hta.then0 s4
        go_wp2_with fail
        refine (HD3.out _ t4).mono ?_
        rintro r w5 ⟨v5, ys, rfl, hb5, he5, ht5⟩
        have s5 := s4.then0 ht5
        have t5 := hta.then0 s5
        clear ht5
        have hB5 := hblk.touch s5 (by simp)
        have k0 := hB5.cell 0
        have k1 := hB5.cell 1
        have k2 := hB5.cell 2
        simp at k0 k1 k2
        clear hB5
        go_wp2_with fail
        refine (HC3.out _ t5).mono ?_
        rintro r w8 ⟨rfl, ht8⟩
        have s8 := s5.then0 ht8
        have t8 := hta.then0 s8
        clear k0 k1 k2 ht8
        have hB8 := hblk.touch s8 (by simp)
        have k0 := hB8.cell 0
        have k1 := hB8.cell 1
        have k2 := hB8.cell 2
        simp at k0 k1 k2
        clear hB8
        go_wp2_with fail
        refine (HAL.out _ _).mono ?_
        rintro r w9 ⟨rfl, rfl⟩
        rw [HYA.out]
        by_cases hyc : y = c
        · have bc1 : (y == c) = true := by simpa using hyc
          have bc2 : (y != c) = false := by simpa using hyc
          clear hyc
          go_wp2_with fail
          refine (HHS.out _ t8 _).mono ?_
          rintro r w12 ⟨rfl, rfl⟩
          cases hpf : hasB F pf with
          | false =>
            clear hpf
            go_wp2_with fail
            refine (HNM3.out _ t8).mono ?_
            rintro r w10 ⟨v10, rfl, hi10, ht10⟩
            have t10 := t8.then0 ht10
            obtain ⟨A10, cap10, hf10, -⟩ := id hi10.1
            subst hf10
            have hlen10 : nm.length ≤ 9223372036854775807 := by obtain ⟨_, _, _, h1, h2, _⟩ := id hi10.1; unfold maxLen at h2; omega
            clear k0 k1 k2 ht10
            go_wp2_with fail
            go_loopw [22] (fun ti wr => HoRel nm y w10 ti wr) (fun ti _ => nm.length - (intOf ti).toNat)
            case atStart => exact ⟨0, by omega, rfl, fun j hj h => by omega, rfl⟩
            case round =>
              obtain ⟨k, hk, rfl, hall, rfl⟩ := hrel
              have HK := Lib.hid hall
              clear hall
              by_cases hlt : k < nm.length
              case neg =>
                have hlt' : ¬ (k : Int) < (nm.length : Int) := by omega
                have dlt : decide ((k : Int) < (nm.length : Int)) = false := by simp; omega
                go_wp2_with fail
                refine (known30_any _).mono ?_
                rintro r wk ⟨rfl, htk⟩
                go_wp2_with fail
                go_ret
                exact ⟨rfl, t10.then0 htk⟩
              have hlt' : (k : Int) < (nm.length : Int) := by omega
              obtain ⟨b, off, c10, e, hc, hc1, hc2⟩ := hi10.at hlt
              injection e with e1 _ e2
              subst e1 e2
              have HN := Lib.hid (fun he => HoRel.next (w := wr) hlt HK.out he)
              have HH := Lib.hid (HYB.out k hlt HK.out)
              generalize nm[k] = z at *
              by_cases hzy : z = y
              · have hb1 : (z == y) = true := by simpa using hzy
                have hb2 : (z != y) = false := by simpa using hzy
                clear hzy
                go_wp2_with fail
                refine (known30_any _).mono ?_
                rintro r wk ⟨rfl, htk⟩
                go_wp2_with fail
                go_ret
                exact ⟨rfl, t10.then0 htk⟩
              have hb1 : (z == y) = false := by simpa using hzy
              have hb2 : (z != y) = true := by simpa using hzy
              obtain ⟨hz1, hz2⟩ := HH.out hzy
              have HZ2 := Lib.hid hz2
              have HZY := Lib.hid hzy
              clear hz2 hzy
              go_wp2_with fail
              refine (HHS.out _ t10 _).mono ?_
              rintro r w11 ⟨rfl, rfl⟩
              rw [HZ2.out]
              go_wp2_with fail
              go_roundw
              case rel => exact HN.out HZY.out
              case measure => simp [intOf]; omega
          | true =>
            have hyp := HYP.out hpf
            have bp : (y != pf) = false := by simpa using hyp
            have bp2 : (y == pf) = true := by simpa using hyp
            clear hpf hyp
            go_wp2_with fail
            refine (HNM3.out _ t8).mono ?_
            rintro r w10 ⟨v10, rfl, hi10, ht10⟩
            have t10 := t8.then0 ht10
            obtain ⟨A10, cap10, hf10, -⟩ := id hi10.1
            subst hf10
            have hlen10 : nm.length ≤ 9223372036854775807 := by obtain ⟨_, _, _, h1, h2, _⟩ := id hi10.1; unfold maxLen at h2; omega
            clear k0 k1 k2 ht10
            go_wp2_with fail
            go_loopw [22] (fun ti wr => HoRel nm y w10 ti wr) (fun ti _ => nm.length - (intOf ti).toNat)
            case atStart => exact ⟨0, by omega, rfl, fun j hj h => by omega, rfl⟩
            case round =>
              obtain ⟨k, hk, rfl, hall, rfl⟩ := hrel
              have HK := Lib.hid hall
              clear hall
              by_cases hlt : k < nm.length
              case neg =>
                have hlt' : ¬ (k : Int) < (nm.length : Int) := by omega
                have dlt : decide ((k : Int) < (nm.length : Int)) = false := by simp; omega
                go_wp2_with fail
                refine (known30_any _).mono ?_
                rintro r wk ⟨rfl, htk⟩
                go_wp2_with fail
                go_ret
                exact ⟨rfl, t10.then0 htk⟩
              have hlt' : (k : Int) < (nm.length : Int) := by omega
              obtain ⟨b, off, c10, e, hc, hc1, hc2⟩ := hi10.at hlt
              injection e with e1 _ e2
              subst e1 e2
              have HN := Lib.hid (fun he => HoRel.next (w := wr) hlt HK.out he)
              have HH := Lib.hid (HYB.out k hlt HK.out)
              generalize nm[k] = z at *
              by_cases hzy : z = y
              · have hb1 : (z == y) = true := by simpa using hzy
                have hb2 : (z != y) = false := by simpa using hzy
                clear hzy
                go_wp2_with fail
                refine (known30_any _).mono ?_
                rintro r wk ⟨rfl, htk⟩
                go_wp2_with fail
                go_ret
                exact ⟨rfl, t10.then0 htk⟩
              have hb1 : (z == y) = false := by simpa using hzy
              have hb2 : (z != y) = true := by simpa using hzy
              obtain ⟨hz1, hz2⟩ := HH.out hzy
              have HZ2 := Lib.hid hz2
              have HZY := Lib.hid hzy
              clear hz2 hzy
              go_wp2_with fail
              refine (HHS.out _ t10 _).mono ?_
              rintro r w11 ⟨rfl, rfl⟩
              rw [HZ2.out]
              go_wp2_with fail
              go_roundw
              case rel => exact HN.out HZY.out
              case measure => simp [intOf]; omega
        · have bc1 : (y == c) = false := by simpa using hyc
          have bc2 : (y != c) = true := by simpa using hyc
          have HYF := Lib.hid (HYC.out hyc)
          clear hyc
          go_wp2_with fail
          refine (HHS.out _ t8 _).mono ?_
          rintro r w13 ⟨rfl, rfl⟩
          rw [HYF.out]
          go_wp2_with fail
          refine (HHS.out _ t8 _).mono ?_
          rintro r w12 ⟨rfl, rfl⟩
          cases hpf : hasB F pf with
          | false =>
            clear hpf
            go_wp2_with fail
            refine (HNM3.out _ t8).mono ?_
            rintro r w10 ⟨v10, rfl, hi10, ht10⟩
            have t10 := t8.then0 ht10
            obtain ⟨A10, cap10, hf10, -⟩ := id hi10.1
            subst hf10
            have hlen10 : nm.length ≤ 9223372036854775807 := by obtain ⟨_, _, _, h1, h2, _⟩ := id hi10.1; unfold maxLen at h2; omega
            clear k0 k1 k2 ht10
            go_wp2_with fail
            go_loopw [22] (fun ti wr => HoRel nm y w10 ti wr) (fun ti _ => nm.length - (intOf ti).toNat)
            case atStart => exact ⟨0, by omega, rfl, fun j hj h => by omega, rfl⟩
            case round =>
              obtain ⟨k, hk, rfl, hall, rfl⟩ := hrel
              have HK := Lib.hid hall
              clear hall
              by_cases hlt : k < nm.length
              case neg =>
                have hlt' : ¬ (k : Int) < (nm.length : Int) := by omega
                have dlt : decide ((k : Int) < (nm.length : Int)) = false := by simp; omega
                go_wp2_with fail
                refine (known30_any _).mono ?_
                rintro r wk ⟨rfl, htk⟩
                go_wp2_with fail
                go_ret
                exact ⟨rfl, t10.then0 htk⟩
              have hlt' : (k : Int) < (nm.length : Int) := by omega
              obtain ⟨b, off, c10, e, hc, hc1, hc2⟩ := hi10.at hlt
              injection e with e1 _ e2
              subst e1 e2
              have HN := Lib.hid (fun he => HoRel.next (w := wr) hlt HK.out he)
              have HH := Lib.hid (HYB.out k hlt HK.out)
              generalize nm[k] = z at *
              by_cases hzy : z = y
              · have hb1 : (z == y) = true := by simpa using hzy
                have hb2 : (z != y) = false := by simpa using hzy
                clear hzy
                go_wp2_with fail
                refine (known30_any _).mono ?_
                rintro r wk ⟨rfl, htk⟩
                go_wp2_with fail
                go_ret
                exact ⟨rfl, t10.then0 htk⟩
              have hb1 : (z == y) = false := by simpa using hzy
              have hb2 : (z != y) = true := by simpa using hzy
              obtain ⟨hz1, hz2⟩ := HH.out hzy
              have HZ2 := Lib.hid hz2
              have HZY := Lib.hid hzy
              clear hz2 hzy
              go_wp2_with fail
              refine (HHS.out _ t10 _).mono ?_
              rintro r w11 ⟨rfl, rfl⟩
              rw [HZ2.out]
              go_wp2_with fail
              go_roundw
              case rel => exact HN.out HZY.out
              case measure => simp [intOf]; omega
          | true =>
            have hyp := HYP.out hpf
            have bp : (y != pf) = false := by simpa using hyp
            have bp2 : (y == pf) = true := by simpa using hyp
            clear hpf hyp
            go_wp2_with fail
            refine (HNM3.out _ t8).mono ?_
            rintro r w10 ⟨v10, rfl, hi10, ht10⟩
            have t10 := t8.then0 ht10
            obtain ⟨A10, cap10, hf10, -⟩ := id hi10.1
            subst hf10
            have hlen10 : nm.length ≤ 9223372036854775807 := by obtain ⟨_, _, _, h1, h2, _⟩ := id hi10.1; unfold maxLen at h2; omega
            clear k0 k1 k2 ht10
            go_wp2_with fail
            go_loopw [22] (fun ti wr => HoRel nm y w10 ti wr) (fun ti _ => nm.length - (intOf ti).toNat)
            case atStart => exact ⟨0, by omega, rfl, fun j hj h => by omega, rfl⟩
            case round =>
              obtain ⟨k, hk, rfl, hall, rfl⟩ := hrel
              have HK := Lib.hid hall
              clear hall
              by_cases hlt : k < nm.length
              case neg =>
                have hlt' : ¬ (k : Int) < (nm.length : Int) := by omega
                have dlt : decide ((k : Int) < (nm.length : Int)) = false := by simp; omega
                go_wp2_with fail
                refine (known30_any _).mono ?_
                rintro r wk ⟨rfl, htk⟩
                go_wp2_with fail
                go_ret
                exact ⟨rfl, t10.then0 htk⟩
              have hlt' : (k : Int) < (nm.length : Int) := by omega
              obtain ⟨b, off, c10, e, hc, hc1, hc2⟩ := hi10.at hlt
              injection e with e1 _ e2
              subst e1 e2
              have HN := Lib.hid (fun he => HoRel.next (w := wr) hlt HK.out he)
              have HH := Lib.hid (HYB.out k hlt HK.out)
              generalize nm[k] = z at *
              by_cases hzy : z = y
              · have hb1 : (z == y) = true := by simpa using hzy
                have hb2 : (z != y) = false := by simpa using hzy
                clear hzy
                go_wp2_with fail
                refine (known30_any _).mono ?_
                rintro r wk ⟨rfl, htk⟩
                go_wp2_with fail
                go_ret
                exact ⟨rfl, t10.then0 htk⟩
              have hb1 : (z == y) = false := by simpa using hzy
              have hb2 : (z != y) = true := by simpa using hzy
              obtain ⟨hz1, hz2⟩ := HH.out hzy
              have HZ2 := Lib.hid hz2
              have HZY := Lib.hid hzy
              clear hz2 hzy
              go_wp2_with fail
              refine (HHS.out _ t10 _).mono ?_
              rintro r w11 ⟨rfl, rfl⟩
              rw [HZ2.out]
              go_wp2_with fail
              go_roundw
              case rel => exact HN.out HZY.out
              case measure => simp [intOf]; omega
end Go.Proofs.Ytpbknnkobhjjcaa
