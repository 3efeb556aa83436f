/- The law WireNumbers: its walk. -/
import Derived.Test.YtpbknnkobhjjcaaRound
import Derived.Deep.DeepCutAuto
import Derived.Deep.RegionWith
namespace Go.Proofs.Ytpbknnkobhjjcaa
open Go.RowKit

/-- Another writer of the call's own stays. -/
theorem WrL.keep {w0 w w' : World} {p : Nat} {out : Value} {s : WS} {L : List Nat} (h : WrL w0 w p out s) (ht : Touch L w w') (hp : p ∉ L) (ho : s.1 = 0 → ∀ g ∈ blk out, g ∉ L) (h0 : ∀ m ∈ L, w0.heap.size ≤ m) : WrL w0 w' p out s :=
  ⟨⟨h.1.1.touch ht hp, fun he => ⟨Own.touch (h.1.2 he).1 ht (ho he), (h.1.2 he).2⟩⟩, h.2.1.step ht (fun m hm => .inr (h0 m hm)), h.2.2⟩

theorem wInt_new (n : Int) : wInt (0, []) n = (0, grp (fold n)) := by
  have := grp_len (fold n)
  unfold wInt wPut
  simp only [if_true]
  rw [if_pos (by simp; omega)]
  rfl
theorem wUint_new (n : Int) (h : 0 ≤ n) : wUint (0, []) n = (0, grp n.toNat) := by
  have := grp_len n.toNat
  unfold wUint wPut
  rw [if_neg (by omega)]
  simp only [if_true]
  rw [if_pos (by simp; omega)]
  rfl
theorem wUint_neg (n : Int) (h : n < 0) : wUint (0, []) n = (2, []) := by
  unfold wUint wErr
  rw [if_pos h]
  simp

set_option maxRecDepth 100000 in
set_option maxHeartbeats 16000000 in
theorem numbers_walk (n : Int) (w : World) (hf : Fits n) :
    Calls Try.prog 6 #[.int .i64 n] w fun r w' => r = .returned (.bool true) ∧ Touch [] w w' := by
  have hf' := hf
  obtain ⟨hf1, hf2⟩ := hf'
  have hfl := fold_lt n hf1 hf2
  go_enter Try.func6, Try.ntmps6
  go_wp2_with fail
  have hu := (WrL.new w).alloc (.cells #[.int .i64 0, .slice none 0 0] 30)
  have hv0 := WrL.new (w.alloc (.cells #[.int .i64 0, .slice none 0 0] 30))
  have hv : WrL w ((w.alloc (.cells #[.int .i64 0, .slice none 0 0] 30)).alloc (.cells #[.int .i64 0, .slice none 0 0] 30)) (w.heap.size + 1) (.slice none 0 0) (0, []) :=
    ⟨by simpa using hv0.1, ((Touch.refl _ _).alloc _).alloc _, by omega, fun g hg => by cases hg⟩
  clear hv0
  refine (wr_uint _ _ _ n _ hu.1 hf2).mono ?_
  intro r w1 hd
  obtain ⟨-, _, _, ht, -⟩ := id hd
  obtain ⟨rfl, o1, hu1⟩ := hu.done hd
  have hv1 := hv.keep ht (by simp [blk]) (by simp [blk]) (by simp [blk])
  clear hd ht hu hv
  generalize hsu : wUint (0, []) n = su at *
  have HSU := Lib.hid hsu
  clear hsu
  go_wp2_with fail
  refine (wr_int _ _ _ n _ hv1.1 hf1 hf2).mono ?_
  intro r w2 hd
  obtain ⟨-, _, _, ht, -⟩ := id hd
  obtain ⟨rfl, o2, hv2⟩ := hv1.done hd
  have hu2 := hu1.keep ht (by simp [blk]) (fun he g hg hm => by simp [blk] at hm; subst hm; exact (hu1.1.2 he).1.ne_blk hv1.1.1 (by decide) hg) (by simp [blk])
  clear hd ht hu1 hv1
  rw [wInt_new] at hv2
  go_wp2_with fail
  refine (wr_end _ _ _ _ hu2.1).mono ?_
  rintro r w3 ⟨a, rfl, ha, ht3, -⟩
  have hv3 := hv2.keep ht3 (by simp) (by simp) (by simp)
  clear hu2 hv2
  go_wp2_with fail
  refine (wr_end _ _ _ _ hv3.1).mono ?_
  rintro r w4 ⟨b, rfl, hb, ht4, -⟩
  have ha4 := Own.touch0 ha ht4
  have htt := hv3.2.1.then0 ht4
  simp only [if_true] at hb ⊢
  clear ha hv3 ht3 ht4
  have sb := run_str (Row.bytes (Own.touch0 hb (Touch.refl [] w4).drew))
  go_wp2_with fail
  go_cut [33] (fun s33 wx => s33 = .bool false ∧ Touch [] w4 wx)
  case first =>
    have kk : ∀ W, Touch [] w4 W → (convert 28 9 b).run Try.prog W = .ok (.string ⟨(grp (fold n)).toArray⟩) W := fun W h => run_str (Row.bytes (Own.touch0 hb h))
    have HK := Lib.hid kk
    clear kk
    refine wp_region_held_drew (S := fun W => (convert 28 9 b).run Try.prog W = .ok (.string ⟨(grp (fold n)).toArray⟩) W) (by kernel_rfl) (HK.out _ (Touch.refl [] w4).drew) (fun hS => ?_)
    refine wpAnyH_take (i := 0) (v := ?_) rfl (by kernel_rfl) (by kernel_rfl) (by kernel_rfl) (fun _ _ _ h => h) (Or.inl ⟨by rfl, ?_⟩) hS ?_
    rotate_left
    · (intro W hSW; go_simp <;> with_reducible rfl)
    simp only [Act.put, List.setIfInBounds_toArray, List.set_cons_zero, List.set_cons_succ, List.getElem_toArray, List.getElem_cons_zero]
    refine wpAnyH_take (i := 1) (v := ?_) rfl (by kernel_rfl) (by kernel_rfl) (by kernel_rfl) (fun _ _ _ h => h) (Or.inl ⟨by rfl, ?_⟩) hS ?_
    rotate_left
    · (intro W hSW; go_simp <;> with_reducible rfl)
    simp only [Act.put, List.setIfInBounds_toArray, List.set_cons_zero, List.set_cons_succ, List.getElem_toArray, List.getElem_cons_succ, List.getElem_cons_zero]
    refine wpAnyH_take (i := 2) (v := ?_) rfl (by kernel_rfl) (by kernel_rfl) (by kernel_rfl) (fun _ _ _ h => h) (Or.inl ⟨by rfl, ?_⟩) hS ?_
    rotate_left
    · (intro W hSW; go_simp <;> with_reducible rfl)
    simp only [Act.put, List.setIfInBounds_toArray, List.set_cons_zero, List.set_cons_succ, List.getElem_toArray, List.getElem_cons_succ, List.getElem_cons_zero]
    refine wpAnyH_take (i := 3) (v := ?_) rfl (by kernel_rfl) (by kernel_rfl) (by kernel_rfl) (fun _ _ _ h => h) (Or.inl ⟨by rfl, ?_⟩) hS ?_
    rotate_left
    · (intro W hSW; go_simp <;> with_reducible rfl)
    simp only [Act.put, List.setIfInBounds_toArray, List.set_cons_zero, List.set_cons_succ, List.getElem_toArray, List.getElem_cons_succ, List.getElem_cons_zero]
    refine wpAnyH_take (i := 4) (v := ?_) rfl (by kernel_rfl) (by kernel_rfl) (by kernel_rfl) (fun _ _ _ h => h) (Or.inl ⟨by rfl, ?_⟩) hS ?_
    rotate_left
    · (intro W hSW; go_simp <;> with_reducible rfl)
    simp only [Act.put, List.setIfInBounds_toArray, List.set_cons_zero, List.set_cons_succ, List.getElem_toArray, List.getElem_cons_succ, List.getElem_cons_zero]
    refine wpAnyH_take (i := 5) (v := ?_) rfl (by kernel_rfl) (by kernel_rfl) (by kernel_rfl) (fun _ _ _ h => h) (Or.inl ⟨by rfl, ?_⟩) hS ?_
    rotate_left
    · (intro W hSW; go_simp <;> with_reducible rfl)
    simp only [Act.put, List.setIfInBounds_toArray, List.set_cons_zero, List.set_cons_succ, List.getElem_toArray, List.getElem_cons_succ, List.getElem_cons_zero]
    refine wpAnyH_ready (rs := [6]) (by kernel_rfl) (by simp) (AllReadyH.cons rfl (fun K hK => ?_) AllReadyH.nil)
    go_simp
    refine (rfold_any n _ hf).mono ?_
    rintro r w' ⟨rfl, rfl⟩
    go_wp2_with fail
    refine hK.out _ _ hS (fun _ => ?_)
    clear hK K
    try simp only [Act.put, List.setIfInBounds_toArray, List.set_cons_zero, List.set_cons_succ, List.getElem_toArray, List.getElem_cons_succ, List.getElem_cons_zero]
    refine wpAnyH_ready (rs := [7]) (by kernel_rfl) (by simp) (AllReadyH.cons rfl (fun K hK => ?_) AllReadyH.nil)
    go_simp
    refine (rgroup_any (fold n) _ hfl).mono ?_
    rintro r w5 ⟨v5, rfl, hr5, ht5, -⟩
    have ht5' : Touch [] w4 w5 := ((Touch.refl [] w4).drewN 1).then0 ht5
    have s5 := run_str (Row.bytes hr5)
    have hS5 := HK.out _ ht5'
    go_wp2_with fail
    refine hK.out _ _ hS5 (fun _ => ?_)
    clear hK K
    try simp only [Act.put, List.setIfInBounds_toArray, List.set_cons_zero, List.set_cons_succ, List.getElem_toArray, List.getElem_cons_succ, List.getElem_cons_zero]
    refine wpAnyH_ready (rs := [8]) (by kernel_rfl) (by simp) (AllReadyH.cons rfl (fun K hK => ?_) AllReadyH.nil)
    go_simp
    refine hK.out _ _ hS5 (fun _ => ?_)
    clear hK K
    try simp only [Act.put, List.setIfInBounds_toArray, List.set_cons_zero, List.set_cons_succ, List.getElem_toArray, List.getElem_cons_succ, List.getElem_cons_zero]
    refine wpAnyH_take (i := 9) (v := ?_) rfl (by kernel_rfl) (by kernel_rfl) (by kernel_rfl) (fun _ _ _ h => h) (Or.inl ⟨by rfl, ?_⟩) hS5 ?_
    rotate_left
    · (intro W hSW; go_simp <;> with_reducible rfl)
    simp only [Act.put, List.setIfInBounds_toArray, List.set_cons_zero, List.set_cons_succ, List.getElem_toArray, List.getElem_cons_succ, List.getElem_cons_zero]
    refine wpAnyH_take (i := 10) (v := ?_) rfl (by kernel_rfl) (by kernel_rfl) (by kernel_rfl) (fun _ _ _ h => h) (Or.inl ⟨by rfl, ?_⟩) hS5 ?_
    rotate_left
    · (intro W hSW; go_simp <;> with_reducible rfl)
    simp only [Act.put, List.setIfInBounds_toArray, List.set_cons_zero, List.set_cons_succ, List.getElem_toArray, List.getElem_cons_succ, List.getElem_cons_zero]
    refine wpAnyH_done (by kernel_rfl) ?_ _
    all_goals (go_wp2_with fail; go_meet; exact ⟨rfl, ht5'⟩)
  case rest =>
    obtain ⟨rfl, ht5⟩ := hcut
    have ha5 := Own.touch0 ha4 ht5
    have hb5 : Row wc b (grp (fold n)) := Own.touch0 hb ht5
    have htt5 := htt.then0 ht5
    clear sb hb ha4 ht5 htt
    go_wp2_with fail
    refine (read_any _ _ _ hb5.bytes (by have := grp_len (fold n); omega)).mono ?_
    rintro r w6 ⟨p6, in6, rfl, hp6, -, hr6, ht6⟩
    have ha6 := Own.touch0 ha5 ht6
    have htt6 := htt5.then0 ht6
    have hpp : w.heap.size ≤ p6 := by have := htt5.size; omega
    clear hb5 ha5 htt5 ht6
    have e6 : rRead 0 (pInt (grp (fold n))) (0, 0) = (n, (0, (grp (fold n)).length)) := by
      unfold rRead
      simp only [if_true]
      rw [pInt_grp (rest := []) (n := n) (by simp) hf]
      simp
    have E6 := Lib.hid e6
    clear e6
    go_wp2_with fail
    refine (rd_int _ _ _ (0, 0) _ hr6).mono ?_
    rintro r w7 ⟨rfl, hr7, ht7⟩
    rw [E6.out] at hr7 ⊢
    simp only at hr7 ⊢
    have ha7 := Own.touch ha6 ht7 (fun b hb hm => by simp at hm; subst hm; exact Own.ne_blk ha6 hr6.1 (by decide) hb)
    have htt7 := htt6.step ht7 (by simp; omega)
    clear hr6 ha6 ht7 htt6
    go_wp2_with fail
    refine (rd_end _ _ _ _ _ _ hr7).mono ?_
    rintro r w8 ⟨rfl, k8, rfl⟩
    rw [show rEnd (grp (fold n)) 0 (grp (fold n)).length = 0 by unfold rEnd; simp]
    have ha8 := Own.touch0 ha7 ((Touch.refl [] w7).drewN k8)
    have htt8 := htt7.drewN k8
    clear hr7 ha7 htt7
    by_cases hn : n < 0
    · have hs2 : su = (2, []) := by rw [← HSU.out]; exact wUint_neg n hn
      subst hs2
      simp only at ha8
      obtain ⟨A8, c8, rfl⟩ := Own.form ha8
      go_wp2_with fail
      refine (known_any _).mono ?_
      rintro r w9 ⟨rfl, ht9⟩
      go_wp2_with fail
      go_ret
      exact ⟨rfl, htt8.then0 ht9⟩
    · have hs2 : su = (0, grp n.toNat) := by rw [← HSU.out]; exact wUint_new n (by omega)
      subst hs2
      simp only [if_true] at ha8
      clear HSU
      have ha9 : Row (w7.drewN k8) a (grp n.toNat) := ha8
      generalize w7.drewN k8 = w8 at *
      clear ha8
      go_wp2_with fail
      refine (read_any _ _ _ ha9.bytes (by have := grp_len n.toNat; omega)).mono ?_
      rintro r w10 ⟨p10, in10, rfl, hp10, -, hr10, ht10⟩
      have ha10 : Row w10 a (grp n.toNat) := Own.touch0 ha9 ht10
      have htt10 := htt8.then0 ht10
      have hpp10 : w.heap.size ≤ p10 := by have := htt8.size; omega
      clear ha9 htt8 ht10
      have e10 : rRead 0 (pUint (grp n.toNat)) (0, 0) = (n, (0, (grp n.toNat).length)) := by
        unfold rRead
        simp only [if_true]
        rw [pUint_grp (rest := []) (n := n) (by simp) (by omega) hf]
        simp
      have E10 := Lib.hid e10
      have EE := Lib.hid (show rEnd (grp n.toNat) 0 (grp n.toNat).length = 0 by unfold rEnd; simp)
      clear e10
      have sa := run_str (Row.bytes (Own.touch0 ha10 (Touch.refl [] w10).drew))
      have hwr : IntKind.u64.wrap n = n := by rw [IntKind.wrap_u64]; omega
      go_wp2_with fail
      go_cut [2] (fun s2 wx => s2 = .bool true ∧ Touch [] w wx)
      case first =>
        have kk : ∀ W, Touch [p10] w10 W → (convert 28 9 a).run Try.prog W = .ok (.string ⟨(grp n.toNat).toArray⟩) W := fun W h => run_str (Row.bytes (Own.touch ha10 h (fun b hb hm => by simp at hm; subst hm; exact Own.ne_blk ha10 hr10.1 (by decide) hb)))
        have HK := Lib.hid kk
        clear kk
        refine wp_region_held_drew (S := fun W => (convert 28 9 a).run Try.prog W = .ok (.string ⟨(grp n.toNat).toArray⟩) W) (by kernel_rfl) (HK.out _ (Touch.refl _ w10).drew) (fun hS => ?_)
        refine wpAnyH_take (i := 0) (v := ?_) rfl (by kernel_rfl) (by kernel_rfl) (by kernel_rfl) (fun _ _ _ h => h) (Or.inl ⟨by rfl, ?_⟩) hS ?_
        rotate_left
        · (intro W hSW; go_simp <;> with_reducible rfl)
        simp only [Act.put, List.setIfInBounds_toArray, List.set_cons_zero, List.set_cons_succ, List.getElem_toArray, List.getElem_cons_zero]
        refine wpAnyH_take (i := 1) (v := ?_) rfl (by kernel_rfl) (by kernel_rfl) (by kernel_rfl) (fun _ _ _ h => h) (Or.inl ⟨by rfl, ?_⟩) hS ?_
        rotate_left
        · (intro W hSW; go_simp <;> with_reducible rfl)
        simp only [Act.put, List.setIfInBounds_toArray, List.set_cons_zero, List.set_cons_succ, List.getElem_toArray, List.getElem_cons_succ, List.getElem_cons_zero]
        refine wpAnyH_take (i := 2) (v := ?_) rfl (by kernel_rfl) (by kernel_rfl) (by kernel_rfl) (fun _ _ _ h => h) (Or.inl ⟨by rfl, ?_⟩) hS ?_
        rotate_left
        · (intro W hSW; go_simp <;> with_reducible rfl)
        simp only [Act.put, List.setIfInBounds_toArray, List.set_cons_zero, List.set_cons_succ, List.getElem_toArray, List.getElem_cons_succ, List.getElem_cons_zero]
        refine wpAnyH_take (i := 3) (v := ?_) rfl (by kernel_rfl) (by kernel_rfl) (by kernel_rfl) (fun _ _ _ h => h) (Or.inl ⟨by rfl, ?_⟩) hS ?_
        rotate_left
        · (intro W hSW; go_simp <;> with_reducible rfl)
        simp only [Act.put, List.setIfInBounds_toArray, List.set_cons_zero, List.set_cons_succ, List.getElem_toArray, List.getElem_cons_succ, List.getElem_cons_zero]
        refine wpAnyH_take (i := 4) (v := ?_) rfl (by kernel_rfl) (by kernel_rfl) (by kernel_rfl) (fun _ _ _ h => h) (Or.inl ⟨by rfl, ?_⟩) hS ?_
        rotate_left
        · (intro W hSW; go_simp <;> with_reducible rfl)
        simp only [Act.put, List.setIfInBounds_toArray, List.set_cons_zero, List.set_cons_succ, List.getElem_toArray, List.getElem_cons_succ, List.getElem_cons_zero]
        refine wpAnyH_take (i := 5) (v := ?_) rfl (by kernel_rfl) (by kernel_rfl) (by kernel_rfl) (fun _ _ _ h => h) (Or.inl ⟨by rfl, ?_⟩) hS ?_
        rotate_left
        · (intro W hSW; go_simp <;> with_reducible rfl)
        simp only [Act.put, List.setIfInBounds_toArray, List.set_cons_zero, List.set_cons_succ, List.getElem_toArray, List.getElem_cons_succ, List.getElem_cons_zero]
        refine wpAnyH_take (i := 6) (v := ?_) rfl (by kernel_rfl) (by kernel_rfl) (by kernel_rfl) (fun _ _ _ h => h) (Or.inl ⟨by rfl, ?_⟩) hS ?_
        rotate_left
        · (intro W hSW; go_simp <;> with_reducible rfl)
        simp only [Act.put, List.setIfInBounds_toArray, List.set_cons_zero, List.set_cons_succ, List.getElem_toArray, List.getElem_cons_succ, List.getElem_cons_zero]
        refine wpAnyH_ready (rs := [7]) (by kernel_rfl) (by simp) (AllReadyH.cons rfl (fun K hK => ?_) AllReadyH.nil)
        go_simp
        refine (rgroup_int n _ (by omega) (by omega)).mono ?_
        rintro r w11 ⟨v11, rfl, hr11, ht11, -⟩
        have ht11' : Touch [] w10 w11 := ((Touch.refl [] w10).drewN 1).then0 ht11
        have s11 := run_str (Row.bytes hr11)
        have hS11 := HK.out _ (ht11'.mono (by simp))
        go_wp2_with fail
        refine hK.out _ _ hS11 (fun _ => ?_)
        clear hK K
        try simp only [Act.put, List.setIfInBounds_toArray, List.set_cons_zero, List.set_cons_succ, List.getElem_toArray, List.getElem_cons_succ, List.getElem_cons_zero]
        refine wpAnyH_ready (rs := [8]) (by kernel_rfl) (by simp) (AllReadyH.cons rfl (fun K hK => ?_) AllReadyH.nil)
        go_simp
        refine hK.out _ _ hS11 (fun _ => ?_)
        clear hK K
        try simp only [Act.put, List.setIfInBounds_toArray, List.set_cons_zero, List.set_cons_succ, List.getElem_toArray, List.getElem_cons_succ, List.getElem_cons_zero]
        refine wpAnyH_take (i := 9) (v := ?_) rfl (by kernel_rfl) (by kernel_rfl) (by kernel_rfl) (fun _ _ _ h => h) (Or.inl ⟨by rfl, ?_⟩) hS11 ?_
        rotate_left
        · (intro W hSW; go_simp <;> with_reducible rfl)
        simp only [Act.put, List.setIfInBounds_toArray, List.set_cons_zero, List.set_cons_succ, List.getElem_toArray, List.getElem_cons_succ, List.getElem_cons_zero]
        refine wpAnyH_take (i := 10) (v := ?_) rfl (by kernel_rfl) (by kernel_rfl) (by kernel_rfl) (fun _ _ _ h => h) (Or.inl ⟨by rfl, ?_⟩) hS11 ?_
        rotate_left
        · (intro W hSW; go_simp <;> with_reducible rfl)
        simp only [Act.put, List.setIfInBounds_toArray, List.set_cons_zero, List.set_cons_succ, List.getElem_toArray, List.getElem_cons_succ, List.getElem_cons_zero]
        refine wpAnyH_take (i := 11) (v := ?_) rfl (by kernel_rfl) (by kernel_rfl) (by kernel_rfl) (fun _ _ _ h => h) (Or.inl ⟨by rfl, ?_⟩) hS11 ?_
        rotate_left
        · (intro W hSW; go_simp <;> with_reducible rfl)
        simp only [Act.put, List.setIfInBounds_toArray, List.set_cons_zero, List.set_cons_succ, List.getElem_toArray, List.getElem_cons_succ, List.getElem_cons_zero]
        refine wpAnyH_take (i := 12) (v := ?_) rfl (by kernel_rfl) (by kernel_rfl) (by kernel_rfl) (fun _ _ _ h => h) (Or.inl ⟨by rfl, ?_⟩) hS11 ?_
        rotate_left
        · (intro W hSW; go_simp <;> with_reducible rfl)
        simp only [Act.put, List.setIfInBounds_toArray, List.set_cons_zero, List.set_cons_succ, List.getElem_toArray, List.getElem_cons_succ, List.getElem_cons_zero]
        refine wpAnyH_take (i := 13) (v := ?_) rfl (by kernel_rfl) (by kernel_rfl) (by kernel_rfl) (fun _ _ _ h => h) (Or.inl ⟨by rfl, ?_⟩) hS11 ?_
        rotate_left
        · (intro W hSW; go_simp <;> with_reducible rfl)
        simp only [Act.put, List.setIfInBounds_toArray, List.set_cons_zero, List.set_cons_succ, List.getElem_toArray, List.getElem_cons_succ, List.getElem_cons_zero]
        refine wpAnyH_take (i := 14) (v := ?_) rfl (by kernel_rfl) (by kernel_rfl) (by kernel_rfl) (fun _ _ _ h => h) (Or.inl ⟨by rfl, ?_⟩) hS11 ?_
        rotate_left
        · (intro W hSW; go_simp <;> with_reducible rfl)
        simp only [Act.put, List.setIfInBounds_toArray, List.set_cons_zero, List.set_cons_succ, List.getElem_toArray, List.getElem_cons_succ, List.getElem_cons_zero]
        refine wpAnyH_take (i := 15) (v := ?_) rfl (by kernel_rfl) (by kernel_rfl) (by kernel_rfl) (fun _ _ _ h => h) (Or.inl ⟨by rfl, ?_⟩) hS11 ?_
        rotate_left
        · (intro W hSW; go_simp <;> with_reducible rfl)
        simp only [Act.put, List.setIfInBounds_toArray, List.set_cons_zero, List.set_cons_succ, List.getElem_toArray, List.getElem_cons_succ, List.getElem_cons_zero]
        refine wpAnyH_take (i := 16) (v := ?_) rfl (by kernel_rfl) (by kernel_rfl) (by kernel_rfl) (fun _ _ _ h => h) (Or.inl ⟨by rfl, ?_⟩) hS11 ?_
        rotate_left
        · (intro W hSW; go_simp <;> with_reducible rfl)
        simp only [Act.put, List.setIfInBounds_toArray, List.set_cons_zero, List.set_cons_succ, List.getElem_toArray, List.getElem_cons_succ, List.getElem_cons_zero]
        refine wpAnyH_take (i := 18) (v := ?_) rfl (by kernel_rfl) (by kernel_rfl) (by kernel_rfl) (fun _ _ _ h => h) (Or.inl ⟨by rfl, ?_⟩) hS11 ?_
        rotate_left
        · (intro W hSW; go_simp <;> with_reducible rfl)
        simp only [Act.put, List.setIfInBounds_toArray, List.set_cons_zero, List.set_cons_succ, List.getElem_toArray, List.getElem_cons_succ, List.getElem_cons_zero]
        refine wpAnyH_ready (rs := [17]) (by kernel_rfl) (by simp) (AllReadyH.cons rfl (fun K hK => ?_) AllReadyH.nil)
        go_simp
        refine (rd_uint _ _ _ (0, 0) _ (hr10.touch0 ht11')).mono ?_
        rintro r w12 ⟨rfl, hr12, ht12⟩
        rw [E10.out] at hr12 ⊢
        simp only at hr12 ⊢
        have ht12' : Touch [p10] w10 w12 := (ht11'.mono (by simp)).trans ht12
        have hS12 := HK.out _ ht12'
        go_wp2_with fail
        refine hK.out _ _ hS12 (fun _ => ?_)
        clear hK K
        try simp only [Act.put, List.setIfInBounds_toArray, List.set_cons_zero, List.set_cons_succ, List.getElem_toArray, List.getElem_cons_succ, List.getElem_cons_zero]
        refine wpAnyH_take (i := 19) (v := ?_) rfl (by kernel_rfl) (by kernel_rfl) (by kernel_rfl) (fun _ _ _ h => h) (Or.inl ⟨by rfl, ?_⟩) hS12 ?_
        rotate_left
        · (intro W hSW; go_simp <;> with_reducible rfl)
        simp only [Act.put, List.setIfInBounds_toArray, List.set_cons_zero, List.set_cons_succ, List.getElem_toArray, List.getElem_cons_succ, List.getElem_cons_zero]
        refine wpAnyH_take (i := 20) (v := ?_) rfl (by kernel_rfl) (by kernel_rfl) (by kernel_rfl) (fun _ _ _ h => h) (Or.inl ⟨by rfl, ?_⟩) hS12 ?_
        rotate_left
        · (intro W hSW; go_simp <;> with_reducible rfl)
        simp only [Act.put, List.setIfInBounds_toArray, List.set_cons_zero, List.set_cons_succ, List.getElem_toArray, List.getElem_cons_succ, List.getElem_cons_zero]
        refine wpAnyH_take (i := 21) (v := ?_) rfl (by kernel_rfl) (by kernel_rfl) (by kernel_rfl) (fun _ _ _ h => h) (Or.inl ⟨by rfl, ?_⟩) hS12 ?_
        rotate_left
        · (intro W hSW; go_simp <;> with_reducible rfl)
        simp only [Act.put, List.setIfInBounds_toArray, List.set_cons_zero, List.set_cons_succ, List.getElem_toArray, List.getElem_cons_succ, List.getElem_cons_zero]
        refine wpAnyH_take (i := 22) (v := ?_) rfl (by kernel_rfl) (by kernel_rfl) (by kernel_rfl) (fun _ _ _ h => h) (Or.inl ⟨by rfl, ?_⟩) hS12 ?_
        rotate_left
        · (intro W hSW; go_simp <;> with_reducible rfl)
        simp only [Act.put, List.setIfInBounds_toArray, List.set_cons_zero, List.set_cons_succ, List.getElem_toArray, List.getElem_cons_succ, List.getElem_cons_zero]
        refine wpAnyH_ready (rs := [23]) (by kernel_rfl) (by simp) (AllReadyH.cons rfl (fun K hK => ?_) AllReadyH.nil)
        go_simp
        refine (rd_end _ _ _ _ _ _ hr12).mono ?_
        rintro r w13 ⟨rfl, k13, rfl⟩
        rw [EE.out]
        have hS13 := HK.out _ (ht12'.drewN k13)
        go_wp2_with fail
        refine hK.out _ _ hS13 (fun _ => ?_)
        clear hK K
        try simp only [Act.put, List.setIfInBounds_toArray, List.set_cons_zero, List.set_cons_succ, List.getElem_toArray, List.getElem_cons_succ, List.getElem_cons_zero]
        refine wpAnyH_take (i := 24) (v := ?_) rfl (by kernel_rfl) (by kernel_rfl) (by kernel_rfl) (fun _ _ _ h => h) (Or.inl ⟨by rfl, ?_⟩) hS13 ?_
        rotate_left
        · (intro W hSW; go_simp <;> with_reducible rfl)
        simp only [Act.put, List.setIfInBounds_toArray, List.set_cons_zero, List.set_cons_succ, List.getElem_toArray, List.getElem_cons_succ, List.getElem_cons_zero]
        refine wpAnyH_take (i := 25) (v := ?_) rfl (by kernel_rfl) (by kernel_rfl) (by kernel_rfl) (fun _ _ _ h => h) (Or.inl ⟨by rfl, ?_⟩) hS13 ?_
        rotate_left
        · (intro W hSW; go_simp <;> with_reducible rfl)
        simp only [Act.put, List.setIfInBounds_toArray, List.set_cons_zero, List.set_cons_succ, List.getElem_toArray, List.getElem_cons_succ, List.getElem_cons_zero]
        refine wpAnyH_take (i := 26) (v := ?_) rfl (by kernel_rfl) (by kernel_rfl) (by kernel_rfl) (fun _ _ _ h => h) (Or.inl ⟨by rfl, ?_⟩) hS13 ?_
        rotate_left
        · (intro W hSW; go_simp <;> with_reducible rfl)
        simp only [Act.put, List.setIfInBounds_toArray, List.set_cons_zero, List.set_cons_succ, List.getElem_toArray, List.getElem_cons_succ, List.getElem_cons_zero]
        refine wpAnyH_ready (rs := [27]) (by kernel_rfl) (by simp) (AllReadyH.cons rfl (fun K hK => ?_) AllReadyH.nil)
        go_simp
        refine (known_any _).mono ?_
        rintro r w14 ⟨rfl, ht14⟩
        have hS14 := HK.out _ ((ht12'.drewN k13).then0 ht14)
        go_wp2_with fail
        refine hK.out _ _ hS14 (fun _ => ?_)
        clear hK K
        try simp only [Act.put, List.setIfInBounds_toArray, List.set_cons_zero, List.set_cons_succ, List.getElem_toArray, List.getElem_cons_succ, List.getElem_cons_zero]
        refine wpAnyH_take (i := 28) (v := ?_) rfl (by kernel_rfl) (by kernel_rfl) (by kernel_rfl) (fun _ _ _ h => h) (Or.inl ⟨by rfl, ?_⟩) hS14 ?_
        rotate_left
        · (intro W hSW; go_simp <;> with_reducible rfl)
        simp only [Act.put, List.setIfInBounds_toArray, List.set_cons_zero, List.set_cons_succ, List.getElem_toArray, List.getElem_cons_succ, List.getElem_cons_zero]
        refine wpAnyH_take (i := 29) (v := ?_) rfl (by kernel_rfl) (by kernel_rfl) (by kernel_rfl) (fun _ _ _ h => h) (Or.inl ⟨by rfl, ?_⟩) hS14 ?_
        rotate_left
        · (intro W hSW; go_simp <;> with_reducible rfl)
        simp only [Act.put, List.setIfInBounds_toArray, List.set_cons_zero, List.set_cons_succ, List.getElem_toArray, List.getElem_cons_succ, List.getElem_cons_zero]
        refine wpAnyH_done (by kernel_rfl) ?_ _
        all_goals (go_wp2_with fail; go_meet; exact ⟨rfl, (((htt10.then0 ht11').step ht12 (by simp; omega)).drewN k13).then0 ht14⟩)
      case rest =>
        obtain ⟨rfl, htt15⟩ := hcut
        go_wp2_with fail
        go_ret
        exact ⟨rfl, htt15⟩
end Go.Proofs.Ytpbknnkobhjjcaa
