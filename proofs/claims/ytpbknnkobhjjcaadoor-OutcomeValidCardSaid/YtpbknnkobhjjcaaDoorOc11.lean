/- Offers, by the program and by the reference. -/
import Derived.Test.YtpbknnkobhjjcaaDoorOc10
namespace Go.Proofs.YtpbknnkobhjjcaaDoor
open Go.RowKit
set_option linter.unusedSimpArgs false

/-- The variable worths. -/
structure Worths (w : World) : Prop where
  lt : 0 < w.heap.size
  c0 : w.cell? ⟨0, 0, none⟩ = some (.int .i64 0)
  c1 : w.cell? ⟨0, 1, none⟩ = some (.int .i64 250)
  c2 : w.cell? ⟨0, 2, none⟩ = some (.int .i64 600)
  c3 : w.cell? ⟨0, 3, none⟩ = some (.int .i64 1000)
theorem Worths.touch {w w' : World} (h : Worths w) (ht : Touch [] w w') : Worths w' :=
  ⟨Nat.lt_of_lt_of_le h.lt ht.size, (ht.cell (p := ⟨0, 0, none⟩) h.lt (by simp)).trans h.c0, (ht.cell (p := ⟨0, 1, none⟩) h.lt (by simp)).trans h.c1, (ht.cell (p := ⟨0, 2, none⟩) h.lt (by simp)).trans h.c2, (ht.cell (p := ⟨0, 3, none⟩) h.lt (by simp)).trans h.c3⟩
def worth (b : Int) : Int := if b = 1 then 250 else if b = 2 then 600 else if b = 3 then 1000 else 0
theorem Worths.at_ {w : World} (h : Worths w) (n : Nat) (hn : n ≤ 3) : w.cell? ⟨0, n, none⟩ = some (.int .i64 (worth n)) := by
  match n, hn with
  | 0, _ => exact h.c0
  | 1, _ => exact h.c1
  | 2, _ => exact h.c2
  | 3, _ => exact h.c3
def redBad (home opt : Int) : Prop := home < 1 ∨ 3 < home ∨ opt < 0 ∨ home < opt
instance (home opt : Int) : Decidable (redBad home opt) := by unfold redBad; infer_instance
def redOf (home opt : Int) : Int × Int := if redBad home opt then (0, 2) else (worth home - worth opt, 0)
theorem worth_mono {a b : Int} (h0 : 0 ≤ a) (h : a ≤ b) (h3 : b ≤ 3) : 0 ≤ worth a ∧ worth a ≤ worth b ∧ worth b ≤ 1000 := by
  have : (a = 0 ∨ a = 1 ∨ a = 2 ∨ a = 3) ∧ (b = 0 ∨ b = 1 ∨ b = 2 ∨ b = 3) := by omega
  rcases this with ⟨rfl | rfl | rfl | rfl, rfl | rfl | rfl | rfl⟩ <;> simp [worth] at h ⊢
theorem red_range (home opt : Int) : 0 ≤ (redOf home opt).1 ∧ (redOf home opt).1 ≤ 1000 := by
  unfold redOf
  split
  · simp
  · rename_i h
    unfold redBad at h
    have := worth_mono (a := opt) (b := home) (by omega) (by omega) (by omega)
    simp only
    omega
def offBad (vol base : Int) : Prop := vol < 1 ∨ 1000000 < vol ∨ base < 0 ∨ 1000000000 < base
instance (vol base : Int) : Decidable (offBad vol base) := by unfold offBad; infer_instance
def offer (vol base home opt : Int) : Int × Int := if offBad vol base then (0, 2) else if redBad home opt then (0, 2) else (vol * base * (worth home - worth opt) / 1000000000, 0)
def PairPost (x : Int × Int) (w : World) (r : Ending) (w' : World) : Prop := r = .returned (.tuple #[.int .i64 x.1, .int .i64 x.2]) ∧ Touch [] w w'
theorem PairPost.mk_ {x : Int × Int} {a b : Int} {w w' : World} (h : x = (a, b)) (ht : Touch [] w w') : PairPost x w (.returned (.tuple #[.int .i64 a, .int .i64 b])) w' := by subst h; exact ⟨rfl, ht⟩
set_option maxRecDepth 100000 in
set_option maxHeartbeats 8000000 in
theorem isHome_any (n : Int) (w : World) : Calls Tryd.prog 53 #[.int .i64 n] w fun r w' => r = .returned (.bool (decide (1 ≤ n ∧ n ≤ 3))) ∧ w = w' := by
  by_cases h1 : 1 ≤ n
  · by_cases h2 : n ≤ 3
    · rw [decide_eq_true ⟨h1, h2⟩]
      go_enter Tryd.func53, Tryd.ntmps53
      go_wp2_with fail
      go_ret
      exact ⟨rfl, rfl⟩
    · rw [decide_eq_false (fun h => h2 h.2)]
      go_enter Tryd.func53, Tryd.ntmps53
      go_wp2_with fail
      go_ret
      exact ⟨rfl, rfl⟩
  · rw [decide_eq_false (fun h => h1 h.1)]
    go_enter Tryd.func53, Tryd.ntmps53
    go_wp2_with fail
    go_ret
    exact ⟨rfl, rfl⟩
set_option maxRecDepth 100000 in
set_option maxHeartbeats 8000000 in
theorem reduction_any (home opt : Int) (w : World) (hw : Worths w) : Calls Tryd.prog 49 #[.int .i64 home, .int .i64 opt] w (PairPost (redOf home opt) w) := by
  have HH := Lib.hid (isHome_any home w)
  have HB : Hid (redBad home opt → redOf home opt = (0, 2)) := Lib.hid (fun h => by unfold redOf; rw [if_pos h])
  have HG : Hid (¬ redBad home opt → redOf home opt = (worth home - worth opt, 0)) := Lib.hid (fun h => by unfold redOf; rw [if_neg h])
  generalize redOf home opt = x at *
  by_cases h1 : 1 ≤ home ∧ home ≤ 3
  case neg =>
    rw [decide_eq_false h1] at HH
    have HX := Lib.hid (HB.out (by unfold redBad; omega))
    clear h1 HB HG
    go_enter Tryd.func49, Tryd.ntmps49
    go_wp2_with fail
    refine HH.out.mono ?_
    rintro r w1 ⟨rfl, rfl⟩
    go_wp2_with fail
    go_ret2
    exact PairPost.mk_ HX.out (Touch.refl _ _)
  rw [decide_eq_true h1] at HH
  obtain ⟨h1a, h1b⟩ := h1
  by_cases h2 : opt < 0
  · have HX := Lib.hid (HB.out (by unfold redBad; omega))
    clear HB HG
    go_enter Tryd.func49, Tryd.ntmps49
    go_wp2_with fail
    refine HH.out.mono ?_
    rintro r w1 ⟨rfl, rfl⟩
    go_wp2_with fail
    go_ret2
    exact PairPost.mk_ HX.out (Touch.refl _ _)
  by_cases h3 : home < opt
  · have HX := Lib.hid (HB.out (by unfold redBad; omega))
    clear HB HG
    go_enter Tryd.func49, Tryd.ntmps49
    go_wp2_with fail
    refine HH.out.mono ?_
    rintro r w1 ⟨rfl, rfl⟩
    go_wp2_with fail
    go_ret2
    exact PairPost.mk_ HX.out (Touch.refl _ _)
  have HX := Lib.hid (HG.out (by unfold redBad; omega))
  have hmn := worth_mono (a := opt) (b := home) (by omega) (by omega) (by omega)
  obtain ⟨nh, rfl⟩ : ∃ nh : Nat, home = (nh : Int) := ⟨home.toNat, by omega⟩
  obtain ⟨no, rfl⟩ : ∃ no : Nat, opt = (no : Int) := ⟨opt.toNat, by omega⟩
  have k1 := hw.at_ nh (by omega)
  have k2 := hw.at_ no (by omega)
  generalize worth (nh : Int) = wh at *
  generalize worth (no : Int) = wo at *
  have e1 : IntKind.i64.wrap (wh - wo) = wh - wo := IntWalk.i64_in _ (by omega)
  have b1 : (nh : Int) < 4 := by omega
  have b2 : (no : Int) < 4 := by omega
  have b3 : nh < 4 := by omega
  have b4 : no < 4 := by omega
  clear HB HG hw
  go_enter Tryd.func49, Tryd.ntmps49
  go_wp2_with fail
  refine HH.out.mono ?_
  rintro r w1 ⟨rfl, rfl⟩
  go_wp2_with fail
  go_quiet (fail)
  go_wp2_with fail
  go_ret2
  exact PairPost.mk_ HX.out ((Touch.refl _ _).drewN _)
set_option maxRecDepth 100000 in
set_option maxHeartbeats 8000000 in
theorem prices_cl (vol base home opt : Int) (p q h : Nat) (w : World) (hw : Worths w) (kp : w.cell? ⟨p, 0, none⟩ = some (.int .i64 vol)) (kq : w.cell? ⟨q, 0, none⟩ = some (.int .i64 base)) (kh : w.cell? ⟨h, 0, none⟩ = some (.int .i64 home)) (lp : p < w.heap.size) (lq : q < w.heap.size) : Calls Tryd.prog 48 #[.int .i64 opt, .pointer (some ⟨p, 0, none⟩), .pointer (some ⟨q, 0, none⟩), .pointer (some ⟨h, 0, none⟩)] w (PairPost (offer vol base home opt) w) := by
  have HR := Lib.hid (reduction_any home opt w hw)
  have hrr := red_range home opt
  have HB : Hid (offBad vol base → offer vol base home opt = (0, 2)) := Lib.hid (fun h => by unfold offer; rw [if_pos h])
  have HG : Hid (¬ offBad vol base → offer vol base home opt = (vol * base * (redOf home opt).1 / 1000000000, (redOf home opt).2)) := Lib.hid (fun h => by
    unfold offer redOf
    rw [if_neg h]
    split <;> simp)
  generalize offer vol base home opt = x at *
  generalize redOf home opt = rd at *
  obtain ⟨rs, re⟩ := rd
  simp only at hrr HG
  by_cases hbad : offBad vol base
  · have HX := Lib.hid (HB.out hbad)
    unfold offBad at hbad
    clear HB HG HR hrr
    go_enter Tryd.func48, Tryd.ntmps48
    go_wp2_with fail
    all_goals first
      | (go_ret2; exact PairPost.mk_ HX.out (Touch.refl _ _))
      | (exfalso; omega)
  · have HX := Lib.hid (HG.out hbad)
    unfold offBad at hbad
    have g1 : 1 ≤ vol := by omega
    have g2 : vol ≤ 1000000 := by omega
    have g3 : 0 ≤ base := by omega
    have g4 : base ≤ 1000000000 := by omega
    obtain ⟨r1, r2⟩ := hrr
    have m1 : 0 ≤ vol * base := Int.mul_nonneg (by omega) g3
    have m2 : vol * base ≤ 1000000 * 1000000000 := Int.mul_le_mul g2 g4 g3 (by omega)
    have m3 : 0 ≤ vol * base * rs := Int.mul_nonneg m1 r1
    have m4 : vol * base * rs ≤ 1000000 * 1000000000 * 1000 := Int.mul_le_mul m2 r2 r1 (by omega)
    clear HB HG hbad
    go_enter Tryd.func48, Tryd.ntmps48
    go_wp2_with fail
    refine HR.out.mono ?_
    rintro r w1 ⟨rfl, ht1⟩
    have kp1 := (ht1.cell (p := ⟨p, 0, none⟩) lp (by simp)).trans kp
    have kq1 := (ht1.cell (p := ⟨q, 0, none⟩) lq (by simp)).trans kq
    clear HR
    simp only
    go_wp2_with fail
    go_ret2
    exact PairPost.mk_ HX.out ht1
set_option maxRecDepth 100000 in
set_option maxHeartbeats 8000000 in
theorem prices_any (vol base home : Int) (w : World) : Calls Tryd.prog 42 #[.int .i64 vol, .int .i64 base, .int .i64 home] w fun r w' => r = .returned (.func (.func 48) #[] #[.pointer (some ⟨w.heap.size, 0, none⟩), .pointer (some ⟨w.heap.size + 1, 0, none⟩), .pointer (some ⟨w.heap.size + 1 + 1, 0, none⟩)]) ∧ (((w.alloc (.cells #[.int .i64 vol] 3)).alloc (.cells #[.int .i64 base] 3)).alloc (.cells #[.int .i64 home] 3)) = w' := by
  go_enter Tryd.func42, Tryd.ntmps42
  go_wp2_with fail
  go_ret
  exact ⟨rfl, rfl⟩
set_option maxRecDepth 100000 in
set_option maxHeartbeats 8000000 in
theorem offer_any (vol base home opt : Int) (w : World) (hw : Worths w) : Calls Tryd.prog 26 #[.int .i64 vol, .int .i64 base, .int .i64 home, .int .i64 opt] w (PairPost (offer vol base home opt) w) := by
  have ht : Touch [] w (((w.alloc (.cells #[.int .i64 vol] 3)).alloc (.cells #[.int .i64 base] 3)).alloc (.cells #[.int .i64 home] 3)) := (((Touch.refl _ _).alloc _).alloc _).alloc _
  have HC := Lib.hid (prices_cl vol base home opt w.heap.size (w.heap.size + 1) (w.heap.size + 1 + 1) (((w.alloc (.cells #[.int .i64 vol] 3)).alloc (.cells #[.int .i64 base] 3)).alloc (.cells #[.int .i64 home] 3)) (hw.touch ht) (by go_simp) (by go_simp) (by go_simp) (by simp; omega) (by simp))
  have HT := Lib.hid ht
  have HP := Lib.hid (fun (a b : Int) (w' : World) (h : offer vol base home opt = (a, b)) (ht : Touch [] w w') => PairPost.mk_ h ht)
  generalize hx : offer vol base home opt = x at *
  obtain ⟨x1, x2⟩ := x
  clear hx hw ht
  go_enter Tryd.func26, Tryd.ntmps26
  go_wp2_with fail
  refine (prices_any vol base home w).mono ?_
  rintro r w1 ⟨rfl, rfl⟩
  go_wp2_with fail
  refine HC.out.mono ?_
  rintro r w1 ⟨rfl, ht1⟩
  simp only
  go_wp2_with fail
  go_ret2
  exact HP.out _ _ _ rfl (HT.out.then0 ht1)
set_option maxRecDepth 100000 in
set_option maxHeartbeats 8000000 in
theorem refHome_any (n : Int) (w : World) : Calls Tryd.prog 50 #[.int .i64 n] w fun r w' => r = .returned (.bool (decide (1 ≤ n ∧ n ≤ 3))) ∧ w = w' := by
  by_cases h1 : 1 ≤ n
  · by_cases h2 : n ≤ 3
    · rw [decide_eq_true ⟨h1, h2⟩]
      go_enter Tryd.func50, Tryd.ntmps50
      go_wp2_with fail
      go_ret
      exact ⟨rfl, rfl⟩
    · rw [decide_eq_false (fun h => h2 h.2)]
      go_enter Tryd.func50, Tryd.ntmps50
      go_wp2_with fail
      go_ret
      exact ⟨rfl, rfl⟩
  · rw [decide_eq_false (fun h => h1 h.1)]
    go_enter Tryd.func50, Tryd.ntmps50
    go_wp2_with fail
    go_ret
    exact ⟨rfl, rfl⟩
set_option maxRecDepth 100000 in
set_option maxHeartbeats 8000000 in
theorem refWorth_any (n : Int) (w : World) : Calls Tryd.prog 51 #[.int .i64 n] w fun r w' => r = .returned (.int .i64 (worth n)) ∧ w = w' := by
  have HW := Lib.hid (show worth n = if n = 1 then 250 else if n = 2 then 600 else if n = 3 then 1000 else 0 from rfl)
  generalize worth n = x at *
  by_cases h1 : n = 1
  · have q1 : (n == 1) = true := by simpa using h1
    have HX : Hid (x = 250) := Lib.hid (by rw [HW.out, if_pos h1])
    clear h1
    go_enter Tryd.func51, Tryd.ntmps51
    go_wp2_with fail
    go_ret
    exact ⟨ret_i HX.out.symm, rfl⟩
  have q1 : (n == 1) = false := by simpa using h1
  by_cases h2 : n = 2
  · have q2 : (n == 2) = true := by simpa using h2
    have HX : Hid (x = 600) := Lib.hid (by rw [HW.out, if_neg h1, if_pos h2])
    clear h1 h2
    go_enter Tryd.func51, Tryd.ntmps51
    go_wp2_with fail
    go_ret
    exact ⟨ret_i HX.out.symm, rfl⟩
  have q2 : (n == 2) = false := by simpa using h2
  by_cases h3 : n = 3
  · have q3 : (n == 3) = true := by simpa using h3
    have HX : Hid (x = 1000) := Lib.hid (by rw [HW.out, if_neg h1, if_neg h2, if_pos h3])
    clear h1 h2 h3
    go_enter Tryd.func51, Tryd.ntmps51
    go_wp2_with fail
    go_ret
    exact ⟨ret_i HX.out.symm, rfl⟩
  have q3 : (n == 3) = false := by simpa using h3
  have HX : Hid (x = 0) := Lib.hid (by rw [HW.out, if_neg h1, if_neg h2, if_neg h3])
  clear h1 h2 h3
  go_enter Tryd.func51, Tryd.ntmps51
  go_wp2_with fail
  go_ret
  exact ⟨ret_i HX.out.symm, rfl⟩
def PairSame (x : Int × Int) (w : World) (r : Ending) (w' : World) : Prop := r = .returned (.tuple #[.int .i64 x.1, .int .i64 x.2]) ∧ w = w'
theorem PairSame.mk_ {x : Int × Int} {a b : Int} {w : World} (h : x = (a, b)) : PairSame x w (.returned (.tuple #[.int .i64 a, .int .i64 b])) w := by subst h; exact ⟨rfl, rfl⟩
set_option maxRecDepth 100000 in
set_option maxHeartbeats 8000000 in
theorem refReduction_any (home opt : Int) (w : World) : Calls Tryd.prog 44 #[.int .i64 home, .int .i64 opt] w (PairSame (redOf home opt) w) := by
  have HH := Lib.hid (refHome_any home w)
  have HB : Hid (redBad home opt → redOf home opt = (0, 2)) := Lib.hid (fun h => by unfold redOf; rw [if_pos h])
  have HG : Hid (¬ redBad home opt → redOf home opt = (worth home - worth opt, 0)) := Lib.hid (fun h => by unfold redOf; rw [if_neg h])
  generalize redOf home opt = x at *
  by_cases h1 : 1 ≤ home ∧ home ≤ 3
  case neg =>
    rw [decide_eq_false h1] at HH
    have HX := Lib.hid (HB.out (by unfold redBad; omega))
    clear h1 HB HG
    go_enter Tryd.func44, Tryd.ntmps44
    go_wp2_with fail
    refine HH.out.mono ?_
    rintro r w1 ⟨rfl, rfl⟩
    go_wp2_with fail
    go_ret2
    exact PairSame.mk_ HX.out
  rw [decide_eq_true h1] at HH
  obtain ⟨h1a, h1b⟩ := h1
  by_cases h2 : opt < 0
  · have HX := Lib.hid (HB.out (by unfold redBad; omega))
    clear HB HG
    go_enter Tryd.func44, Tryd.ntmps44
    go_wp2_with fail
    refine HH.out.mono ?_
    rintro r w1 ⟨rfl, rfl⟩
    go_wp2_with fail
    go_ret2
    exact PairSame.mk_ HX.out
  by_cases h3 : home < opt
  · have HX := Lib.hid (HB.out (by unfold redBad; omega))
    clear HB HG
    go_enter Tryd.func44, Tryd.ntmps44
    go_wp2_with fail
    refine HH.out.mono ?_
    rintro r w1 ⟨rfl, rfl⟩
    go_wp2_with fail
    go_ret2
    exact PairSame.mk_ HX.out
  have HX := Lib.hid (HG.out (by unfold redBad; omega))
  have hmn := worth_mono (a := opt) (b := home) (by omega) (by omega) (by omega)
  have H1 := Lib.hid (refWorth_any home w)
  have H2 := Lib.hid (refWorth_any opt w)
  generalize worth home = wh at *
  generalize worth opt = wo at *
  clear HB HG
  go_enter Tryd.func44, Tryd.ntmps44
  go_wp2_with fail
  refine HH.out.mono ?_
  rintro r w1 ⟨rfl, rfl⟩
  go_wp2_with fail
  refine H1.out.mono ?_
  rintro r w1 ⟨rfl, rfl⟩
  go_wp2_with fail
  refine H2.out.mono ?_
  rintro r w1 ⟨rfl, rfl⟩
  go_wp2_with fail
  go_ret2
  exact PairSame.mk_ HX.out
set_option maxRecDepth 100000 in
set_option maxHeartbeats 8000000 in
theorem refOffer_any (vol base home opt : Int) (w : World) : Calls Tryd.prog 28 #[.int .i64 vol, .int .i64 base, .int .i64 home, .int .i64 opt] w (PairSame (offer vol base home opt) w) := by
  have HR := Lib.hid (refReduction_any home opt w)
  have hrr := red_range home opt
  have HB : Hid (offBad vol base → offer vol base home opt = (0, 2)) := Lib.hid (fun h => by unfold offer; rw [if_pos h])
  have HG : Hid (¬ offBad vol base → offer vol base home opt = if (redOf home opt).2 ≠ 0 then (0, 2) else (vol * base * (redOf home opt).1 / 1000000000, 0)) := Lib.hid (fun h => by
    unfold offer redOf
    rw [if_neg h]
    split <;> simp)
  generalize offer vol base home opt = x at *
  generalize redOf home opt = rd at *
  obtain ⟨rs, re⟩ := rd
  simp only at hrr HG
  unfold PairSame at HR
  simp only at HR
  obtain ⟨r1, r2⟩ := hrr
  by_cases hre : re = 0
  case neg =>
    have q1 : (re != 0) = true := by simpa using hre
    have HX : Hid (x = (0, 2)) := Lib.hid (by
      by_cases hb : offBad vol base
      · exact HB.out hb
      · rw [HG.out hb, if_pos hre])
    clear HB HG hre
    go_enter Tryd.func28, Tryd.ntmps28
    go_wp2_with fail
    refine HR.out.mono ?_
    rintro r w1 ⟨rfl, rfl⟩
    go_wp2_with fail
    go_ret2
    exact PairSame.mk_ HX.out
  subst hre
  by_cases hbad : offBad vol base
  · have HX := Lib.hid (HB.out hbad)
    unfold offBad at hbad
    clear HB HG
    go_enter Tryd.func28, Tryd.ntmps28
    go_wp2_with fail
    refine HR.out.mono ?_
    rintro r w1 ⟨rfl, rfl⟩
    go_wp2_with fail
    all_goals first
      | (go_ret2; exact PairSame.mk_ HX.out)
      | (exfalso; omega)
  · have HX := Lib.hid (HG.out hbad)
    unfold offBad at hbad
    have g1 : 1 ≤ vol := by omega
    have g2 : vol ≤ 1000000 := by omega
    have g3 : 0 ≤ base := by omega
    have g4 : base ≤ 1000000000 := by omega
    have m1 : 0 ≤ vol * base := Int.mul_nonneg (by omega) g3
    have m2 : vol * base ≤ 1000000 * 1000000000 := Int.mul_le_mul g2 g4 g3 (by omega)
    have m3 : 0 ≤ vol * base * rs := Int.mul_nonneg m1 r1
    have m4 : vol * base * rs ≤ 1000000 * 1000000000 * 1000 := Int.mul_le_mul m2 r2 r1 (by omega)
    clear HB HG hbad
    go_enter Tryd.func28, Tryd.ntmps28
    go_wp2_with fail
    refine HR.out.mono ?_
    rintro r w1 ⟨rfl, rfl⟩
    go_wp2_with fail
    go_ret2
    exact PairSame.mk_ (by rw [HX.out]; simp)
end Go.Proofs.YtpbknnkobhjjcaaDoor
