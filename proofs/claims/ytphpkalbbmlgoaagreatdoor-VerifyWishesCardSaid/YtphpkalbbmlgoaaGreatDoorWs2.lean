/- Wishes: validWishes of package verify and Valid of the law. -/
import Derived.Test.YtphpkalbbmlgoaaGreatDoorWsA
import Derived.Deep.QuietTactic
namespace Go.Proofs.YtphpkalbbmlgoaaGreatDoor
open Go.RowKit
set_option linter.unusedSimpArgs false

theorem ret_b {a b : Bool} (h : a = b) : Ending.returned (.bool a) = .returned (.bool b) := by rw [h]

theorem adjW_num0 {xs : List Wx} (h : 0 < xs.length) : adjW xs 0 = decide (0 ≤ xs[0].ar ∧ xs[0].ar ≤ 63 ∧ 0 ≤ xs[0].st ∧ xs[0].st ≤ 11 ∧ 0 ≤ xs[0].vl ∧ xs[0].vl ≤ 1099511627776) := adjW_zero h

theorem adjW_num1 {xs : List Wx} {j : Nat} (h : j + 1 < xs.length) : adjW xs (j + 1) = decide ((0 ≤ xs[j + 1].ar ∧ xs[j + 1].ar ≤ 63 ∧ 0 ≤ xs[j + 1].st ∧ xs[j + 1].st ≤ 11 ∧ 0 ≤ xs[j + 1].vl ∧ xs[j + 1].vl ≤ 1099511627776) ∧ (xs[j].ar < xs[j + 1].ar ∨ (xs[j].ar = xs[j + 1].ar ∧ xs[j].st < xs[j + 1].st))) := by
  rw [adjW_succ h]
  unfold oneW ordW
  rw [Bool.eq_iff_iff, Bool.and_eq_true, decide_eq_true_iff, decide_eq_true_iff, decide_eq_true_iff]

set_option maxRecDepth 100000 in
set_option maxHeartbeats 8000000 in
theorem validwishes_any (v : Value) (xs : List Wx) (w : World) (hv : Wishes w v xs) : Calls Tryz.prog 24 #[v] w fun r w' => r = .returned (.bool (wishB xs)) ∧ Touch [] w w' := by
  rcases Nat.eq_zero_or_pos xs.length with h0 | hn
  · obtain ⟨A, cap, rfl, -⟩ := id hv.1
    have hx : xs = [] := List.eq_nil_of_length_eq_zero h0
    subst hx
    rw [show wishB [] = true from rfl]
    clear hv h0
    show Calls _ _ #[.slice A 0 cap] _ _
    go_enter Tryz.func24, Tryz.ntmps24
    go_wp2_with fail
    refine wp_loop_rounds 1 ?_
    rw [rounds_succ]
    go_wp2_with fail
    go_ret
    exact ⟨rfl, Touch.refl _ _⟩
  obtain ⟨b, off, cap, rfl, hb, hc1, hc2⟩ := hv.addr hn
  by_cases h5 : xs.length ≤ 500
  case neg =>
    have h5' : (500 : Int) < (xs.length : Int) := by omega
    have HF := Lib.hid (wish_long h5)
    go_enter Tryz.func24, Tryz.ntmps24
    go_wp2_with fail
    go_ret
    exact ⟨ret_b (by rw [HF.out]), Touch.refl _ _⟩
  have h5' : ¬ (500 : Int) < (xs.length : Int) := by omega
  have HR := Lib.hid (show ∃ r, r = wishB xs from ⟨_, rfl⟩)
  obtain ⟨res, hres⟩ := HR.out
  rw [← hres]
  have HRS := Lib.hid hres
  clear HR hres
  go_enter Tryz.func24, Tryz.ntmps24
  go_wp2_with fail
  go_loopw [11] (fun ti wr => WsRel w xs ti wr) (fun ti _ => xs.length - (intOf ti).toNat)
  case atStart => exact ⟨0, by omega, rfl, fun j hj => by omega, Touch.refl _ _⟩
  case round =>
    obtain ⟨k, hk, rfl, hall, ht⟩ := hrel
    by_cases hlt : k < xs.length
    case neg =>
      have hlt' : ¬ (k : Int) < (xs.length : Int) := by omega
      have HA := Lib.hid (wish_all.2 ⟨h5, fun j hj => hall j (by omega)⟩)
      clear hall
      go_wp2_with fail
      go_ret
      exact ⟨ret_b (by rw [HRS.out, HA.out]), ht⟩
    have hlt' : (k : Int) < (xs.length : Int) := by omega
    have hvr := hv.touch0 ht
    obtain ⟨c0, c1, c2⟩ := hvr.elem hlt rfl
    have hb' : b < wr.heap.size := by have := ht.size; omega
    have HNX := Lib.hid (fun (w' : World) hn (ht' : Touch [] w w') => WsRel.next hlt hall hn ht')
    have HNB := Lib.hid (fun hn => wish_bad hlt hn)
    cases k with
    | zero =>
      have HAD := Lib.hid (adjW_num0 hlt)
      generalize adjW xs 0 = ad at *
      generalize xs[0].ar = ar at *
      generalize xs[0].st = st at *
      generalize xs[0].vl = vl at *
      unfold I at c0 c1 c2
      simp only [Nat.zero_mul, Nat.add_zero] at c0 c1 c2
      clear hall hvr hv
      go_wp2_with fail
      all_goals first
        | exact ⟨HNX.out _ (by rw [HAD.out]; exact decide_eq_true (by omega)) (by first | exact ht | exact ht.alloc _ | exact (ht.alloc _).alloc _), by simp [intOf]; omega⟩
        | (go_ret; exact ⟨ret_b (by rw [HRS.out, HNB.out (by rw [HAD.out]; exact decide_eq_false (by omega))]), by first | exact ht | exact ht.alloc _ | exact (ht.alloc _).alloc _⟩)
    | succ j =>
      have hj : j < xs.length := by omega
      obtain ⟨p0, p1, p2⟩ := hvr.elem hj rfl
      have HAD := Lib.hid (adjW_num1 hlt)
      have e1 : ((j + 1 : Nat) : Int) - 1 = (j : Int) := by omega
      generalize adjW xs (j + 1) = ad at *
      generalize xs[j + 1].ar = ar at *
      generalize xs[j + 1].st = st at *
      generalize xs[j + 1].vl = vl at *
      generalize xs[j].ar = par at *
      generalize xs[j].st = pst at *
      generalize xs[j].vl = pvl at *
      unfold I at c0 c1 c2 p0 p1 p2
      clear hall hvr hv
      go_wp2_with fail
      all_goals first
        | exact ⟨HNX.out _ (by rw [HAD.out]; exact decide_eq_true (by omega)) (by first | exact ht | exact ht.alloc _ | exact (ht.alloc _).alloc _), by simp [intOf]; omega⟩
        | (go_ret; exact ⟨ret_b (by rw [HRS.out, HNB.out (by rw [HAD.out]; exact decide_eq_false (by omega))]), by first | exact ht | exact ht.alloc _ | exact (ht.alloc _).alloc _⟩)

set_option maxRecDepth 100000 in
set_option maxHeartbeats 8000000 in
theorem lawvalid_any (v : Value) (xs : List Wx) (w : World) (hv : Wishes w v xs) : Calls Tryz.prog 7 #[v] w fun r w' => r = .returned (.bool (wishB xs)) ∧ Touch [] w w' := by
  rcases Nat.eq_zero_or_pos xs.length with h0 | hn
  · obtain ⟨A, cap, rfl, -⟩ := id hv.1
    have hx : xs = [] := List.eq_nil_of_length_eq_zero h0
    subst hx
    rw [show wishB [] = true from rfl]
    clear hv h0
    show Calls _ _ #[.slice A 0 cap] _ _
    go_enter Tryz.func7, Tryz.ntmps7
    go_wp2_with fail
    refine wp_loop_rounds 1 ?_
    rw [rounds_succ]
    go_wp2_with fail
    go_ret
    exact ⟨rfl, Touch.refl _ _⟩
  obtain ⟨b, off, cap, rfl, hb, hc1, hc2⟩ := hv.addr hn
  have HR := Lib.hid (show ∃ r, r = wishB xs from ⟨_, rfl⟩)
  obtain ⟨res, hres⟩ := HR.out
  rw [← hres]
  have HRS := Lib.hid hres
  clear HR hres
  go_enter Tryz.func7, Tryz.ntmps7
  go_wp2_with fail
  go_loopw [3] (fun ti wr => WsRel w xs ti wr) (fun ti _ => xs.length - (intOf ti).toNat)
  case atStart => exact ⟨0, by omega, rfl, fun j hj => by omega, Touch.refl _ _⟩
  case round =>
    obtain ⟨k, hk, rfl, hall, ht⟩ := hrel
    by_cases hlt : k < xs.length
    case neg =>
      have hlt' : ¬ (k : Int) < (xs.length : Int) := by omega
      by_cases h5 : xs.length ≤ 500
      · have h5' : (xs.length : Int) ≤ 500 := by omega
        have d5 : decide ((xs.length : Int) ≤ 500) = true := decide_eq_true h5'
        have HA := Lib.hid (wish_all.2 ⟨h5, fun j hj => hall j (by omega)⟩)
        clear hall
        go_wp2_with fail
        go_ret
        exact ⟨ret_b (by rw [HRS.out, HA.out]), ht⟩
      · have h5' : ¬ (xs.length : Int) ≤ 500 := by omega
        have d5 : decide ((xs.length : Int) ≤ 500) = false := decide_eq_false h5'
        have HA := Lib.hid (wish_long h5)
        clear hall
        go_wp2_with fail
        go_ret
        exact ⟨ret_b (by rw [HRS.out, HA.out]), ht⟩
    have hlt' : (k : Int) < (xs.length : Int) := by omega
    have hvr := hv.touch0 ht
    obtain ⟨c0, c1, c2⟩ := hvr.elem hlt rfl
    have hb' : b < wr.heap.size := by have := ht.size; omega
    have HNX := Lib.hid (fun (w' : World) hn (ht' : Touch [] w w') => WsRel.next hlt hall hn ht')
    have HNB := Lib.hid (fun hn => wish_bad hlt hn)
    cases k with
    | zero =>
      have HAD := Lib.hid (adjW_num0 hlt)
      generalize adjW xs 0 = ad at *
      generalize xs[0].ar = ar at *
      generalize xs[0].st = st at *
      generalize xs[0].vl = vl at *
      unfold I at c0 c1 c2
      simp only [Nat.zero_mul, Nat.add_zero] at c0 c1 c2
      clear hall hvr hv
      go_wp2_with fail
      all_goals try (go_quiet (fail))
      all_goals try (go_wp2_with fail)
      all_goals first
        | exact ⟨HNX.out _ (by rw [HAD.out]; exact decide_eq_true (by omega)) (by first | exact ht | exact ht.alloc _ | exact (ht.alloc _).alloc _ | exact (ht.alloc _).drewN _), by simp [intOf]; omega⟩
        | (go_ret; exact ⟨ret_b (by rw [HRS.out, HNB.out (by rw [HAD.out]; exact decide_eq_false (by omega))]), by first | exact ht | exact ht.alloc _ | exact (ht.alloc _).alloc _ | exact (ht.alloc _).drewN _⟩)
    | succ j =>
      have hj : j < xs.length := by omega
      obtain ⟨p0, p1, p2⟩ := hvr.elem hj rfl
      have HAD := Lib.hid (adjW_num1 hlt)
      have e1 : ((j + 1 : Nat) : Int) - 1 = (j : Int) := by omega
      generalize adjW xs (j + 1) = ad at *
      generalize xs[j + 1].ar = ar at *
      generalize xs[j + 1].st = st at *
      generalize xs[j + 1].vl = vl at *
      generalize xs[j].ar = par at *
      generalize xs[j].st = pst at *
      generalize xs[j].vl = pvl at *
      unfold I at c0 c1 c2 p0 p1 p2
      clear hall hvr hv
      have hj0 : (0 : Int) < (j : Int) + 1 := by omega
      by_cases q1 : par < ar
      · have d1 : decide (par < ar) = true := decide_eq_true q1
        go_wp2_with fail
        all_goals try (go_quiet (fail))
        all_goals try (go_wp2_with fail)
        all_goals first
          | exact ⟨HNX.out _ (by rw [HAD.out]; exact decide_eq_true (by omega)) (by first | exact ht | exact ht.alloc _ | exact (ht.alloc _).alloc _ | exact (ht.alloc _).drewN _), by simp [intOf]; omega⟩
          | (go_ret; exact ⟨ret_b (by rw [HRS.out, HNB.out (by rw [HAD.out]; exact decide_eq_false (by omega))]), by first | exact ht | exact ht.alloc _ | exact (ht.alloc _).alloc _ | exact (ht.alloc _).drewN _⟩)
      · have d1 : decide (par < ar) = false := decide_eq_false q1
        by_cases q2 : par = ar
        · have d2 : (par == ar) = true := by simpa using q2
          by_cases q3 : pst < st
          · have d3 : decide (pst < st) = true := decide_eq_true q3
            go_wp2_with fail
            all_goals try (go_quiet (fail))
            all_goals try (go_wp2_with fail)
            all_goals first
              | exact ⟨HNX.out _ (by rw [HAD.out]; exact decide_eq_true (by omega)) (by first | exact ht | exact ht.alloc _ | exact (ht.alloc _).alloc _ | exact (ht.alloc _).drewN _), by simp [intOf]; omega⟩
              | (go_ret; exact ⟨ret_b (by rw [HRS.out, HNB.out (by rw [HAD.out]; exact decide_eq_false (by omega))]), by first | exact ht | exact ht.alloc _ | exact (ht.alloc _).alloc _ | exact (ht.alloc _).drewN _⟩)
          · have d3 : decide (pst < st) = false := decide_eq_false q3
            go_wp2_with fail
            all_goals try (go_quiet (fail))
            all_goals try (go_wp2_with fail)
            all_goals first
              | exact ⟨HNX.out _ (by rw [HAD.out]; exact decide_eq_true (by omega)) (by first | exact ht | exact ht.alloc _ | exact (ht.alloc _).alloc _ | exact (ht.alloc _).drewN _), by simp [intOf]; omega⟩
              | (go_ret; exact ⟨ret_b (by rw [HRS.out, HNB.out (by rw [HAD.out]; exact decide_eq_false (by omega))]), by first | exact ht | exact ht.alloc _ | exact (ht.alloc _).alloc _ | exact (ht.alloc _).drewN _⟩)
        · have d2 : (par == ar) = false := by simpa using q2
          go_wp2_with fail
          all_goals try (go_quiet (fail))
          all_goals try (go_wp2_with fail)
          all_goals first
            | exact ⟨HNX.out _ (by rw [HAD.out]; exact decide_eq_true (by omega)) (by first | exact ht | exact ht.alloc _ | exact (ht.alloc _).alloc _ | exact (ht.alloc _).drewN _), by simp [intOf]; omega⟩
            | (go_ret; exact ⟨ret_b (by rw [HRS.out, HNB.out (by rw [HAD.out]; exact decide_eq_false (by omega))]), by first | exact ht | exact ht.alloc _ | exact (ht.alloc _).alloc _ | exact (ht.alloc _).drewN _⟩)

end Go.Proofs.YtphpkalbbmlgoaaGreatDoor
