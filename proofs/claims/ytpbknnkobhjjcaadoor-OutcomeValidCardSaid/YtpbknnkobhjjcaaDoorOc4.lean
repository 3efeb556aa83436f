/- Lists of winners, stations, choices and entrants that are valid: the reference's tests. -/
import Derived.Test.YtpbknnkobhjjcaaDoorOc3
namespace Go.Proofs.YtpbknnkobhjjcaaDoor
open Go.RowKit
set_option linter.unusedSimpArgs false

/-- Only the order has been drawn. -/
def Drew (w w' : World) : Prop := ∃ n, w' = w.drewN n
theorem Drew.refl (w : World) : Drew w w := ⟨0, rfl⟩
theorem Drew.drewN {w w' : World} (h : Drew w w') (n : Nat) : Drew w (w'.drewN n) := by
  obtain ⟨m, rfl⟩ := h
  exact ⟨m + n, World.drewN_drewN _ _ _⟩
theorem Drew.touch {w w' : World} (h : Drew w w') : Touch [] w w' := by
  obtain ⟨m, rfl⟩ := h
  exact (Touch.refl _ _).drewN m
theorem Drew.size {w w' : World} (h : Drew w w') : w.heap.size ≤ w'.heap.size := h.touch.size
theorem Touch.touch {L : List Nat} {w w' : World} (h : Touch L w w') : Touch L w w' := h
def PrevRel {α : Type} (D : World → World → Prop) (bad : α → Prop) [DecidablePred bad] (key : α → Int) (w : World) (l : List α) (res : Bool) (ti : Value) (wr : World) : Prop :=
  ∃ (k : Nat) (last : Int), k ≤ l.length ∧ ti = .int .i64 k ∧ (k = 0 → last = -1) ∧ (∀ j x, l[j]? = some x → j + 1 = k → last = key x) ∧ (0 < k → 0 ≤ last) ∧ D w wr ∧ res = okList bad key last (l.drop k)
set_option maxRecDepth 100000 in
set_option maxHeartbeats 4000000 in
theorem refStations_any (v : Value) (l : List Int) (w : World) (hv : Nums w v l) (hl : l.length ≤ 100000) : Calls Tryd.prog 34 #[v] w fun r w' => r = .returned (.bool (sOk l)) ∧ ∃ m, w' = w.drewN m := by
  obtain ⟨A, cap, rfl⟩ := hv.form
  obtain ⟨hc1, hc2⟩ := hv.cap
  have hst : PrevRel Drew sBad id w l (sOk l) (.int .i64 0) w := ⟨0, -1, by omega, rfl, fun _ => rfl, fun j x _ h => by omega, fun h => by omega, Drew.refl _, rfl⟩
  generalize sOk l = res at *
  go_enter Tryd.func34, Tryd.ntmps34
  go_wp2_with fail
  go_loopw [3] (fun ti wr => PrevRel Drew sBad id w l res ti wr) (fun ti _ => l.length - (intOf ti).toNat)
  case atStart => exact hst
  case round =>
    clear hst
    obtain ⟨k, last, hk, rfl, h0, h1, h2, ht, hres⟩ := hrel
    have HRES := Lib.hid hres
    clear hres
    by_cases hlt : k < l.length
    case neg =>
      have hlt' : ¬ (k : Int) < (l.length : Int) := by omega
      clear h0 h1 h2
      go_wp2_with fail
      go_ret
      exact ⟨ret_b (by rw [HRES.out, ok_end hlt]), ht⟩
    have hlt' : (k : Int) < (l.length : Int) := by omega
    obtain ⟨b, off, rfl, hb⟩ := hv.addr hlt
    obtain c0 := Nums.at_ (hv.touch0 ht.touch) hlt
    have hb' : b < wr.heap.size := by have := ht.size; omega
    have HP : Hid (∀ m, k = m + 1 → wr.cell? ⟨b, off + m, none⟩ = some (.int .i64 last)) := Lib.hid (fun m hm => by
      have := (Nums.at_ (hv.touch0 ht.touch) (k := m) (by omega))
      first | (rw [this, h1 m l[m] (by simp) hm.symm]; done) | (rw [this, h1 m l[m] (by simp) hm.symm]; rfl))
    have H0 := Lib.hid h0
    have H2 := Lib.hid h2
    have HX1 : Hid (∀ j x, l[j]? = some x → j + 1 = k + 1 → l[k] = id x) := Lib.hid (fun j x hj hjk => by
      have : j = k := by omega
      subst this
      rw [List.getElem?_eq_getElem hlt] at hj
      cases hj
      rfl)
    have hl0 : -1 ≤ last := by
      rcases Nat.eq_zero_or_pos k with h | h
      · have := h0 h; omega
      · have := h2 h; omega
    clear h0 h1 h2
    generalize hxk : l[k] = xa at *
    have HXK := Lib.hid hxk
    clear hxk hv
    try simp only at c0
    try simp only at c1
    try simp only at c2
    try simp only at HX1
    go_wp2_with fail
    by_cases b0 : xa < 0
    · have d0 : decide (xa < 0) = true := decide_eq_true b0
      go_quiet (fail)
      go_wp2_with fail
      go_ret
      exact ⟨ret_b (s_bad HRES.out hlt HXK.out (by omega)).symm, ht.drewN _⟩
    have d0 : decide (xa < 0) = false := decide_eq_false b0
    by_cases b1 : 511 < xa
    · have d1 : decide (511 < xa) = true := decide_eq_true b1
      go_quiet (fail)
      go_wp2_with fail
      go_ret
      exact ⟨ret_b (s_bad HRES.out hlt HXK.out (by omega)).symm, ht.drewN _⟩
    have d1 : decide (511 < xa) = false := decide_eq_false b1
    rcases Nat.eq_zero_or_pos k with hk0 | hk0
    · have hz := H0.out hk0
      have dk : decide ((0 : Int) < (k : Int)) = false := decide_eq_false (by omega)
      have dk2 : decide (0 < k) = false := decide_eq_false (by omega)
      have HK0 := Lib.hid hk0
      clear hk0
      go_quiet (fail)
      go_wp2_with fail
      go_roundw
      case rel => exact ⟨k + 1, xa, by omega, by go_num, fun h => by omega, HX1.out, fun _ => by omega, ht.drewN _, s_next HRES.out hlt HXK.out (by omega)⟩
      case measure => simp [intOf]; omega
    · obtain ⟨m, hm⟩ : ∃ m, k = m + 1 := ⟨k - 1, by omega⟩
      have cp := HP.out m hm
      have dk : decide ((0 : Int) < (k : Int)) = true := decide_eq_true (by omega)
      have dk2 : decide (0 < k) = true := decide_eq_true (by omega)
      have hz := H2.out hk0
      have hml : (m : Int) < (l.length : Int) := by omega
      have hml2 : m < l.length := by omega
      have e1 : ((k : Int) - 1) = (m : Int) := by omega
      have e2 : IntKind.i64.wrap ((k : Int) - 1) = (m : Int) := by rw [e1]; exact IntWalk.i64_in _ (by omega)
      have HM := Lib.hid hm
      clear hm
      by_cases bp : xa ≤ last
      · have dp : decide (xa ≤ last) = true := decide_eq_true bp
        go_quiet (fail)
        go_wp2_with fail
        go_ret
        exact ⟨ret_b (s_bad HRES.out hlt HXK.out (by omega)).symm, ht.drewN _⟩
      · have dp : decide (xa ≤ last) = false := decide_eq_false bp
        go_quiet (fail)
        go_wp2_with fail
        go_roundw
        case rel => exact ⟨k + 1, xa, by omega, by go_num, fun h => by omega, HX1.out, fun _ => by omega, ht.drewN _, s_next HRES.out hlt HXK.out (by omega)⟩
        case measure => simp [intOf]; omega
set_option maxRecDepth 100000 in
set_option maxHeartbeats 4000000 in
theorem refChoices_any (v : Value) (l : List Cx) (w : World) (hv : Pairs w v l) (hl : l.length ≤ 100000) : Calls Tryd.prog 35 #[v] w fun r w' => r = .returned (.bool (cOk l)) ∧ ∃ m, w' = w.drewN m := by
  obtain ⟨A, cap, rfl⟩ := hv.form
  obtain ⟨hc1, hc2⟩ := hv.cap
  have hst : PrevRel Drew cBad Cx.a w l (cOk l) (.int .i64 0) w := ⟨0, -1, by omega, rfl, fun _ => rfl, fun j x _ h => by omega, fun h => by omega, Drew.refl _, rfl⟩
  generalize cOk l = res at *
  go_enter Tryd.func35, Tryd.ntmps35
  go_wp2_with fail
  go_loopw [3] (fun ti wr => PrevRel Drew cBad Cx.a w l res ti wr) (fun ti _ => l.length - (intOf ti).toNat)
  case atStart => exact hst
  case round =>
    clear hst
    obtain ⟨k, last, hk, rfl, h0, h1, h2, ht, hres⟩ := hrel
    have HRES := Lib.hid hres
    clear hres
    by_cases hlt : k < l.length
    case neg =>
      have hlt' : ¬ (k : Int) < (l.length : Int) := by omega
      clear h0 h1 h2
      go_wp2_with fail
      go_ret
      exact ⟨ret_b (by rw [HRES.out, ok_end hlt]), ht⟩
    have hlt' : (k : Int) < (l.length : Int) := by omega
    obtain ⟨b, off, rfl, hb⟩ := hv.addr hlt
    obtain ⟨c0, c1⟩ := Pairs.at_ (hv.touch0 ht.touch) hlt
    have hb' : b < wr.heap.size := by have := ht.size; omega
    have HP : Hid (∀ m, k = m + 1 → wr.cell? ⟨b, off + m * 2, none⟩ = some (.int .i64 last)) := Lib.hid (fun m hm => by
      have := (Pairs.at_ (hv.touch0 ht.touch) (k := m) (by omega)).1
      first | (rw [this, h1 m l[m] (by simp) hm.symm]; done) | (rw [this, h1 m l[m] (by simp) hm.symm]; rfl))
    have H0 := Lib.hid h0
    have H2 := Lib.hid h2
    have HX1 : Hid (∀ j x, l[j]? = some x → j + 1 = k + 1 → l[k].a = Cx.a x) := Lib.hid (fun j x hj hjk => by
      have : j = k := by omega
      subst this
      rw [List.getElem?_eq_getElem hlt] at hj
      cases hj
      rfl)
    have hl0 : -1 ≤ last := by
      rcases Nat.eq_zero_or_pos k with h | h
      · have := h0 h; omega
      · have := h2 h; omega
    clear h0 h1 h2
    generalize hxk : l[k] = x at *
    have HXK := Lib.hid hxk
    obtain ⟨xa, xb⟩ := x
    clear hxk hv
    try simp only at c0
    try simp only at c1
    try simp only at c2
    try simp only at HX1
    go_wp2_with fail
    by_cases b0 : xa < 0
    · have d0 : decide (xa < 0) = true := decide_eq_true b0
      go_quiet (fail)
      go_wp2_with fail
      go_ret
      exact ⟨ret_b (c_bad HRES.out hlt HXK.out (by omega)).symm, ht.drewN _⟩
    have d0 : decide (xa < 0) = false := decide_eq_false b0
    by_cases b1 : 511 < xa
    · have d1 : decide (511 < xa) = true := decide_eq_true b1
      go_quiet (fail)
      go_wp2_with fail
      go_ret
      exact ⟨ret_b (c_bad HRES.out hlt HXK.out (by omega)).symm, ht.drewN _⟩
    have d1 : decide (511 < xa) = false := decide_eq_false b1
    by_cases b2 : xb < 2
    · have d2 : decide (xb < 2) = true := decide_eq_true b2
      go_quiet (fail)
      go_wp2_with fail
      go_ret
      exact ⟨ret_b (c_bad HRES.out hlt HXK.out (by omega)).symm, ht.drewN _⟩
    have d2 : decide (xb < 2) = false := decide_eq_false b2
    by_cases b3 : 51 < xb
    · have d3 : decide (51 < xb) = true := decide_eq_true b3
      go_quiet (fail)
      go_wp2_with fail
      go_ret
      exact ⟨ret_b (c_bad HRES.out hlt HXK.out (by omega)).symm, ht.drewN _⟩
    have d3 : decide (51 < xb) = false := decide_eq_false b3
    rcases Nat.eq_zero_or_pos k with hk0 | hk0
    · have hz := H0.out hk0
      have dk : decide ((0 : Int) < (k : Int)) = false := decide_eq_false (by omega)
      have dk2 : decide (0 < k) = false := decide_eq_false (by omega)
      have HK0 := Lib.hid hk0
      clear hk0
      go_quiet (fail)
      go_wp2_with fail
      go_roundw
      case rel => exact ⟨k + 1, xa, by omega, by go_num, fun h => by omega, HX1.out, fun _ => by omega, ht.drewN _, c_next HRES.out hlt HXK.out (by omega)⟩
      case measure => simp [intOf]; omega
    · obtain ⟨m, hm⟩ : ∃ m, k = m + 1 := ⟨k - 1, by omega⟩
      have cp := HP.out m hm
      have dk : decide ((0 : Int) < (k : Int)) = true := decide_eq_true (by omega)
      have dk2 : decide (0 < k) = true := decide_eq_true (by omega)
      have hz := H2.out hk0
      have hml : (m : Int) < (l.length : Int) := by omega
      have hml2 : m < l.length := by omega
      have e1 : ((k : Int) - 1) = (m : Int) := by omega
      have e2 : IntKind.i64.wrap ((k : Int) - 1) = (m : Int) := by rw [e1]; exact IntWalk.i64_in _ (by omega)
      have HM := Lib.hid hm
      clear hm
      by_cases bp : xa ≤ last
      · have dp : decide (xa ≤ last) = true := decide_eq_true bp
        go_quiet (fail)
        go_wp2_with fail
        go_ret
        exact ⟨ret_b (c_bad HRES.out hlt HXK.out (by omega)).symm, ht.drewN _⟩
      · have dp : decide (xa ≤ last) = false := decide_eq_false bp
        go_quiet (fail)
        go_wp2_with fail
        go_roundw
        case rel => exact ⟨k + 1, xa, by omega, by go_num, fun h => by omega, HX1.out, fun _ => by omega, ht.drewN _, c_next HRES.out hlt HXK.out (by omega)⟩
        case measure => simp [intOf]; omega
set_option maxRecDepth 100000 in
set_option maxHeartbeats 4000000 in
theorem refWinners_any (v : Value) (l : List Tx) (w : World) (hv : Trips w v l) (hl : l.length ≤ 100000) : Calls Tryd.prog 22 #[v] w fun r w' => r = .returned (.bool (wOk l)) ∧ ∃ m, w' = w.drewN m := by
  obtain ⟨A, cap, rfl⟩ := hv.form
  obtain ⟨hc1, hc2⟩ := hv.cap
  have hst : PrevRel Drew wBad Tx.a w l (wOk l) (.int .i64 0) w := ⟨0, -1, by omega, rfl, fun _ => rfl, fun j x _ h => by omega, fun h => by omega, Drew.refl _, rfl⟩
  generalize wOk l = res at *
  go_enter Tryd.func22, Tryd.ntmps22
  go_wp2_with fail
  go_loopw [3] (fun ti wr => PrevRel Drew wBad Tx.a w l res ti wr) (fun ti _ => l.length - (intOf ti).toNat)
  case atStart => exact hst
  case round =>
    clear hst
    obtain ⟨k, last, hk, rfl, h0, h1, h2, ht, hres⟩ := hrel
    have HRES := Lib.hid hres
    clear hres
    by_cases hlt : k < l.length
    case neg =>
      have hlt' : ¬ (k : Int) < (l.length : Int) := by omega
      clear h0 h1 h2
      go_wp2_with fail
      go_ret
      exact ⟨ret_b (by rw [HRES.out, ok_end hlt]), ht⟩
    have hlt' : (k : Int) < (l.length : Int) := by omega
    obtain ⟨b, off, rfl, hb⟩ := hv.addr hlt
    obtain ⟨c0, c1, c2⟩ := Trips.at_ (hv.touch0 ht.touch) hlt
    have hb' : b < wr.heap.size := by have := ht.size; omega
    have HP : Hid (∀ m, k = m + 1 → wr.cell? ⟨b, off + m * 3, none⟩ = some (.int .i64 last)) := Lib.hid (fun m hm => by
      have := (Trips.at_ (hv.touch0 ht.touch) (k := m) (by omega)).1
      first | (rw [this, h1 m l[m] (by simp) hm.symm]; done) | (rw [this, h1 m l[m] (by simp) hm.symm]; rfl))
    have H0 := Lib.hid h0
    have H2 := Lib.hid h2
    have HX1 : Hid (∀ j x, l[j]? = some x → j + 1 = k + 1 → l[k].a = Tx.a x) := Lib.hid (fun j x hj hjk => by
      have : j = k := by omega
      subst this
      rw [List.getElem?_eq_getElem hlt] at hj
      cases hj
      rfl)
    have hl0 : -1 ≤ last := by
      rcases Nat.eq_zero_or_pos k with h | h
      · have := h0 h; omega
      · have := h2 h; omega
    clear h0 h1 h2
    generalize hxk : l[k] = x at *
    have HXK := Lib.hid hxk
    obtain ⟨xa, xb, xc⟩ := x
    clear hxk hv
    try simp only at c0
    try simp only at c1
    try simp only at c2
    try simp only at HX1
    go_wp2_with fail
    by_cases b0 : xa < 0
    · have d0 : decide (xa < 0) = true := decide_eq_true b0
      go_quiet (fail)
      go_wp2_with fail
      go_ret
      exact ⟨ret_b (w_bad HRES.out hlt HXK.out (by omega)).symm, ht.drewN _⟩
    have d0 : decide (xa < 0) = false := decide_eq_false b0
    by_cases b1 : 511 < xa
    · have d1 : decide (511 < xa) = true := decide_eq_true b1
      go_quiet (fail)
      go_wp2_with fail
      go_ret
      exact ⟨ret_b (w_bad HRES.out hlt HXK.out (by omega)).symm, ht.drewN _⟩
    have d1 : decide (511 < xa) = false := decide_eq_false b1
    by_cases b2 : xb < 0
    · have d2 : decide (xb < 0) = true := decide_eq_true b2
      go_quiet (fail)
      go_wp2_with fail
      go_ret
      exact ⟨ret_b (w_bad HRES.out hlt HXK.out (by omega)).symm, ht.drewN _⟩
    have d2 : decide (xb < 0) = false := decide_eq_false b2
    by_cases b3 : 2 < xb
    · have d3 : decide (2 < xb) = true := decide_eq_true b3
      go_quiet (fail)
      go_wp2_with fail
      go_ret
      exact ⟨ret_b (w_bad HRES.out hlt HXK.out (by omega)).symm, ht.drewN _⟩
    have d3 : decide (2 < xb) = false := decide_eq_false b3
    by_cases b4 : xc < 0
    · have d4 : decide (xc < 0) = true := decide_eq_true b4
      go_quiet (fail)
      go_wp2_with fail
      go_ret
      exact ⟨ret_b (w_bad HRES.out hlt HXK.out (by omega)).symm, ht.drewN _⟩
    have d4 : decide (xc < 0) = false := decide_eq_false b4
    by_cases b5 : 1000000000 < xc
    · have d5 : decide (1000000000 < xc) = true := decide_eq_true b5
      go_quiet (fail)
      go_wp2_with fail
      go_ret
      exact ⟨ret_b (w_bad HRES.out hlt HXK.out (by omega)).symm, ht.drewN _⟩
    have d5 : decide (1000000000 < xc) = false := decide_eq_false b5
    rcases Nat.eq_zero_or_pos k with hk0 | hk0
    · have hz := H0.out hk0
      have dk : decide ((0 : Int) < (k : Int)) = false := decide_eq_false (by omega)
      have dk2 : decide (0 < k) = false := decide_eq_false (by omega)
      have HK0 := Lib.hid hk0
      clear hk0
      go_quiet (fail)
      go_wp2_with fail
      go_roundw
      case rel => exact ⟨k + 1, xa, by omega, by go_num, fun h => by omega, HX1.out, fun _ => by omega, ht.drewN _, w_next HRES.out hlt HXK.out (by omega)⟩
      case measure => simp [intOf]; omega
    · obtain ⟨m, hm⟩ : ∃ m, k = m + 1 := ⟨k - 1, by omega⟩
      have cp := HP.out m hm
      have dk : decide ((0 : Int) < (k : Int)) = true := decide_eq_true (by omega)
      have dk2 : decide (0 < k) = true := decide_eq_true (by omega)
      have hz := H2.out hk0
      have hml : (m : Int) < (l.length : Int) := by omega
      have hml2 : m < l.length := by omega
      have e1 : ((k : Int) - 1) = (m : Int) := by omega
      have e2 : IntKind.i64.wrap ((k : Int) - 1) = (m : Int) := by rw [e1]; exact IntWalk.i64_in _ (by omega)
      have HM := Lib.hid hm
      clear hm
      by_cases bp : xa ≤ last
      · have dp : decide (xa ≤ last) = true := decide_eq_true bp
        go_quiet (fail)
        go_wp2_with fail
        go_ret
        exact ⟨ret_b (w_bad HRES.out hlt HXK.out (by omega)).symm, ht.drewN _⟩
      · have dp : decide (xa ≤ last) = false := decide_eq_false bp
        go_quiet (fail)
        go_wp2_with fail
        go_roundw
        case rel => exact ⟨k + 1, xa, by omega, by go_num, fun h => by omega, HX1.out, fun _ => by omega, ht.drewN _, w_next HRES.out hlt HXK.out (by omega)⟩
        case measure => simp [intOf]; omega
set_option maxRecDepth 100000 in
set_option maxHeartbeats 4000000 in
theorem refValid31_any (v : Value) (l : List Tx) (w : World) (hv : Trips w v l) (hl : l.length ≤ 100000) : Calls Tryd.prog 43 #[v] w fun r w' => r = .returned (.bool (eOk l)) ∧ Touch [] w w' := by
  obtain ⟨A, cap, rfl⟩ := hv.form
  obtain ⟨hc1, hc2⟩ := hv.cap
  have hst : PrevRel (Touch []) eBad Tx.a w l (eOk l) (.int .i64 0) w := ⟨0, -1, by omega, rfl, fun _ => rfl, fun j x _ h => by omega, fun h => by omega, Touch.refl _ _, rfl⟩
  generalize eOk l = res at *
  go_enter Tryd.func43, Tryd.ntmps43
  go_wp2_with fail
  go_loopw [3] (fun ti wr => PrevRel (Touch []) eBad Tx.a w l res ti wr) (fun ti _ => l.length - (intOf ti).toNat)
  case atStart => exact hst
  case round =>
    clear hst
    obtain ⟨k, last, hk, rfl, h0, h1, h2, ht, hres⟩ := hrel
    have HRES := Lib.hid hres
    clear hres
    by_cases hlt : k < l.length
    case neg =>
      have hlt' : ¬ (k : Int) < (l.length : Int) := by omega
      clear h0 h1 h2
      go_wp2_with fail
      go_ret
      exact ⟨ret_b (by rw [HRES.out, ok_end hlt]), ht⟩
    have hlt' : (k : Int) < (l.length : Int) := by omega
    obtain ⟨b, off, rfl, hb⟩ := hv.addr hlt
    obtain ⟨c0, c1, c2⟩ := Trips.at_ (hv.touch0 ht.touch) hlt
    have hb' : b < wr.heap.size := by have := ht.size; omega
    have HP : Hid (∀ m, k = m + 1 → wr.cell? ⟨b, off + m * 3, none⟩ = some (.int .i64 last)) := Lib.hid (fun m hm => by
      have := (Trips.at_ (hv.touch0 ht.touch) (k := m) (by omega)).1
      first | (rw [this, h1 m l[m] (by simp) hm.symm]; done) | (rw [this, h1 m l[m] (by simp) hm.symm]; rfl))
    have H0 := Lib.hid h0
    have H2 := Lib.hid h2
    have HX1 : Hid (∀ j x, l[j]? = some x → j + 1 = k + 1 → l[k].a = Tx.a x) := Lib.hid (fun j x hj hjk => by
      have : j = k := by omega
      subst this
      rw [List.getElem?_eq_getElem hlt] at hj
      cases hj
      rfl)
    have hl0 : -1 ≤ last := by
      rcases Nat.eq_zero_or_pos k with h | h
      · have := h0 h; omega
      · have := h2 h; omega
    clear h0 h1 h2
    generalize hxk : l[k] = x at *
    have HXK := Lib.hid hxk
    obtain ⟨xa, xb, xc⟩ := x
    clear hxk hv
    try simp only at c0
    try simp only at c1
    try simp only at c2
    try simp only at HX1
    go_wp2_with fail
    by_cases b0 : xa < 0
    · have d0 : decide (xa < 0) = true := decide_eq_true b0
      go_quiet (fail)
      go_wp2_with fail
      go_ret
      exact ⟨ret_b (e_bad HRES.out hlt HXK.out (by omega)).symm, (ht.alloc _).drewN _⟩
    have d0 : decide (xa < 0) = false := decide_eq_false b0
    by_cases b1 : 511 < xa
    · have d1 : decide (511 < xa) = true := decide_eq_true b1
      go_quiet (fail)
      go_wp2_with fail
      go_ret
      exact ⟨ret_b (e_bad HRES.out hlt HXK.out (by omega)).symm, (ht.alloc _).drewN _⟩
    have d1 : decide (511 < xa) = false := decide_eq_false b1
    by_cases b2 : xb < 1
    · have d2 : decide (xb < 1) = true := decide_eq_true b2
      go_quiet (fail)
      go_wp2_with fail
      go_ret
      exact ⟨ret_b (e_bad HRES.out hlt HXK.out (by omega)).symm, (ht.alloc _).drewN _⟩
    have d2 : decide (xb < 1) = false := decide_eq_false b2
    by_cases b3 : 3 < xb
    · have d3 : decide (3 < xb) = true := decide_eq_true b3
      go_quiet (fail)
      go_wp2_with fail
      go_ret
      exact ⟨ret_b (e_bad HRES.out hlt HXK.out (by omega)).symm, (ht.alloc _).drewN _⟩
    have d3 : decide (3 < xb) = false := decide_eq_false b3
    by_cases b4 : xc < 1
    · have d4 : decide (xc < 1) = true := decide_eq_true b4
      go_quiet (fail)
      go_wp2_with fail
      go_ret
      exact ⟨ret_b (e_bad HRES.out hlt HXK.out (by omega)).symm, (ht.alloc _).drewN _⟩
    have d4 : decide (xc < 1) = false := decide_eq_false b4
    by_cases b5 : 1000000 < xc
    · have d5 : decide (1000000 < xc) = true := decide_eq_true b5
      go_quiet (fail)
      go_wp2_with fail
      go_ret
      exact ⟨ret_b (e_bad HRES.out hlt HXK.out (by omega)).symm, (ht.alloc _).drewN _⟩
    have d5 : decide (1000000 < xc) = false := decide_eq_false b5
    rcases Nat.eq_zero_or_pos k with hk0 | hk0
    · have hz := H0.out hk0
      have dk : decide ((0 : Int) < (k : Int)) = false := decide_eq_false (by omega)
      have dk2 : decide (0 < k) = false := decide_eq_false (by omega)
      have HK0 := Lib.hid hk0
      clear hk0
      go_quiet (fail)
      go_wp2_with fail
      go_roundw
      case rel => exact ⟨k + 1, xa, by omega, by go_num, fun h => by omega, HX1.out, fun _ => by omega, (ht.alloc _).drewN _, e_next HRES.out hlt HXK.out (by omega)⟩
      case measure => simp [intOf]; omega
    · obtain ⟨m, hm⟩ : ∃ m, k = m + 1 := ⟨k - 1, by omega⟩
      have cp := HP.out m hm
      have dk : decide ((0 : Int) < (k : Int)) = true := decide_eq_true (by omega)
      have dk2 : decide (0 < k) = true := decide_eq_true (by omega)
      have hz := H2.out hk0
      have hml : (m : Int) < (l.length : Int) := by omega
      have hml2 : m < l.length := by omega
      have e1 : ((k : Int) - 1) = (m : Int) := by omega
      have e2 : IntKind.i64.wrap ((k : Int) - 1) = (m : Int) := by rw [e1]; exact IntWalk.i64_in _ (by omega)
      have HM := Lib.hid hm
      clear hm
      by_cases bp : xa ≤ last
      · have dp : decide (xa ≤ last) = true := decide_eq_true bp
        go_quiet (fail)
        go_wp2_with fail
        go_ret
        exact ⟨ret_b (e_bad HRES.out hlt HXK.out (by omega)).symm, (ht.alloc _).drewN _⟩
      · have dp : decide (xa ≤ last) = false := decide_eq_false bp
        go_quiet (fail)
        go_wp2_with fail
        go_roundw
        case rel => exact ⟨k + 1, xa, by omega, by go_num, fun h => by omega, HX1.out, fun _ => by omega, (ht.alloc _).drewN _, e_next HRES.out hlt HXK.out (by omega)⟩
        case measure => simp [intOf]; omega
end Go.Proofs.YtpbknnkobhjjcaaDoor
