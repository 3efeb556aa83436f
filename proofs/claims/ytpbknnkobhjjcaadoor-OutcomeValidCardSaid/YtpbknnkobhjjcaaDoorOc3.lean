/- Lists of winners, stations, choices and entrants that are valid: the program's tests. -/
import Derived.Test.YtpbknnkobhjjcaaDoorOc2
import Derived.Test.YtpbknnkobhjjcaaDoorProg
namespace Go.Proofs.YtpbknnkobhjjcaaDoor
open Go.RowKit
set_option linter.unusedSimpArgs false

theorem ret_b {a b : Bool} (h : a = b) : Ending.returned (.bool a) = .returned (.bool b) := by rw [h]
def OkRel {α : Type} (bad : α → Prop) [DecidablePred bad] (key : α → Int) (w : World) (l : List α) (res : Bool) (tl ti : Value) (wr : World) : Prop :=
  ∃ (k : Nat) (last : Int), k ≤ l.length ∧ ti = .int .i64 k ∧ tl = .int .i64 last ∧ Touch [] w wr ∧ res = okList bad key last (l.drop k)
theorem w_bad {l : List Tx} {k : Nat} {last : Int} {res : Bool} {xa xb xc : Int} (hres : res = okList wBad Tx.a last (l.drop k)) (hk : k < l.length) (hx : l[k] = ⟨xa, xb, xc⟩) (h : xa ≤ last ∨ 512 ≤ xa ∨ xb < 0 ∨ 2 < xb ∨ xc < 0 ∨ 1000000000 < xc) : res = false := by
  rw [hres]
  refine ok_bad hk ?_
  rw [hx]
  unfold wBad
  simpa using h
theorem w_next {l : List Tx} {k : Nat} {last : Int} {res : Bool} {xa xb xc : Int} (hres : res = okList wBad Tx.a last (l.drop k)) (hk : k < l.length) (hx : l[k] = ⟨xa, xb, xc⟩) (h : ¬ (xa ≤ last ∨ 512 ≤ xa ∨ xb < 0 ∨ 2 < xb ∨ xc < 0 ∨ 1000000000 < xc)) : res = okList wBad Tx.a xa (l.drop (k + 1)) := by
  rw [hres, ok_next hk]
  · first | (rw [hx]; done) | (rw [hx]; rfl)
  · rw [hx]; exact fun h1 => h (.inl h1)
  · rw [hx]; exact fun h1 => h (.inr h1)
theorem e_bad {l : List Tx} {k : Nat} {last : Int} {res : Bool} {xa xb xc : Int} (hres : res = okList eBad Tx.a last (l.drop k)) (hk : k < l.length) (hx : l[k] = ⟨xa, xb, xc⟩) (h : xa ≤ last ∨ 512 ≤ xa ∨ xb < 1 ∨ 3 < xb ∨ xc < 1 ∨ 1000000 < xc) : res = false := by
  rw [hres]
  refine ok_bad hk ?_
  rw [hx]
  unfold eBad
  simpa using h
theorem e_next {l : List Tx} {k : Nat} {last : Int} {res : Bool} {xa xb xc : Int} (hres : res = okList eBad Tx.a last (l.drop k)) (hk : k < l.length) (hx : l[k] = ⟨xa, xb, xc⟩) (h : ¬ (xa ≤ last ∨ 512 ≤ xa ∨ xb < 1 ∨ 3 < xb ∨ xc < 1 ∨ 1000000 < xc)) : res = okList eBad Tx.a xa (l.drop (k + 1)) := by
  rw [hres, ok_next hk]
  · first | (rw [hx]; done) | (rw [hx]; rfl)
  · rw [hx]; exact fun h1 => h (.inl h1)
  · rw [hx]; exact fun h1 => h (.inr h1)
theorem s_bad {l : List Int} {k : Nat} {last : Int} {res : Bool} {xa : Int} (hres : res = okList sBad id last (l.drop k)) (hk : k < l.length) (hx : l[k] = xa) (h : xa ≤ last ∨ 512 ≤ xa) : res = false := by
  rw [hres]
  refine ok_bad hk ?_
  rw [hx]
  unfold sBad
  simpa using h
theorem s_next {l : List Int} {k : Nat} {last : Int} {res : Bool} {xa : Int} (hres : res = okList sBad id last (l.drop k)) (hk : k < l.length) (hx : l[k] = xa) (h : ¬ (xa ≤ last ∨ 512 ≤ xa)) : res = okList sBad id xa (l.drop (k + 1)) := by
  rw [hres, ok_next hk]
  · first | (rw [hx]; done) | (rw [hx]; rfl)
  · rw [hx]; exact fun h1 => h (.inl h1)
  · rw [hx]; exact fun h1 => h (.inr h1)
theorem c_bad {l : List Cx} {k : Nat} {last : Int} {res : Bool} {xa xb : Int} (hres : res = okList cBad Cx.a last (l.drop k)) (hk : k < l.length) (hx : l[k] = ⟨xa, xb⟩) (h : xa ≤ last ∨ 512 ≤ xa ∨ xb < 2 ∨ 51 < xb) : res = false := by
  rw [hres]
  refine ok_bad hk ?_
  rw [hx]
  unfold cBad
  simpa using h
theorem c_next {l : List Cx} {k : Nat} {last : Int} {res : Bool} {xa xb : Int} (hres : res = okList cBad Cx.a last (l.drop k)) (hk : k < l.length) (hx : l[k] = ⟨xa, xb⟩) (h : ¬ (xa ≤ last ∨ 512 ≤ xa ∨ xb < 2 ∨ 51 < xb)) : res = okList cBad Cx.a xa (l.drop (k + 1)) := by
  rw [hres, ok_next hk]
  · first | (rw [hx]; done) | (rw [hx]; rfl)
  · rw [hx]; exact fun h1 => h (.inl h1)
  · rw [hx]; exact fun h1 => h (.inr h1)
set_option maxRecDepth 100000 in
set_option maxHeartbeats 4000000 in
theorem validWinners_any (v : Value) (l : List Tx) (w : World) (hv : Trips w v l) (hl : l.length ≤ 100000) : Calls Tryd.prog 21 #[v] w fun r w' => r = .returned (.bool (wOk l)) ∧ Touch [] w w' := by
  obtain ⟨A, cap, rfl⟩ := hv.form
  obtain ⟨hc1, hc2⟩ := hv.cap
  have hst : OkRel wBad Tx.a w l (wOk l) (.int .i64 (-1)) (.int .i64 0) w := ⟨0, -1, by omega, rfl, rfl, Touch.refl _ _, rfl⟩
  generalize wOk l = res at *
  go_enter Tryd.func21, Tryd.ntmps21
  go_wp2_with fail
  go_loopw [3, 8] (fun tl ti wr => OkRel wBad Tx.a w l res tl ti wr) (fun _ ti _ => l.length - (intOf ti).toNat)
  case atStart => exact hst
  case round =>
    clear hst
    obtain ⟨k, last, hk, rfl, rfl, ht, hres⟩ := hrel
    have HRES := Lib.hid hres
    clear hres
    by_cases hlt : k < l.length
    · have hlt' : (k : Int) < (l.length : Int) := by omega
      obtain ⟨b, off, rfl, hb⟩ := hv.addr hlt
      obtain ⟨c0, c1, c2⟩ := Trips.at_ (hv.touch0 ht) hlt
      have hb' : b < wr.heap.size := by have := ht.size; omega
      generalize hxk : l[k] = x at *
      have HXK := Lib.hid hxk
      obtain ⟨xa, xb, xc⟩ := x
      clear hxk hv
      try simp only at c0
      try simp only at c1
      try simp only at c2
      go_wp2_with fail
      all_goals first
        | (go_roundw; (case rel => exact ⟨k + 1, xa, by omega, by go_num, rfl, by first | exact ht.alloc _ | exact ht, w_next HRES.out hlt HXK.out (by omega)⟩); (case measure => simp [intOf]; omega))
        | (go_ret; exact ⟨ret_b (w_bad HRES.out hlt HXK.out (by omega)).symm, by first | exact ht.alloc _ | exact ht⟩)
    · have hlt' : ¬ (k : Int) < (l.length : Int) := by omega
      go_wp2_with fail
      go_ret
      exact ⟨ret_b (by rw [HRES.out, ok_end hlt]), ht⟩
set_option maxRecDepth 100000 in
set_option maxHeartbeats 4000000 in
theorem revValid_any (v : Value) (l : List Tx) (w : World) (hv : Trips w v l) (hl : l.length ≤ 100000) : Calls Tryd.prog 41 #[v] w fun r w' => r = .returned (.bool (eOk l)) ∧ Touch [] w w' := by
  obtain ⟨A, cap, rfl⟩ := hv.form
  obtain ⟨hc1, hc2⟩ := hv.cap
  have hst : OkRel eBad Tx.a w l (eOk l) (.int .i64 (-1)) (.int .i64 0) w := ⟨0, -1, by omega, rfl, rfl, Touch.refl _ _, rfl⟩
  generalize eOk l = res at *
  go_enter Tryd.func41, Tryd.ntmps41
  go_wp2_with fail
  go_loopw [3, 8] (fun tl ti wr => OkRel eBad Tx.a w l res tl ti wr) (fun _ ti _ => l.length - (intOf ti).toNat)
  case atStart => exact hst
  case round =>
    clear hst
    obtain ⟨k, last, hk, rfl, rfl, ht, hres⟩ := hrel
    have HRES := Lib.hid hres
    clear hres
    by_cases hlt : k < l.length
    · have hlt' : (k : Int) < (l.length : Int) := by omega
      obtain ⟨b, off, rfl, hb⟩ := hv.addr hlt
      obtain ⟨c0, c1, c2⟩ := Trips.at_ (hv.touch0 ht) hlt
      have hb' : b < wr.heap.size := by have := ht.size; omega
      generalize hxk : l[k] = x at *
      have HXK := Lib.hid hxk
      obtain ⟨xa, xb, xc⟩ := x
      clear hxk hv
      try simp only at c0
      try simp only at c1
      try simp only at c2
      go_wp2_with fail
      all_goals first
        | (go_roundw; (case rel => exact ⟨k + 1, xa, by omega, by go_num, rfl, by first | exact ht.alloc _ | exact ht, e_next HRES.out hlt HXK.out (by omega)⟩); (case measure => simp [intOf]; omega))
        | (go_ret; exact ⟨ret_b (e_bad HRES.out hlt HXK.out (by omega)).symm, by first | exact ht.alloc _ | exact ht⟩)
    · have hlt' : ¬ (k : Int) < (l.length : Int) := by omega
      go_wp2_with fail
      go_ret
      exact ⟨ret_b (by rw [HRES.out, ok_end hlt]), ht⟩
set_option maxRecDepth 100000 in
set_option maxHeartbeats 4000000 in
theorem validStations_any (v : Value) (l : List Int) (w : World) (hv : Nums w v l) (hl : l.length ≤ 100000) : Calls Tryd.prog 32 #[v] w fun r w' => r = .returned (.bool (sOk l)) ∧ Touch [] w w' := by
  obtain ⟨A, cap, rfl⟩ := hv.form
  obtain ⟨hc1, hc2⟩ := hv.cap
  have hst : OkRel sBad id w l (sOk l) (.int .i64 (-1)) (.int .i64 0) w := ⟨0, -1, by omega, rfl, rfl, Touch.refl _ _, rfl⟩
  generalize sOk l = res at *
  go_enter Tryd.func32, Tryd.ntmps32
  go_wp2_with fail
  go_loopw [3, 8] (fun tl ti wr => OkRel sBad id w l res tl ti wr) (fun _ ti _ => l.length - (intOf ti).toNat)
  case atStart => exact hst
  case round =>
    clear hst
    obtain ⟨k, last, hk, rfl, rfl, ht, hres⟩ := hrel
    have HRES := Lib.hid hres
    clear hres
    by_cases hlt : k < l.length
    · have hlt' : (k : Int) < (l.length : Int) := by omega
      obtain ⟨b, off, rfl, hb⟩ := hv.addr hlt
      obtain c0 := Nums.at_ (hv.touch0 ht) hlt
      have hb' : b < wr.heap.size := by have := ht.size; omega
      generalize hxk : l[k] = xa at *
      have HXK := Lib.hid hxk
      clear hxk hv
      try simp only at c0
      try simp only at c1
      try simp only at c2
      go_wp2_with fail
      all_goals first
        | (go_roundw; (case rel => exact ⟨k + 1, xa, by omega, by go_num, rfl, by first | exact ht.alloc _ | exact ht, s_next HRES.out hlt HXK.out (by omega)⟩); (case measure => simp [intOf]; omega))
        | (go_ret; exact ⟨ret_b (s_bad HRES.out hlt HXK.out (by omega)).symm, by first | exact ht.alloc _ | exact ht⟩)
    · have hlt' : ¬ (k : Int) < (l.length : Int) := by omega
      go_wp2_with fail
      go_ret
      exact ⟨ret_b (by rw [HRES.out, ok_end hlt]), ht⟩
set_option maxRecDepth 100000 in
set_option maxHeartbeats 4000000 in
theorem between_any (n lo hi : Int) (w : World) : Calls Tryd.prog 47 #[.int .i64 n, .int .i64 lo, .int .i64 hi] w fun r w' => r = .returned (.bool (decide (lo ≤ n ∧ n ≤ hi))) ∧ w = w' := by
  by_cases h1 : lo ≤ n
  · by_cases h2 : n ≤ hi
    · rw [decide_eq_true ⟨h1, h2⟩]
      go_enter Tryd.func47, Tryd.ntmps47
      go_wp2_with fail
      go_ret
      exact ⟨rfl, rfl⟩
    · rw [decide_eq_false (fun h => h2 h.2)]
      go_enter Tryd.func47, Tryd.ntmps47
      go_wp2_with fail
      go_ret
      exact ⟨rfl, rfl⟩
  · rw [decide_eq_false (fun h => h1 h.1)]
    go_enter Tryd.func47, Tryd.ntmps47
    go_wp2_with fail
    go_ret
    exact ⟨rfl, rfl⟩
set_option maxRecDepth 100000 in
set_option maxHeartbeats 4000000 in
theorem isStation_any (n : Int) (w : World) : Calls Tryd.prog 46 #[.int .i64 n] w fun r w' => r = .returned (.bool (decide (0 ≤ n ∧ n ≤ 511))) ∧ w = w' := by
  have HB := Lib.hid (between_any n 0 511 w)
  generalize decide (0 ≤ n ∧ n ≤ 511) = q at *
  go_enter Tryd.func46, Tryd.ntmps46
  go_wp2_with fail
  refine HB.out.mono ?_
  rintro r w' ⟨rfl, rfl⟩
  go_wp2_with fail
  go_ret
  exact ⟨rfl, rfl⟩
def ChRel (w : World) (l : List Cx) (res : Bool) (ti : Value) (wr : World) : Prop :=
  ∃ (k : Nat) (last : Int), k ≤ l.length ∧ ti = .int .i64 k ∧ (k = 0 → last = -1) ∧ (∀ j x, l[j]? = some x → j + 1 = k → last = x.a) ∧ (0 < k → 0 ≤ last) ∧ Touch [] w wr ∧ res = okList cBad Cx.a last (l.drop k)
set_option maxRecDepth 100000 in
set_option maxHeartbeats 4000000 in
theorem validList_any (v : Value) (l : List Cx) (w : World) (hv : Pairs w v l) (hl : l.length ≤ 100000) : Calls Tryd.prog 33 #[v] w fun r w' => r = .returned (.bool (cOk l)) ∧ Touch [] w w' := by
  obtain ⟨A, cap, rfl⟩ := hv.form
  obtain ⟨hc1, hc2⟩ := hv.cap
  have hst : ChRel w l (cOk l) (.int .i64 0) w := ⟨0, -1, by omega, rfl, fun _ => rfl, fun j x _ h => by omega, fun h => by omega, Touch.refl _ _, rfl⟩
  generalize cOk l = res at *
  go_enter Tryd.func33, Tryd.ntmps33
  go_wp2_with fail
  go_loopw [7] (fun ti wr => ChRel w l res ti wr) (fun ti _ => l.length - (intOf ti).toNat)
  case atStart => exact hst
  case round =>
    clear hst
    obtain ⟨k, last, hk, rfl, h0, h1, h2, ht, hres⟩ := hrel
    have HRES := Lib.hid hres
    clear hres
    by_cases hlt : k < l.length
    case neg =>
      have hlt' : ¬ (k : Int) < (l.length : Int) := by omega
      clear h0 h1 h2
      go_wp2_with fail
      go_ret
      exact ⟨ret_b (by rw [HRES.out, ok_end hlt]), ht⟩
    have hlt' : (k : Int) < (l.length : Int) := by omega
    obtain ⟨b, off, rfl, hb⟩ := hv.addr hlt
    obtain ⟨c0, c1⟩ := Pairs.at_ (hv.touch0 ht) hlt
    have hb' : b < wr.heap.size := by have := ht.size; omega
    have HP : Hid (∀ m, k = m + 1 → wr.cell? ⟨b, off + m * 2, none⟩ = some (.int .i64 last)) := Lib.hid (fun m hm => by
      have := (Pairs.at_ (hv.touch0 ht) (k := m) (by omega)).1
      rw [this, h1 m l[m] (by simp) hm.symm])
    have H0 := Lib.hid h0
    have H2 := Lib.hid h2
    have HX1 : Hid (∀ j x, l[j]? = some x → j + 1 = k + 1 → l[k].a = x.a) := Lib.hid (fun j x hj hjk => by
      have : j = k := by omega
      subst this
      rw [List.getElem?_eq_getElem hlt] at hj
      cases hj
      rfl)
    clear h0 h1 h2
    generalize hxk : l[k] = x at *
    have HXK := Lib.hid hxk
    obtain ⟨xa, xb⟩ := x
    clear hxk hv
    simp only at c0 c1 HX1
    go_wp2_with fail
    refine (isStation_any xa _).mono ?_
    rintro r w' ⟨rfl, rfl⟩
    by_cases b1 : 0 ≤ xa ∧ xa ≤ 511
    case neg =>
      rw [decide_eq_false b1]
      have hl0 : -1 ≤ last := by
        rcases Nat.eq_zero_or_pos k with h | h
        · have := H0.out h; omega
        · have := H2.out h; omega
      go_wp2_with fail
      go_ret
      exact ⟨ret_b (c_bad HRES.out hlt HXK.out (by omega)).symm, ht.alloc _⟩
    rw [decide_eq_true b1]
    go_wp2_with fail
    refine (between_any xb 2 51 _).mono ?_
    rintro r w' ⟨rfl, rfl⟩
    by_cases b2 : 2 ≤ xb ∧ xb ≤ 51
    case neg =>
      rw [decide_eq_false b2]
      go_wp2_with fail
      go_ret
      exact ⟨ret_b (c_bad HRES.out hlt HXK.out (by omega)).symm, ht.alloc _⟩
    rw [decide_eq_true b2]
    obtain ⟨b1a, b1b⟩ := b1
    obtain ⟨b2a, b2b⟩ := b2
    rcases Nat.eq_zero_or_pos k with hk0 | hk0
    · subst hk0
      have hz := H0.out rfl
      go_wp2_with fail
      go_quiet (fail)
      go_wp2_with fail
      go_roundw
      case rel => exact ⟨1, xa, by omega, by go_num, fun h => by omega, HX1.out, fun _ => b1a, (ht.alloc _).drewN _, c_next HRES.out hlt HXK.out (by omega)⟩
      case measure => simp [intOf]; omega
    · obtain ⟨m, rfl⟩ : ∃ m, k = m + 1 := ⟨k - 1, by omega⟩
      have cp := HP.out m rfl
      have d0 : decide ((0 : Int) < ((m + 1 : Nat) : Int)) = true := decide_eq_true (by omega)
      have hz := H2.out hk0
      have e1 : (((m + 1 : Nat) : Int) - 1) = (m : Int) := by omega
      by_cases b3 : xa ≤ last
      · have d3 : decide (xa ≤ last) = true := by simpa using b3
        go_wp2_with fail
        go_quiet (fail)
        go_wp2_with fail
        go_ret
        exact ⟨ret_b (c_bad HRES.out hlt HXK.out (by omega)).symm, (ht.alloc _).drewN _⟩
      · have d3 : decide (xa ≤ last) = false := by simpa using b3
        go_wp2_with fail
        go_quiet (fail)
        go_wp2_with fail
        go_roundw
        case rel => exact ⟨m + 1 + 1, xa, by omega, by go_num, fun h => by omega, HX1.out, fun _ => b1a, (ht.alloc _).drewN _, c_next HRES.out hlt HXK.out (by omega)⟩
        case measure => simp [intOf]; omega
end Go.Proofs.YtpbknnkobhjjcaaDoor
