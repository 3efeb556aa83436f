/- Equality of lists and of outcomes. -/
import Derived.Test.YtpbknnkobhjjcaaDoorOc8
namespace Go.Proofs.YtpbknnkobhjjcaaDoor
open Go.RowKit
set_option linter.unusedSimpArgs false

instance : DecidableEq Tx := fun x y => if h : x.a = y.a ∧ x.b = y.b ∧ x.c = y.c then isTrue (by cases x; cases y; simp_all) else isFalse (by rintro rfl; simp at h)
instance : DecidableEq Cx := fun x y => if h : x.a = y.a ∧ x.b = y.b then isTrue (by cases x; cases y; simp_all) else isFalse (by rintro rfl; simp at h)
theorem same_step {α : Type} [DecidableEq α] {l m : List α} (hlm : l.length = m.length) {k : Nat} (hk : k < l.length) : decide (l.drop k = m.drop k) = if l[k] = m[k]'(by omega) then decide (l.drop (k + 1) = m.drop (k + 1)) else false := by
  rw [List.drop_eq_getElem_cons hk, List.drop_eq_getElem_cons (show k < m.length by omega)]
  by_cases h : l[k] = m[k]'(by omega)
  · rw [if_pos h]
    simp only [List.cons.injEq, h, true_and]
  · rw [if_neg h]
    simp only [List.cons.injEq, h, false_and, decide_false]
def SameRel {α : Type} [DecidableEq α] (w : World) (l m : List α) (res : Bool) (ti : Value) (wr : World) : Prop := ∃ k : Nat, k ≤ l.length ∧ ti = .int .i64 k ∧ Drew w wr ∧ res = decide (l.drop k = m.drop k)
set_option maxRecDepth 100000 in
set_option maxHeartbeats 8000000 in
theorem eqNums_any (v u : Value) (l m : List Int) (w : World) (hv : Nums w v l) (hu : Nums w u m) (hl : l.length ≤ 100000) : Calls Tryd.prog 37 #[v, u] w fun r w' => r = .returned (.bool (decide (l = m))) ∧ ∃ n, w' = w.drewN n := by
  obtain ⟨A, cap, rfl⟩ := hv.form
  obtain ⟨B, cap2, rfl⟩ := hu.form
  obtain ⟨hc1, hc2⟩ := hv.cap
  obtain ⟨hd1, hd2⟩ := hu.cap
  by_cases hlm : l.length = m.length
  case neg =>
    rw [decide_eq_false (fun e : l = m => hlm (by rw [e]))]
    have b1 : ((l.length : Int) != (m.length : Int)) = true := by simp; omega
    have b2 : ((l.length : Int) == (m.length : Int)) = false := by simp; omega
    clear hlm
    go_enter Tryd.func37, Tryd.ntmps37
    go_wp2_with fail
    go_ret
    exact ⟨rfl, 0, rfl⟩
  have b1 : ((l.length : Int) != (m.length : Int)) = false := by simp; omega
  have b2 : ((l.length : Int) == (m.length : Int)) = true := by simp; omega
  have hst : SameRel w l m (decide (l = m)) (.int .i64 0) w := ⟨0, by omega, rfl, Drew.refl _, rfl⟩
  generalize decide (l = m) = res at *
  have HLM := Lib.hid hlm
  have hlm1 : l.length ≤ m.length := by omega
  have hlm2 : m.length ≤ l.length := by omega
  clear hlm
  go_enter Tryd.func37, Tryd.ntmps37
  go_wp2_with fail
  go_loopw [13] (fun ti wr => SameRel w l m res ti wr) (fun ti _ => l.length - (intOf ti).toNat)
  case atStart => exact hst
  case round =>
    clear hst
    obtain ⟨k, hk, rfl, ht, hres⟩ := hrel
    have HRES := Lib.hid hres
    clear hres
    by_cases hlt : k < l.length
    case neg =>
      have hlt' : ¬ (k : Int) < (l.length : Int) := by omega
      go_wp2_with fail
      go_ret
      exact ⟨ret_b (by rw [HRES.out, List.drop_eq_nil_of_le (by omega), List.drop_eq_nil_of_le (by omega)]; simp), ht⟩
    have hlt' : (k : Int) < (l.length : Int) := by omega
    have hltm : k < m.length := by omega
    have hltm' : (k : Int) < (m.length : Int) := by omega
    obtain ⟨b, off, rfl, hb⟩ := hv.addr hlt
    obtain ⟨e, off2, rfl, he⟩ := hu.addr hltm
    obtain c0 := Nums.at_ (hv.touch0 ht.touch) hlt
    obtain d0 := Nums.at_ (hu.touch0 ht.touch) hltm
    have HS := Lib.hid (same_step HLM.out hlt)
    generalize hxk : l[k] = xa at *
    generalize hyk : m[k] = ya at *
    clear hxk hyk
    clear hv hu
    by_cases hxy : xa = ya
    · have HG : Hid (res = decide (l.drop (k + 1) = m.drop (k + 1))) := Lib.hid (by rw [HRES.out, HS.out, if_pos hxy])
      have q1 : (xa != ya) = false := by simp [hxy]
      have q2 : (xa == ya) = true := by simp [hxy]
      clear hxy
      go_wp2_with fail
      go_quiet (fail)
      go_wp2_with fail
      go_roundw
      case rel => exact ⟨k + 1, hlt, by go_num, ht.drewN _, HG.out⟩
      case measure => simp [intOf]; omega
    · have HG : Hid (res = false) := Lib.hid (by rw [HRES.out, HS.out, if_neg hxy])
      have q1 : (xa != ya) = true := by simpa using hxy
      have q2 : (xa == ya) = false := by simpa using hxy
      clear hxy
      go_wp2_with fail
      go_quiet (fail)
      go_wp2_with fail
      go_ret
      exact ⟨ret_b HG.out.symm, ht.drewN _⟩
set_option maxRecDepth 100000 in
set_option maxHeartbeats 8000000 in
theorem eqTrips_any (v u : Value) (l m : List Tx) (w : World) (hv : Trips w v l) (hu : Trips w u m) (hl : l.length ≤ 100000) : Calls Tryd.prog 36 #[v, u] w fun r w' => r = .returned (.bool (decide (l = m))) ∧ ∃ n, w' = w.drewN n := by
  obtain ⟨A, cap, rfl⟩ := hv.form
  obtain ⟨B, cap2, rfl⟩ := hu.form
  obtain ⟨hc1, hc2⟩ := hv.cap
  obtain ⟨hd1, hd2⟩ := hu.cap
  by_cases hlm : l.length = m.length
  case neg =>
    rw [decide_eq_false (fun e : l = m => hlm (by rw [e]))]
    have b1 : ((l.length : Int) != (m.length : Int)) = true := by simp; omega
    have b2 : ((l.length : Int) == (m.length : Int)) = false := by simp; omega
    clear hlm
    go_enter Tryd.func36, Tryd.ntmps36
    go_wp2_with fail
    go_ret
    exact ⟨rfl, 0, rfl⟩
  have b1 : ((l.length : Int) != (m.length : Int)) = false := by simp; omega
  have b2 : ((l.length : Int) == (m.length : Int)) = true := by simp; omega
  have hst : SameRel w l m (decide (l = m)) (.int .i64 0) w := ⟨0, by omega, rfl, Drew.refl _, rfl⟩
  generalize decide (l = m) = res at *
  have HLM := Lib.hid hlm
  have hlm1 : l.length ≤ m.length := by omega
  have hlm2 : m.length ≤ l.length := by omega
  clear hlm
  go_enter Tryd.func36, Tryd.ntmps36
  go_wp2_with fail
  go_loopw [13] (fun ti wr => SameRel w l m res ti wr) (fun ti _ => l.length - (intOf ti).toNat)
  case atStart => exact hst
  case round =>
    clear hst
    obtain ⟨k, hk, rfl, ht, hres⟩ := hrel
    have HRES := Lib.hid hres
    clear hres
    by_cases hlt : k < l.length
    case neg =>
      have hlt' : ¬ (k : Int) < (l.length : Int) := by omega
      go_wp2_with fail
      go_ret
      exact ⟨ret_b (by rw [HRES.out, List.drop_eq_nil_of_le (by omega), List.drop_eq_nil_of_le (by omega)]; simp), ht⟩
    have hlt' : (k : Int) < (l.length : Int) := by omega
    have hltm : k < m.length := by omega
    have hltm' : (k : Int) < (m.length : Int) := by omega
    obtain ⟨b, off, rfl, hb⟩ := hv.addr hlt
    obtain ⟨e, off2, rfl, he⟩ := hu.addr hltm
    obtain ⟨c0, c1, c2⟩ := Trips.at_ (hv.touch0 ht.touch) hlt
    obtain ⟨d0, d1, d2⟩ := Trips.at_ (hu.touch0 ht.touch) hltm
    have HS := Lib.hid (same_step HLM.out hlt)
    generalize hxk : l[k] = x at *
    generalize hyk : m[k] = y at *
    obtain ⟨xa, xb, xc⟩ := x
    obtain ⟨ya, yb, yc⟩ := y
    clear hxk hyk
    simp only at c0 c1 d0 d1
    simp only at c2 d2
    clear hv hu
    by_cases hxy : ⟨xa, xb, xc⟩ = (⟨ya, yb, yc⟩ : Tx)
    · have HG : Hid (res = decide (l.drop (k + 1) = m.drop (k + 1))) := Lib.hid (by rw [HRES.out, HS.out, if_pos hxy])
      have q1 : True := trivial
      simp only [Tx.mk.injEq] at hxy
      obtain ⟨rfl, rfl, rfl⟩ := hxy
      go_wp2_with fail
      go_quiet (fail)
      go_wp2_with fail
      go_roundw
      case rel => exact ⟨k + 1, hlt, by go_num, ht.drewN _, HG.out⟩
      case measure => simp [intOf]; omega
    · have HG : Hid (res = false) := Lib.hid (by rw [HRES.out, HS.out, if_neg hxy])
      have q1 : True := trivial
      simp only [Tx.mk.injEq] at hxy
      by_cases ha : xa = ya
      case neg =>
        have qa : (xa == ya) = false := by simpa using ha
        have pa : (xa != ya) = true := by simpa using ha
        clear hxy ha
        go_wp2_with fail
        go_quiet (fail)
        go_wp2_with fail
        go_ret
        exact ⟨ret_b HG.out.symm, ht.drewN _⟩
      subst ha
      by_cases hb : xb = yb
      case neg =>
        have qb : (xb == yb) = false := by simpa using hb
        have pb : (xb != yb) = true := by simpa using hb
        clear hxy hb
        go_wp2_with fail
        go_quiet (fail)
        go_wp2_with fail
        go_ret
        exact ⟨ret_b HG.out.symm, ht.drewN _⟩
      subst hb
      have hc : ¬ xc = yc := fun e => hxy (by simp [e])
      have qc : (xc == yc) = false := by simpa using hc
      have pc : (xc != yc) = true := by simpa using hc
      clear hxy hc
      go_wp2_with fail
      go_quiet (fail)
      go_wp2_with fail
      go_ret
      exact ⟨ret_b HG.out.symm, ht.drewN _⟩
set_option maxRecDepth 100000 in
set_option maxHeartbeats 8000000 in
theorem eqPairs_any (v u : Value) (l m : List Cx) (w : World) (hv : Pairs w v l) (hu : Pairs w u m) (hl : l.length ≤ 100000) : Calls Tryd.prog 38 #[v, u] w fun r w' => r = .returned (.bool (decide (l = m))) ∧ ∃ n, w' = w.drewN n := by
  obtain ⟨A, cap, rfl⟩ := hv.form
  obtain ⟨B, cap2, rfl⟩ := hu.form
  obtain ⟨hc1, hc2⟩ := hv.cap
  obtain ⟨hd1, hd2⟩ := hu.cap
  by_cases hlm : l.length = m.length
  case neg =>
    rw [decide_eq_false (fun e : l = m => hlm (by rw [e]))]
    have b1 : ((l.length : Int) != (m.length : Int)) = true := by simp; omega
    have b2 : ((l.length : Int) == (m.length : Int)) = false := by simp; omega
    clear hlm
    go_enter Tryd.func38, Tryd.ntmps38
    go_wp2_with fail
    go_ret
    exact ⟨rfl, 0, rfl⟩
  have b1 : ((l.length : Int) != (m.length : Int)) = false := by simp; omega
  have b2 : ((l.length : Int) == (m.length : Int)) = true := by simp; omega
  have hst : SameRel w l m (decide (l = m)) (.int .i64 0) w := ⟨0, by omega, rfl, Drew.refl _, rfl⟩
  generalize decide (l = m) = res at *
  have HLM := Lib.hid hlm
  have hlm1 : l.length ≤ m.length := by omega
  have hlm2 : m.length ≤ l.length := by omega
  clear hlm
  go_enter Tryd.func38, Tryd.ntmps38
  go_wp2_with fail
  go_loopw [13] (fun ti wr => SameRel w l m res ti wr) (fun ti _ => l.length - (intOf ti).toNat)
  case atStart => exact hst
  case round =>
    clear hst
    obtain ⟨k, hk, rfl, ht, hres⟩ := hrel
    have HRES := Lib.hid hres
    clear hres
    by_cases hlt : k < l.length
    case neg =>
      have hlt' : ¬ (k : Int) < (l.length : Int) := by omega
      go_wp2_with fail
      go_ret
      exact ⟨ret_b (by rw [HRES.out, List.drop_eq_nil_of_le (by omega), List.drop_eq_nil_of_le (by omega)]; simp), ht⟩
    have hlt' : (k : Int) < (l.length : Int) := by omega
    have hltm : k < m.length := by omega
    have hltm' : (k : Int) < (m.length : Int) := by omega
    obtain ⟨b, off, rfl, hb⟩ := hv.addr hlt
    obtain ⟨e, off2, rfl, he⟩ := hu.addr hltm
    obtain ⟨c0, c1⟩ := Pairs.at_ (hv.touch0 ht.touch) hlt
    obtain ⟨d0, d1⟩ := Pairs.at_ (hu.touch0 ht.touch) hltm
    have HS := Lib.hid (same_step HLM.out hlt)
    generalize hxk : l[k] = x at *
    generalize hyk : m[k] = y at *
    obtain ⟨xa, xb⟩ := x
    obtain ⟨ya, yb⟩ := y
    clear hxk hyk
    simp only at c0 c1 d0 d1
    clear hv hu
    by_cases hxy : ⟨xa, xb⟩ = (⟨ya, yb⟩ : Cx)
    · have HG : Hid (res = decide (l.drop (k + 1) = m.drop (k + 1))) := Lib.hid (by rw [HRES.out, HS.out, if_pos hxy])
      have q1 : True := trivial
      simp only [Cx.mk.injEq] at hxy
      obtain ⟨rfl, rfl⟩ := hxy
      go_wp2_with fail
      go_quiet (fail)
      go_wp2_with fail
      go_roundw
      case rel => exact ⟨k + 1, hlt, by go_num, ht.drewN _, HG.out⟩
      case measure => simp [intOf]; omega
    · have HG : Hid (res = false) := Lib.hid (by rw [HRES.out, HS.out, if_neg hxy])
      have q1 : True := trivial
      simp only [Cx.mk.injEq] at hxy
      by_cases ha : xa = ya
      case neg =>
        have qa : (xa == ya) = false := by simpa using ha
        have pa : (xa != ya) = true := by simpa using ha
        clear hxy ha
        go_wp2_with fail
        go_quiet (fail)
        go_wp2_with fail
        go_ret
        exact ⟨ret_b HG.out.symm, ht.drewN _⟩
      subst ha
      have hb : ¬ xb = yb := fun e => hxy (by simp [e])
      have qb : (xb == yb) = false := by simpa using hb
      have pb : (xb != yb) = true := by simpa using hb
      clear hxy hb
      go_wp2_with fail
      go_quiet (fail)
      go_wp2_with fail
      go_ret
      exact ⟨ret_b HG.out.symm, ht.drewN _⟩
set_option maxRecDepth 100000 in
set_option maxHeartbeats 8000000 in
theorem sameWinners_any (v u : Value) (l m : List Tx) (w : World) (hv : Trips w v l) (hu : Trips w u m) (hl : l.length ≤ 100000) : Calls Tryd.prog 39 #[v, u] w fun r w' => r = .returned (.bool (decide (l = m))) ∧ ∃ n, w' = w.drewN n := by
  obtain ⟨A, cap, rfl⟩ := hv.form
  obtain ⟨B, cap2, rfl⟩ := hu.form
  obtain ⟨hc1, hc2⟩ := hv.cap
  obtain ⟨hd1, hd2⟩ := hu.cap
  by_cases hlm : l.length = m.length
  case neg =>
    rw [decide_eq_false (fun e : l = m => hlm (by rw [e]))]
    have b1 : ((l.length : Int) != (m.length : Int)) = true := by simp; omega
    have b2 : ((l.length : Int) == (m.length : Int)) = false := by simp; omega
    clear hlm
    go_enter Tryd.func39, Tryd.ntmps39
    go_wp2_with fail
    go_ret
    exact ⟨rfl, 0, rfl⟩
  have b1 : ((l.length : Int) != (m.length : Int)) = false := by simp; omega
  have b2 : ((l.length : Int) == (m.length : Int)) = true := by simp; omega
  have hst : SameRel w l m (decide (l = m)) (.int .i64 0) w := ⟨0, by omega, rfl, Drew.refl _, rfl⟩
  generalize decide (l = m) = res at *
  have HLM := Lib.hid hlm
  have hlm1 : l.length ≤ m.length := by omega
  have hlm2 : m.length ≤ l.length := by omega
  clear hlm
  go_enter Tryd.func39, Tryd.ntmps39
  go_wp2_with fail
  go_loopw [5] (fun ti wr => SameRel w l m res ti wr) (fun ti _ => l.length - (intOf ti).toNat)
  case atStart => exact hst
  case round =>
    clear hst
    obtain ⟨k, hk, rfl, ht, hres⟩ := hrel
    have HRES := Lib.hid hres
    clear hres
    by_cases hlt : k < l.length
    case neg =>
      have hlt' : ¬ (k : Int) < (l.length : Int) := by omega
      go_wp2_with fail
      go_ret
      exact ⟨ret_b (by rw [HRES.out, List.drop_eq_nil_of_le (by omega), List.drop_eq_nil_of_le (by omega)]; simp), ht⟩
    have hlt' : (k : Int) < (l.length : Int) := by omega
    have hltm : k < m.length := by omega
    have hltm' : (k : Int) < (m.length : Int) := by omega
    obtain ⟨b, off, rfl, hb⟩ := hv.addr hlt
    obtain ⟨e, off2, rfl, he⟩ := hu.addr hltm
    obtain ⟨c0, c1, c2⟩ := Trips.at_ (hv.touch0 ht.touch) hlt
    obtain ⟨d0, d1, d2⟩ := Trips.at_ (hu.touch0 ht.touch) hltm
    have HS := Lib.hid (same_step HLM.out hlt)
    generalize hxk : l[k] = x at *
    generalize hyk : m[k] = y at *
    obtain ⟨xa, xb, xc⟩ := x
    obtain ⟨ya, yb, yc⟩ := y
    clear hxk hyk
    simp only at c0 c1 d0 d1
    simp only at c2 d2
    clear hv hu
    by_cases hxy : ⟨xa, xb, xc⟩ = (⟨ya, yb, yc⟩ : Tx)
    · have HG : Hid (res = decide (l.drop (k + 1) = m.drop (k + 1))) := Lib.hid (by rw [HRES.out, HS.out, if_pos hxy])
      have q1 : True := trivial
      simp only [Tx.mk.injEq] at hxy
      obtain ⟨rfl, rfl, rfl⟩ := hxy
      go_wp2_with fail
      go_quiet (fail)
      go_wp2_with fail
      go_roundw
      case rel => exact ⟨k + 1, hlt, by go_num, ht.drewN _, HG.out⟩
      case measure => simp [intOf]; omega
    · have HG : Hid (res = false) := Lib.hid (by rw [HRES.out, HS.out, if_neg hxy])
      have q1 : True := trivial
      simp only [Tx.mk.injEq] at hxy
      by_cases ha : xa = ya
      case neg =>
        have qa : (xa == ya) = false := by simpa using ha
        have pa : (xa != ya) = true := by simpa using ha
        clear hxy ha
        go_wp2_with fail
        go_quiet (fail)
        go_wp2_with fail
        go_ret
        exact ⟨ret_b HG.out.symm, ht.drewN _⟩
      subst ha
      by_cases hb : xb = yb
      case neg =>
        have qb : (xb == yb) = false := by simpa using hb
        have pb : (xb != yb) = true := by simpa using hb
        clear hxy hb
        go_wp2_with fail
        go_quiet (fail)
        go_wp2_with fail
        go_ret
        exact ⟨ret_b HG.out.symm, ht.drewN _⟩
      subst hb
      have hc : ¬ xc = yc := fun e => hxy (by simp [e])
      have qc : (xc == yc) = false := by simpa using hc
      have pc : (xc != yc) = true := by simpa using hc
      clear hxy hc
      go_wp2_with fail
      go_quiet (fail)
      go_wp2_with fail
      go_ret
      exact ⟨ret_b HG.out.symm, ht.drewN _⟩
set_option maxRecDepth 100000 in
set_option maxHeartbeats 8000000 in
theorem sameChoices_any (v u : Value) (l m : List Cx) (w : World) (hv : Pairs w v l) (hu : Pairs w u m) (hl : l.length ≤ 100000) : Calls Tryd.prog 40 #[v, u] w fun r w' => r = .returned (.bool (decide (l = m))) ∧ ∃ n, w' = w.drewN n := by
  obtain ⟨A, cap, rfl⟩ := hv.form
  obtain ⟨B, cap2, rfl⟩ := hu.form
  obtain ⟨hc1, hc2⟩ := hv.cap
  obtain ⟨hd1, hd2⟩ := hu.cap
  by_cases hlm : l.length = m.length
  case neg =>
    rw [decide_eq_false (fun e : l = m => hlm (by rw [e]))]
    have b1 : ((l.length : Int) != (m.length : Int)) = true := by simp; omega
    have b2 : ((l.length : Int) == (m.length : Int)) = false := by simp; omega
    clear hlm
    go_enter Tryd.func40, Tryd.ntmps40
    go_wp2_with fail
    go_ret
    exact ⟨rfl, 0, rfl⟩
  have b1 : ((l.length : Int) != (m.length : Int)) = false := by simp; omega
  have b2 : ((l.length : Int) == (m.length : Int)) = true := by simp; omega
  have hst : SameRel w l m (decide (l = m)) (.int .i64 0) w := ⟨0, by omega, rfl, Drew.refl _, rfl⟩
  generalize decide (l = m) = res at *
  have HLM := Lib.hid hlm
  have hlm1 : l.length ≤ m.length := by omega
  have hlm2 : m.length ≤ l.length := by omega
  clear hlm
  go_enter Tryd.func40, Tryd.ntmps40
  go_wp2_with fail
  go_loopw [5] (fun ti wr => SameRel w l m res ti wr) (fun ti _ => l.length - (intOf ti).toNat)
  case atStart => exact hst
  case round =>
    clear hst
    obtain ⟨k, hk, rfl, ht, hres⟩ := hrel
    have HRES := Lib.hid hres
    clear hres
    by_cases hlt : k < l.length
    case neg =>
      have hlt' : ¬ (k : Int) < (l.length : Int) := by omega
      go_wp2_with fail
      go_ret
      exact ⟨ret_b (by rw [HRES.out, List.drop_eq_nil_of_le (by omega), List.drop_eq_nil_of_le (by omega)]; simp), ht⟩
    have hlt' : (k : Int) < (l.length : Int) := by omega
    have hltm : k < m.length := by omega
    have hltm' : (k : Int) < (m.length : Int) := by omega
    obtain ⟨b, off, rfl, hb⟩ := hv.addr hlt
    obtain ⟨e, off2, rfl, he⟩ := hu.addr hltm
    obtain ⟨c0, c1⟩ := Pairs.at_ (hv.touch0 ht.touch) hlt
    obtain ⟨d0, d1⟩ := Pairs.at_ (hu.touch0 ht.touch) hltm
    have HS := Lib.hid (same_step HLM.out hlt)
    generalize hxk : l[k] = x at *
    generalize hyk : m[k] = y at *
    obtain ⟨xa, xb⟩ := x
    obtain ⟨ya, yb⟩ := y
    clear hxk hyk
    simp only at c0 c1 d0 d1
    clear hv hu
    by_cases hxy : ⟨xa, xb⟩ = (⟨ya, yb⟩ : Cx)
    · have HG : Hid (res = decide (l.drop (k + 1) = m.drop (k + 1))) := Lib.hid (by rw [HRES.out, HS.out, if_pos hxy])
      have q1 : True := trivial
      simp only [Cx.mk.injEq] at hxy
      obtain ⟨rfl, rfl⟩ := hxy
      go_wp2_with fail
      go_quiet (fail)
      go_wp2_with fail
      go_roundw
      case rel => exact ⟨k + 1, hlt, by go_num, ht.drewN _, HG.out⟩
      case measure => simp [intOf]; omega
    · have HG : Hid (res = false) := Lib.hid (by rw [HRES.out, HS.out, if_neg hxy])
      have q1 : True := trivial
      simp only [Cx.mk.injEq] at hxy
      by_cases ha : xa = ya
      case neg =>
        have qa : (xa == ya) = false := by simpa using ha
        have pa : (xa != ya) = true := by simpa using ha
        clear hxy ha
        go_wp2_with fail
        go_quiet (fail)
        go_wp2_with fail
        go_ret
        exact ⟨ret_b HG.out.symm, ht.drewN _⟩
      subst ha
      have hb : ¬ xb = yb := fun e => hxy (by simp [e])
      have qb : (xb == yb) = false := by simpa using hb
      have pb : (xb != yb) = true := by simpa using hb
      clear hxy hb
      go_wp2_with fail
      go_quiet (fail)
      go_wp2_with fail
      go_ret
      exact ⟨ret_b HG.out.symm, ht.drewN _⟩
def sameB (a b : Ox) : Bool := decide (a.W = b.W) && (decide (a.X = b.X) && (decide (a.A = b.A) && (a.cost == b.cost)))
set_option maxRecDepth 100000 in
set_option maxHeartbeats 8000000 in
theorem equal_any (o o2 : Ox) (w : World) (ho : o.Ok w) (ho2 : o2.Ok w) (hs : o.small) (hs' : o2.small) : Calls Tryd.prog 19 #[o.val, o2.val] w fun r w' => r = .returned (.bool (sameB o o2)) ∧ Touch [] w w' := by
  obtain ⟨hW, hX, hA, hf⟩ := ho
  obtain ⟨hV, hY, hB, hg⟩ := ho2
  obtain ⟨hs1, hs2, hs3⟩ := hs
  obtain ⟨hz1, hz2, hz3⟩ := hs'
  obtain ⟨wv, xv, av, W, X, A, cost⟩ := o
  obtain ⟨wv2, xv2, av2, V, Y, B, cost2⟩ := o2
  simp only [Ox.val, sameB] at *
  obtain ⟨Aw, cw, rfl⟩ := hW.form
  obtain ⟨Ax, cx, rfl⟩ := hX.form
  obtain ⟨Aa, ca, rfl⟩ := hA.form
  obtain ⟨Bw, dw, rfl⟩ := hV.form
  obtain ⟨Bx, dx, rfl⟩ := hY.form
  obtain ⟨Ba, da, rfl⟩ := hB.form
  have ht0 : Touch [] w ((w.alloc (.cells #[.slice Aw W.length cw, .slice Ax X.length cx, .slice Aa A.length ca, .int .i64 cost] 26)).alloc (.cells #[.slice Bw V.length dw, .slice Bx Y.length dx, .slice Ba B.length da, .int .i64 cost2] 26)) := ((Touch.refl _ _).alloc _).alloc _
  have H1 := Lib.hid (eqTrips_any _ _ W V ((w.alloc (.cells #[.slice Aw W.length cw, .slice Ax X.length cx, .slice Aa A.length ca, .int .i64 cost] 26)).alloc (.cells #[.slice Bw V.length dw, .slice Bx Y.length dx, .slice Ba B.length da, .int .i64 cost2] 26)) (hW.touch0 ht0) (hV.touch0 ht0) (by omega))
  have H2 := Lib.hid (fun n => eqNums_any _ _ X Y (((w.alloc (.cells #[.slice Aw W.length cw, .slice Ax X.length cx, .slice Aa A.length ca, .int .i64 cost] 26)).alloc (.cells #[.slice Bw V.length dw, .slice Bx Y.length dx, .slice Ba B.length da, .int .i64 cost2] 26)).drewN n) (hX.touch0 (ht0.drewN n)) (hY.touch0 (ht0.drewN n)) (by omega))
  have H3 := Lib.hid (fun n => eqPairs_any _ _ A B (((w.alloc (.cells #[.slice Aw W.length cw, .slice Ax X.length cx, .slice Aa A.length ca, .int .i64 cost] 26)).alloc (.cells #[.slice Bw V.length dw, .slice Bx Y.length dx, .slice Ba B.length da, .int .i64 cost2] 26)).drewN n) (hA.touch0 (ht0.drewN n)) (hB.touch0 (ht0.drewN n)) (by omega))
  have HT := Lib.hid (fun n => ht0.drewN n)
  generalize decide (W = V) = e1 at *
  generalize decide (X = Y) = e2 at *
  generalize decide (A = B) = e3 at *
  clear hW hX hA hV hY hB ht0
  cases e1 with
  | false =>
    simp only [Bool.false_and]
    go_enter Tryd.func19, Tryd.ntmps19
    go_wp2_with fail
    refine H1.out.mono ?_
    rintro r w1 ⟨rfl, n1, rfl⟩
    go_wp2_with fail
    go_ret
    exact ⟨rfl, HT.out _⟩
  | true =>
  cases e2 with
  | false =>
    simp only [Bool.false_and, Bool.and_false]
    go_enter Tryd.func19, Tryd.ntmps19
    go_wp2_with fail
    refine H1.out.mono ?_
    rintro r w1 ⟨rfl, n1, rfl⟩
    go_wp2_with fail
    refine (H2.out n1).mono ?_
    rintro r w1 ⟨rfl, n2, rfl⟩
    rw [World.drewN_drewN]
    go_wp2_with fail
    go_ret
    exact ⟨rfl, HT.out _⟩
  | true =>
  cases e3 with
  | false =>
    simp only [Bool.false_and, Bool.and_false]
    go_enter Tryd.func19, Tryd.ntmps19
    go_wp2_with fail
    refine H1.out.mono ?_
    rintro r w1 ⟨rfl, n1, rfl⟩
    go_wp2_with fail
    refine (H2.out n1).mono ?_
    rintro r w1 ⟨rfl, n2, rfl⟩
    rw [World.drewN_drewN]
    go_wp2_with fail
    refine (H3.out (n1 + n2)).mono ?_
    rintro r w1 ⟨rfl, n3, rfl⟩
    rw [World.drewN_drewN]
    go_wp2_with fail
    go_ret
    exact ⟨rfl, HT.out _⟩
  | true =>
  simp only [Bool.true_and]
  generalize hq : (cost == cost2) = q
  go_enter Tryd.func19, Tryd.ntmps19
  go_wp2_with fail
  refine H1.out.mono ?_
  rintro r w1 ⟨rfl, n1, rfl⟩
  go_wp2_with fail
  refine (H2.out n1).mono ?_
  rintro r w1 ⟨rfl, n2, rfl⟩
  rw [World.drewN_drewN]
  go_wp2_with fail
  refine (H3.out (n1 + n2)).mono ?_
  rintro r w1 ⟨rfl, n3, rfl⟩
  rw [World.drewN_drewN]
  go_wp2_with fail
  go_ret
  exact ⟨rfl, HT.out _⟩
end Go.Proofs.YtpbknnkobhjjcaaDoor
