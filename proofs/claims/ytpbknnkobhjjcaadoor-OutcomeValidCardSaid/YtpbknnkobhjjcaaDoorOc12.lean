/- Entrants and their ceiling. -/
import Derived.Test.YtpbknnkobhjjcaaDoorOc11
namespace Go.Proofs.YtpbknnkobhjjcaaDoor
open Go.RowKit
set_option linter.unusedSimpArgs false

def goodE (l : List Tx) (op : Int) : Bool := eOk l && (decide (1 ≤ op) && decide (op ≤ 1000000000))
def sumO (op : Int) : List Tx → Int
  | [] => 0
  | x :: xs => (offer x.c op x.b 0).1 + sumO op xs
theorem ok_ents {l : List Tx} : ∀ {last : Int}, okList eBad Tx.a last l = true → ∀ x ∈ l, ¬ eBad x := by
  induction l with
  | nil => intro last _ x hx; cases hx
  | cons y l ih =>
    intro last h x hx
    simp only [okList] at h
    split at h
    · cases h
    · rename_i hb
      rcases List.mem_cons.1 hx with rfl | hx
      · exact fun e => hb (.inr e)
      · exact ih h x hx
theorem offer_ok {vol op home opt : Int} (h1 : 1 ≤ vol) (h2 : vol ≤ 1000000) (h3 : 1 ≤ op) (h4 : op ≤ 1000000000) (h5 : 1 ≤ home) (h6 : home ≤ 3) (h7 : 0 ≤ opt) (h8 : opt ≤ home) : (offer vol op home opt).2 = 0 ∧ 0 ≤ (offer vol op home opt).1 ∧ (offer vol op home opt).1 ≤ 1000000000 := by
  unfold offer
  rw [if_neg (by unfold offBad; omega), if_neg (by unfold redBad; omega)]
  have hm := worth_mono h7 h8 h6
  have r1 : 0 ≤ worth home - worth opt := by omega
  have r2 : worth home - worth opt ≤ 1000 := by omega
  generalize worth home - worth opt = rs at *
  have m1 : 0 ≤ vol * op := Int.mul_nonneg (by omega) (by omega)
  have m2 : vol * op ≤ 1000000 * 1000000000 := Int.mul_le_mul h2 h4 (by omega) (by omega)
  have m3 : 0 ≤ vol * op * rs := Int.mul_nonneg m1 r1
  have m4 : vol * op * rs ≤ 1000000 * 1000000000 * 1000 := Int.mul_le_mul m2 r2 r1 (by omega)
  simp only
  generalize vol * op * rs = z at *
  refine ⟨trivial, ?_, ?_⟩ <;> omega
theorem sumO_step {l : List Tx} {op : Int} {k : Nat} (hk : k < l.length) : sumO op (l.drop k) = (offer l[k].c op l[k].b 0).1 + sumO op (l.drop (k + 1)) := by rw [List.drop_eq_getElem_cons hk]; rfl
def ceilRes (l : List Tx) (op : Int) : Int × Int := if goodE l op = true then (sumO op l, 0) else (0, 2)
def CRel (w : World) (l : List Tx) (op tot : Int) (tn ti : Value) (wr : World) : Prop := ∃ (k : Nat) (n : Int), k ≤ l.length ∧ ti = .int .i64 k ∧ tn = .int .i64 n ∧ 0 ≤ n ∧ n ≤ k * 1000000000 ∧ tot = n + sumO op (l.drop k) ∧ Touch [] w wr
set_option maxRecDepth 100000 in
set_option maxHeartbeats 8000000 in
theorem defined_any (v : Value) (l : List Tx) (op : Int) (w : World) (hv : Trips w v l) (hl : l.length ≤ 1000) : Calls Tryd.prog 25 #[v, .int .i64 op] w fun r w' => r = .returned (.bool (goodE l op)) ∧ Touch [] w w' := by
  obtain ⟨A, cap, rfl⟩ := hv.form
  have HV := Lib.hid (revValid_any _ l w hv (by omega))
  unfold goodE
  generalize eOk l = q at *
  cases q with
  | false =>
    simp only [Bool.false_and]
    go_enter Tryd.func25, Tryd.ntmps25
    go_wp2_with fail
    refine HV.out.mono ?_
    rintro r w1 ⟨rfl, ht1⟩
    go_wp2_with fail
    go_ret
    exact ⟨rfl, ht1⟩
  | true =>
  by_cases h1 : 1 ≤ op
  case neg =>
    rw [decide_eq_false h1]
    simp only [Bool.false_and, Bool.and_false]
    go_enter Tryd.func25, Tryd.ntmps25
    go_wp2_with fail
    refine HV.out.mono ?_
    rintro r w1 ⟨rfl, ht1⟩
    go_wp2_with fail
    go_ret
    exact ⟨rfl, ht1⟩
  by_cases h2 : op ≤ 1000000000
  case neg =>
    rw [decide_eq_false h2]
    simp only [Bool.false_and, Bool.and_false]
    have d2 : decide (op ≤ 1000000000) = false := decide_eq_false h2
    go_enter Tryd.func25, Tryd.ntmps25
    go_wp2_with fail
    refine HV.out.mono ?_
    rintro r w1 ⟨rfl, ht1⟩
    go_wp2_with fail
    go_ret
    exact ⟨rfl, ht1⟩
  rw [decide_eq_true h1, decide_eq_true h2]
  simp only [Bool.and_true]
  go_enter Tryd.func25, Tryd.ntmps25
  go_wp2_with fail
  refine HV.out.mono ?_
  rintro r w1 ⟨rfl, ht1⟩
  go_wp2_with fail
  go_ret
  exact ⟨rfl, ht1⟩
set_option maxRecDepth 100000 in
set_option maxHeartbeats 8000000 in
theorem refGood_any (v : Value) (l : List Tx) (op : Int) (w : World) (hv : Trips w v l) (hl : l.length ≤ 1000) : Calls Tryd.prog 27 #[v, .int .i64 op] w fun r w' => r = .returned (.bool (goodE l op)) ∧ Touch [] w w' := by
  obtain ⟨A, cap, rfl⟩ := hv.form
  have HV := Lib.hid (refValid31_any _ l w hv (by omega))
  unfold goodE
  generalize eOk l = q at *
  cases q with
  | false =>
    simp only [Bool.false_and]
    go_enter Tryd.func27, Tryd.ntmps27
    go_wp2_with fail
    refine HV.out.mono ?_
    rintro r w1 ⟨rfl, ht1⟩
    go_wp2_with fail
    go_ret
    exact ⟨rfl, ht1⟩
  | true =>
  by_cases h1 : 1 ≤ op
  case neg =>
    rw [decide_eq_false h1]
    simp only [Bool.false_and, Bool.and_false]
    go_enter Tryd.func27, Tryd.ntmps27
    go_wp2_with fail
    refine HV.out.mono ?_
    rintro r w1 ⟨rfl, ht1⟩
    go_wp2_with fail
    go_ret
    exact ⟨rfl, ht1⟩
  by_cases h2 : op ≤ 1000000000
  case neg =>
    rw [decide_eq_false h2]
    simp only [Bool.false_and, Bool.and_false]
    have d2 : decide (op ≤ 1000000000) = false := decide_eq_false h2
    go_enter Tryd.func27, Tryd.ntmps27
    go_wp2_with fail
    refine HV.out.mono ?_
    rintro r w1 ⟨rfl, ht1⟩
    go_wp2_with fail
    go_ret
    exact ⟨rfl, ht1⟩
  rw [decide_eq_true h1, decide_eq_true h2]
  simp only [Bool.and_true]
  go_enter Tryd.func27, Tryd.ntmps27
  go_wp2_with fail
  refine HV.out.mono ?_
  rintro r w1 ⟨rfl, ht1⟩
  go_wp2_with fail
  go_ret
  exact ⟨rfl, ht1⟩
set_option maxRecDepth 100000 in
set_option maxHeartbeats 8000000 in
theorem ceiling_any (v : Value) (l : List Tx) (op : Int) (w : World) (hw : Worths w) (hv : Trips w v l) (hl : l.length ≤ 1000) : Calls Tryd.prog 13 #[v, .int .i64 op] w (PairPost (ceilRes l op) w) := by
  obtain ⟨A, cap, rfl⟩ := hv.form
  obtain ⟨hc1, hc2⟩ := hv.cap
  have HV := Lib.hid (defined_any _ l op w hv hl)
  have HB : Hid (goodE l op = false → ceilRes l op = (0, 2)) := Lib.hid (fun h => by unfold ceilRes; rw [h]; rfl)
  have HG : Hid (goodE l op = true → ceilRes l op = (sumO op l, 0)) := Lib.hid (fun h => by unfold ceilRes; rw [h]; rfl)
  have HE : Hid (goodE l op = true → (∀ x ∈ l, ¬ eBad x) ∧ 1 ≤ op ∧ op ≤ 1000000000) := Lib.hid (fun h => by
    unfold goodE eOk at h
    rw [Bool.and_eq_true, Bool.and_eq_true, decide_eq_true_eq, decide_eq_true_eq] at h
    exact ⟨ok_ents h.1, h.2.1, h.2.2⟩)
  generalize ceilRes l op = x at *
  generalize goodE l op = q at *
  cases q with
  | false =>
    have HX := Lib.hid (HB.out rfl)
    clear HB HG HE
    go_enter Tryd.func13, Tryd.ntmps13
    go_wp2_with fail
    refine HV.out.mono ?_
    rintro r w1 ⟨rfl, ht1⟩
    go_wp2_with fail
    go_ret2
    exact PairPost.mk_ HX.out ht1
  | true =>
  have HX := Lib.hid (HG.out rfl)
  obtain ⟨he, ho1, ho2⟩ := HE.out rfl
  have HEE := Lib.hid he
  have HST : Hid (sumO op l = 0 + sumO op (l.drop 0)) := Lib.hid (by simp)
  generalize sumO op l = tot at *
  clear HB HG HE he
  go_enter Tryd.func13, Tryd.ntmps13
  go_wp2_with fail
  refine HV.out.mono ?_
  rintro r w1 ⟨rfl, ht1⟩
  go_wp2_with fail
  go_loopw [6, 17] (fun tn ti wr => CRel w l op tot tn ti wr) (fun _ ti _ => l.length - (intOf ti).toNat)
  case atStart => exact ⟨0, 0, by omega, rfl, rfl, by omega, by omega, HST.out, ht1⟩
  case round =>
    clear HST ht1
    obtain ⟨k, n, hk, rfl, rfl, hn0, hn1, htot, ht⟩ := hrel
    have HT := Lib.hid htot
    clear htot
    by_cases hlt : k < l.length
    case neg =>
      have hlt' : ¬ (k : Int) < (l.length : Int) := by omega
      go_wp2_with fail
      go_ret2
      exact PairPost.mk_ (by rw [HX.out, HT.out, List.drop_eq_nil_of_le (by omega)]; simp [sumO]) ht
    have hlt' : (k : Int) < (l.length : Int) := by omega
    obtain ⟨b, off, rfl, hb⟩ := hv.addr hlt
    obtain ⟨c0, c1, c2⟩ := Trips.at_ (hv.touch0 ht) hlt
    have hb' : b < wr.heap.size := by have := ht.size; omega
    have hnb := HEE.out l[k] (List.getElem_mem hlt)
    have HS := Lib.hid (sumO_step (op := op) hlt)
    generalize hxk : l[k] = x at *
    obtain ⟨xa, xb, xc⟩ := x
    simp only at c0 c1 c2 HS
    unfold eBad at hnb
    simp only at hnb
    have hof := offer_ok (vol := xc) (op := op) (home := xb) (opt := 0) (by omega) (by omega) ho1 ho2 (by omega) (by omega) (by omega) (by omega)
    have HO := Lib.hid (offer_any xc op xb 0 (wr.alloc (.cells #[.int .i64 xa, .int .i64 xb, .int .i64 xc] 52)) (hw.touch (ht.alloc _)))
    generalize offer xc op xb 0 = y at *
    obtain ⟨y1, y2⟩ := y
    simp only at hof HS
    obtain ⟨hy2, hy0, hy1⟩ := hof
    subst hy2
    clear hxk hv hnb
    go_wp2_with fail
    refine HO.out.mono ?_
    rintro r w2 ⟨rfl, ht2⟩
    simp only
    go_wp2_with fail
    go_roundw
    case rel => exact ⟨k + 1, n + y1, by omega, by go_num, rfl, by omega, by omega, by rw [HT.out, HS.out]; omega, (ht.alloc _).then0 ht2⟩
    case measure => simp [intOf]; omega
set_option maxRecDepth 100000 in
set_option maxHeartbeats 8000000 in
theorem refCeiling_any (v : Value) (l : List Tx) (op : Int) (w : World) (hv : Trips w v l) (hl : l.length ≤ 1000) : Calls Tryd.prog 14 #[v, .int .i64 op] w (PairPost (ceilRes l op) w) := by
  obtain ⟨A, cap, rfl⟩ := hv.form
  obtain ⟨hc1, hc2⟩ := hv.cap
  have HV := Lib.hid (refGood_any _ l op w hv hl)
  have HB : Hid (goodE l op = false → ceilRes l op = (0, 2)) := Lib.hid (fun h => by unfold ceilRes; rw [h]; rfl)
  have HG : Hid (goodE l op = true → ceilRes l op = (sumO op l, 0)) := Lib.hid (fun h => by unfold ceilRes; rw [h]; rfl)
  have HE : Hid (goodE l op = true → (∀ x ∈ l, ¬ eBad x) ∧ 1 ≤ op ∧ op ≤ 1000000000) := Lib.hid (fun h => by
    unfold goodE eOk at h
    rw [Bool.and_eq_true, Bool.and_eq_true, decide_eq_true_eq, decide_eq_true_eq] at h
    exact ⟨ok_ents h.1, h.2.1, h.2.2⟩)
  generalize ceilRes l op = x at *
  generalize goodE l op = q at *
  cases q with
  | false =>
    have HX := Lib.hid (HB.out rfl)
    clear HB HG HE
    go_enter Tryd.func14, Tryd.ntmps14
    go_wp2_with fail
    refine HV.out.mono ?_
    rintro r w1 ⟨rfl, ht1⟩
    go_wp2_with fail
    go_ret2
    exact PairPost.mk_ HX.out ht1
  | true =>
  have HX := Lib.hid (HG.out rfl)
  obtain ⟨he, ho1, ho2⟩ := HE.out rfl
  have HEE := Lib.hid he
  have HST : Hid (sumO op l = 0 + sumO op (l.drop 0)) := Lib.hid (by simp)
  generalize sumO op l = tot at *
  clear HB HG HE he
  go_enter Tryd.func14, Tryd.ntmps14
  go_wp2_with fail
  refine HV.out.mono ?_
  rintro r w1 ⟨rfl, ht1⟩
  go_wp2_with fail
  go_loopw [6, 7] (fun tn ti wr => CRel w l op tot tn ti wr) (fun _ ti _ => l.length - (intOf ti).toNat)
  case atStart => exact ⟨0, 0, by omega, rfl, rfl, by omega, by omega, HST.out, ht1⟩
  case round =>
    clear HST ht1
    obtain ⟨k, n, hk, rfl, rfl, hn0, hn1, htot, ht⟩ := hrel
    have HT := Lib.hid htot
    clear htot
    by_cases hlt : k < l.length
    case neg =>
      have hlt' : ¬ (k : Int) < (l.length : Int) := by omega
      go_wp2_with fail
      go_ret2
      exact PairPost.mk_ (by rw [HX.out, HT.out, List.drop_eq_nil_of_le (by omega)]; simp [sumO]) ht
    have hlt' : (k : Int) < (l.length : Int) := by omega
    obtain ⟨b, off, rfl, hb⟩ := hv.addr hlt
    obtain ⟨c0, c1, c2⟩ := Trips.at_ (hv.touch0 ht) hlt
    have hb' : b < wr.heap.size := by have := ht.size; omega
    have hnb := HEE.out l[k] (List.getElem_mem hlt)
    have HS := Lib.hid (sumO_step (op := op) hlt)
    generalize hxk : l[k] = x at *
    obtain ⟨xa, xb, xc⟩ := x
    simp only at c0 c1 c2 HS
    unfold eBad at hnb
    simp only at hnb
    have hof := offer_ok (vol := xc) (op := op) (home := xb) (opt := 0) (by omega) (by omega) ho1 ho2 (by omega) (by omega) (by omega) (by omega)
    have HO := Lib.hid (fun n => refOffer_any xc op xb 0 (wr.drewN n))
    generalize offer xc op xb 0 = y at *
    obtain ⟨y1, y2⟩ := y
    simp only at hof HS
    obtain ⟨hy2, hy0, hy1⟩ := hof
    subst hy2
    unfold PairSame at HO
    simp only at HO
    clear hxk hv hnb
    go_wp2_with fail
    go_quiet ((go_at_call 28; exact quiet_left (HO.out _)))
    go_wp2_with fail
    go_roundw
    case rel => exact ⟨k + 1, n + y1, by omega, by go_num, rfl, by omega, by omega, by rw [HT.out, HS.out]; omega, ht.drewN _⟩
    case measure => simp [intOf]; omega
end Go.Proofs.YtpbknnkobhjjcaaDoor
