/- quotientWord. -/
import Derived.Test.YtedpaajpfaoffaaGreatDoorNwB
import Derived.Test.YtedpaajpfaoffaaGreatDoorNq1
set_option linter.all false
set_option maxHeartbeats 8000000
set_option maxRecDepth 100000
namespace Go.Proofs.YtedpaajpfaoffaaGreatDoor
open Go.RowKit
theorem top2 {xs : List Nat} {m : Nat} (h : xs.length = m + 2) : nv B32 xs = (xs[m + 1]'(by omega) * B32 + xs[m]'(by omega)) * B32 ^ m + nv B32 (xs.take m) := by
 rw [nv_split xs m (by omega), nv_drop (i := m) (by omega), nv_drop (i := m + 1) (by omega), List.drop_of_length_le (by omega)]
 simp only [nv, Nat.mul_zero, Nat.add_zero]
 rw [Nat.mul_comm (_ * B32 + _) (B32 ^ m), Nat.mul_comm B32, Nat.add_comm (xs[m]'(by omega))]
 omega
theorem top3 {xs : List Nat} {m : Nat} (h : xs.length = m + 3) : nv B32 xs = ((xs[m + 2]'(by omega) * B32 + xs[m + 1]'(by omega)) * B32 + xs[m]'(by omega)) * B32 ^ m + nv B32 (xs.take m) := by
 rw [nv_split xs m (by omega), nv_drop (i := m) (by omega), nv_drop (i := m + 1) (by omega), nv_drop (i := m + 2) (by omega), List.drop_of_length_le (by omega)]
 simp only [nv, Nat.mul_zero, Nat.add_zero]
 rw [Nat.mul_comm ((_ * B32 + _) * B32 + _) (B32 ^ m), Nat.mul_comm B32 (_ + B32 * _), Nat.mul_comm B32, Nat.add_comm (xs[m + 1]'(by omega)), Nat.add_comm (xs[m]'(by omega))]
 omega
theorem q_start {us vs : List Nat} {m : Nat} (hus : us.length = m + 3) (hvl : vs.length = m + 2) (hub : Below_ B32 us) (hvb : Below_ B32 vs) (hhigh : B32 ≤ 2 * vs[m + 1]'(by omega)) (hlt : nv B32 us < B32 * nv B32 vs) :
  Est B32 (vs[m + 1]'(by omega)) (vs[m]'(by omega)) (us[m]'(by omega)) (B32 ^ m) (nv B32 (vs.take m)) (nv B32 (us.take m)) (us[m + 2]'(by omega) * B32 + us[m + 1]'(by omega)) (nv B32 us / nv B32 vs)
   ((us[m + 2]'(by omega) * B32 + us[m + 1]'(by omega)) / vs[m + 1]'(by omega)) ((us[m + 2]'(by omega) * B32 + us[m + 1]'(by omega)) % vs[m + 1]'(by omega)) := by
 have l1 := nv_lt (below_take hvb m)
 have l2 := nv_lt (below_take hub m)
 rw [List.length_take, Nat.min_eq_left (by omega)] at l1 l2
 have hlt2 := hlt
 rw [top3 hus, top2 hvl] at hlt2 ⊢
 exact Est.start B32_le hhigh (hvb _ (List.getElem_mem _)) (hub _ (List.getElem_mem _)) l1 l2 hlt2
def QRel1 (vh v2 u2 m top : Nat) (us vs : List Nat) (w : World) (tq tr : Value) (wr : World) : Prop := ∃ q r : Nat, tq = .int .u64 q ∧ tr = .int .u64 r ∧ Hid (Est B32 vh v2 u2 (B32 ^ m) (nv B32 (vs.take m)) (nv B32 (us.take m)) top (nv B32 us / nv B32 vs) q r) ∧ q ≤ 4294967297 ∧ r < 4294967296 ∧ Touch [] w wr
theorem q_right {us us1 vs : List Nat} {q : Nat} (hV : 0 < nv B32 vs) (h : nv B32 us1 + q * nv B32 vs = nv B32 us + B32 ^ (vs.length + 1) * 0) (hQ : nv B32 us / nv B32 vs ≤ q) : q = nv B32 us / nv B32 vs ∧ nv B32 us1 = nv B32 us % nv B32 vs :=
 took_right hV (by rw [h, Nat.mul_zero, Nat.add_zero]) hQ
theorem q_one {us us1 vs : List Nat} {q : Nat} (h : nv B32 us1 + q * nv B32 vs = nv B32 us + B32 ^ (vs.length + 1) * 1) (hb : Below_ B32 us1) (hl : us1.length = vs.length + 1) : 1 ≤ q := by
 rcases Nat.eq_zero_or_pos q with h7 | h7
 ·rw [h7, Nat.zero_mul, Nat.add_zero, Nat.mul_one] at h
  have h8 := nv_lt hb
  rw [hl, h] at h8
  exact absurd h8 (Nat.not_lt.2 (Nat.le_add_left _ _))
 ·exact h7
theorem mid_set (pre us post : List Nat) (i x : Nat) (hi : i < us.length) : (pre ++ us ++ post).set (pre.length + i) x = pre ++ us.set i x ++ post := by
 rw [List.set_append_left _ _ (by simp; omega), List.set_append_right _ _ (by omega)]
 simp
theorem mid_get (pre us post : List Nat) (i : Nat) (hi : i < us.length) : (pre ++ us ++ post)[pre.length + i]'(by simp; omega) = us[i] := by
 rw [List.getElem_append_left (by simp; omega), List.getElem_append_right (by omega)]
 simp
theorem WB.mid {w : World} {g : Nat} {pre us post : List Nat} (h : WB w g (pre ++ us ++ post)) {o : Nat} (ho : pre.length = o) {i : Nat} (hi : i < us.length) : w.cell? ⟨g, o + i, none⟩ = some (.int .u32 (us[i] : Int)) := by
 subst ho
 have := h.at_ (k := pre.length + i) (by simp; omega)
 rw [mid_get _ _ _ _ hi] at this
 exact this
theorem WB.midSet {w : World} {g : Nat} {pre us post : List Nat} (h : WB w g (pre ++ us ++ post)) {o : Nat} (ho : pre.length = o) {i : Nat} (hi : i < us.length) (x : Nat) : WB (w.setCell ⟨g, o + i, none⟩ (.int .u32 (x : Int))) g (pre ++ us.set i x ++ post) := by
 subst ho
 have := h.set (pre.length + i) x
 rw [mid_set _ _ _ _ _ hi] at this
 exact this
theorem borrow_three (x y c : Nat) (hx : x < 4294967296) (hy : y < 4294967296) (hc : c ≤ 1) : ∃ v c' : Nat, v < B32 ∧ c' ≤ 1 ∧ v + y + c = x + B32 * c' ∧ IntKind.u64.wrap (IntKind.u64.wrap ((x : Int) - y) - c) / 9223372036854775808 = (c' : Int) ∧ IntKind.u64.wrap (IntKind.u64.wrap ((x : Int) - y) - c) % 4294967296 = (v : Int) := by
 rw [u64w, u64w]
 unfold B32
 rcases Nat.lt_or_ge x (c + y) with h | h
 ·exact ⟨x + 4294967296 - c - y, 1, by omega, by omega, by omega, by omega, by omega⟩
 ·exact ⟨x - c - y, 0, by omega, by omega, by omega, by omega, by omega⟩
def QRel2 (g o m q : Nat) (pre us post vs : List Nat) (w : World) (tb tc ti : Value) (wr : World) : Prop := ∃ (i c br : Nat) (us' : List Nat), i ≤ m + 2 ∧ ti = .int .i64 i ∧ tc = .int .u64 c ∧ tb = .int .u64 br ∧ WB wr g (pre ++ us' ++ post) ∧ Hid (Took B32 i q us vs us' c br) ∧ Touch [g] w wr
def QRel3 (g o m : Nat) (pre us1 post vs : List Nat) (w : World) (tc ti : Value) (wr : World) : Prop := ∃ (i c : Nat) (us' : List Nat), i ≤ m + 2 ∧ ti = .int .i64 i ∧ tc = .int .u64 c ∧ WB wr g (pre ++ us' ++ post) ∧ Hid (Put B32 i us1 vs us' c) ∧ Touch [g] w wr
theorem quotientWord_any (g o cap : Nat) (v : Value) (pre us post vs : List Nat) (m : Nat) (w : World) (hW : WB w g (pre ++ us ++ post)) (hpre : pre.length = o) (hus : us.length = m + 3) (hub : Below_ B32 us) (hv : Words w v vs) (hvl : vs.length = m + 2) (hvg : g ∉ rb v)
  (hcap : m + 3 ≤ cap) (hm : m ≤ 1000000) (hhigh : B32 ≤ 2 * vs[m + 1]'(by omega)) (hlt : nv B32 us < B32 * nv B32 vs) :
  Calls Tryz.prog 173 #[.slice (some ⟨g, o, none⟩) (m + 3) cap, v] w fun r w' => r = .returned (.int .u32 ((nv B32 us / nv B32 vs : Nat) : Int)) ∧ (∃ us', WB w' g (pre ++ us' ++ post) ∧ us'.length = m + 3 ∧ Below_ B32 us' ∧ nv B32 us' = nv B32 us % nv B32 vs) ∧ Touch [g] w w' := by
 obtain ⟨A, cap', rfl⟩ := hv.form
 obtain ⟨hc1, hc2⟩ := hv.cap
 have hvb := hv.below
 have hst := q_start hus hvl hub hvb hhigh hlt
 have hv1 : m + 1 < vs.length := by omega
 have hv2 : m < vs.length := by omega
 obtain ⟨b, off, rfl, hb⟩ := hv.addr hv1
 have cv1 := Words.at_ hv hv1
 have cv2 := Words.at_ hv hv2
 have lw : (pre ++ us ++ post).length = o + (m + 3) + post.length := by simp [hpre, hus]; omega
 have uat : ∀ k (hk : k < m + 3), (pre ++ us ++ post)[o + k]'(by omega) = us[k]'(by omega) := fun k hk => by
  rw [List.getElem_append_left (by simp [hpre, hus]; omega), List.getElem_append_right (by omega)]
  simp [hpre]
 have cu0 := hW.at_ (k := o + (m + 2)) (by omega)
 have cu1 := hW.at_ (k := o + (m + 1)) (by omega)
 have cu2 := hW.at_ (k := o + m) (by omega)
 rw [uat _ (by omega)] at cu0 cu1 cu2
 have bv1 := hvb _ (List.getElem_mem hv1)
 have bv2 := hvb _ (List.getElem_mem hv2)
 have bu0 := hub _ (List.getElem_mem (show m + 2 < us.length by omega))
 have bu1 := hub _ (List.getElem_mem (show m + 1 < us.length by omega))
 have bu2 := hub _ (List.getElem_mem (show m < us.length by omega))
 have hne : b ≠ g := by
  intro e
  subst e
  apply hvg
  rw [hvl]
  simp [rb]
 have HH := Lib.hid (show B32 ≤ 2 * vs[m + 1] from hhigh)
 have hpos : 0 < vs[m + 1] := by unfold B32 at hhigh; omega
 have HPOS := Lib.hid (show 0 < nv B32 vs by
  rw [top2 hvl]
  have : 1 ≤ (vs[m + 1] * B32 + vs[m]) * B32 ^ m := Nat.mul_pos (by unfold B32; omega) (Nat.pow_pos (by unfold B32; omega))
  omega)
 have HV0 := Lib.hid hv
 have HRB := Lib.hid (show ∀ x ∈ rb (.slice (some ⟨b, off, none⟩) vs.length cap'), x ∉ [g] from fun x hx => by
  rw [hvl] at hx
  have : x = b := by simpa [rb] using hx
  subst this
  simpa using hne)
 rw [hvl] at hv hc1 ⊢
 have HV := Lib.hid hv
 have HW := Lib.hid hW
 have HUB := Lib.hid hub
 have HVB := Lib.hid hvb
 have HLT := Lib.hid hlt
 have HHU := Lib.hid hus
 have HHV := Lib.hid hvl
 clear hhigh hv hW hub hvb hlt lw uat hvg
 have gv1 : vs[m + 1]? = some vs[m + 1] := List.getElem?_eq_getElem _
 have gv2 : vs[m]? = some vs[m] := List.getElem?_eq_getElem _
 have gu0 : us[m + 2]? = some us[m + 2] := List.getElem?_eq_getElem _
 have gu1 : us[m + 1]? = some us[m + 1] := List.getElem?_eq_getElem _
 have gu2 : us[m]? = some us[m] := List.getElem?_eq_getElem _
 generalize vs[m + 1] = vh at *
 generalize vs[m] = v2 at *
 generalize us[m + 2] = un at *
 generalize us[m + 1] = u1 at *
 generalize us[m] = u2 at *
 have GU0 := Lib.hid gu0
 have GU2 := Lib.hid gu2
 clear gv1 gv2 gu0 gu1 gu2
 unfold B32 at bv1 bv2 bu0 bu1 bu2
 have hor := or_word un u1 bu0 bu1
 have e1 : (m : Int) + 2 - 1 = (m : Int) + 1 := by omega
 have e2 : (m : Int) + 2 - 2 = (m : Int) := by omega
 have htop : un * B32 + u1 = un * 4294967296 + u1 := rfl
 rw [htop] at hst
 have bt : un * 4294967296 + u1 < 18446744073709551616 := by omega
 generalize un * 4294967296 + u1 = top at *
 have hq := tdiv_nat top vh
 have hr := tmod_nat top vh
 have HST := Lib.hid hst
 have br0 : top % vh < vh := Nat.mod_lt _ hpos
 have bq0 : top / vh ≤ 4294967297 := hst.hmost
 clear hst htop hus hvl
 generalize top / vh = q0 at *
 generalize top % vh = r0 at *
 go_enter Tryz.func173, Tryz.ntmps173
 go_wp2_with fail
 go_quiet (fail)
 go_wp2_with fail
 go_loopw [8, 9] (fun tq tr wr => QRel1 vh v2 u2 m top us vs w tq tr wr) (fun tq _ _ => (intOf tq).toNat)
 case atStart => exact ⟨q0, r0, rfl, rfl, HST, bq0, by omega, (Touch.refl [] w).drewN _⟩
 case round =>
  clear HST bq0 br0 hq hr hor cv1 cu0 cu1
  obtain ⟨q, r, rfl, rfl, HE, bq, br, ht⟩ := hrel
  have cv2' := (ht.cell (p := ⟨b, off + m, none⟩) hb (by simp)).trans cv2
  have cu2' := (ht.cell (p := ⟨g, o + m, none⟩) HW.out.lt (by simp)).trans cu2
  have hor2 := or_word r u2 br bu2
  have bw2 : r * 4294967296 + u2 < 18446744073709551616 := by omega
  by_cases hq1 : 4294967296 ≤ q
  ·have hq1' : (4294967296 : Int) ≤ (q : Int) := by omega
   have hdown := HE.out.down (.inl hq1)
   obtain ⟨hd1, hd2, hd3⟩ := hdown
   have HD := Lib.hid hd1
   have HD2 := Lib.hid hd2
   have HQ1 := Lib.hid hq1
   have HR := Lib.hid br
   have HB := Lib.hid bq
   obtain ⟨q1, hq2⟩ : ∃ q1, q1 = q - 1 := ⟨_, rfl⟩
   have i1 : ((q : Int) - 1) = (q1 : Int) := by omega
   have i2 : q1 < 18446744073709551616 := by omega
   have HQ2 := Lib.hid hq2
   obtain ⟨rs, hrs⟩ : ∃ rs, rs = r + vh := ⟨_, rfl⟩
   have i3 : IntKind.u64.wrap ((r : Int) + (vh : Int)) = (rs : Int) := by rw [u64w]; omega
   have brs : rs < 18446744073709551616 := by omega
   have HRS := Lib.hid hrs
   by_cases hr1 : 4294967296 ≤ r + vh
   ·have hbr := Lib.hid (HE.out.broke (.inl hq1) hr1)
    have hr1' : (4294967296 : Int) ≤ (rs : Int) := by omega
    clear hq2 hrs hd1 hd2 hd3 hq1 hr1 bq bw2 hor2 bt hpos br
    go_wp2_with fail
    go_quiet (fail)
    go_wp2_with fail
    have hbr2 := hbr.out
    have hQ := HD.out.done hbr2.1 hbr2.2
    rw [← HQ2.out] at hQ hbr2
    have bqq : q1 < B32 := hbr2.1
    have htq := ht.drewN nq
    generalize hgq : q1 = qq at *
    generalize hgw : wr.drewN nq = wq at *
    clear hgq hgw hbr2 hbr HD HD2 HQ2 HRS HQ1 HR HB hq1' hr1' i1 i2 i3 brs cv2' cu2' ht HE
    have HQ := Lib.hid hQ
    clear hQ
    have HB1 := Lib.hid bqq
    have bqn : qq < 4294967296 := bqq
    clear bqq
    have HT0 : Hid (Took B32 0 qq us vs us 0 0) := Lib.hid (took_new B32_le HUB.out)
    have hst2 : QRel2 g o m qq pre us post vs w (.int .u64 0) (.int .u64 0) (.int .i64 0) wq := ⟨0, 0, 0, us, by omega, rfl, rfl, rfl, HW.out.touch htq (by simp), HT0, htq.mono (by simp)⟩
    go_loopw [10, 11, 74] (fun tb tc ti wr2 => QRel2 g o m qq pre us post vs w tb tc ti wr2) (fun _ _ ti _ => m + 2 - (intOf ti).toNat)
    case atStart => exact hst2
    case round =>
     clear hst2 HT0 htq
     obtain ⟨i, c, br2, us', hi, rfl, rfl, rfl, hW2, HT, ht2⟩ := hrel
     have hul : us'.length = m + 3 := HT.out.2.1.trans HHU.out
     have bc := HT.out.2.2.2.2.1
     have bb := HT.out.2.2.2.2.2
     unfold B32 at bc
     by_cases hlt : i < m + 2
     ·have hlt' : (i : Int) < (m : Int) + 2 := by omega
      have hiv : i < vs.length := by rw [HHV.out]; exact hlt
      have hiu : i < us'.length := by omega
      have cv := Words.at_ (HV0.out.touch ht2 HRB.out) hiv
      have cu := hW2.mid hpre hiu
      have fu := hW2.frozen (o + i)
      have bx := HT.out.2.2.2.1 _ (List.getElem_mem hiu)
      have bY := HVB.out _ (List.getElem_mem hiv)
      have HN := Lib.hid (fun x br' hx hbr e => took_step (x := x) (br' := br') HT.out hiu hiv HB1.out bY hx hbr e)
      have HS := Lib.hid (fun x => hW2.midSet hpre hiu x)
      unfold B32 at bx bY
      generalize us'[i] = x at *
      generalize vs[i] = y at *
      have hul := Lib.hid hul
      obtain ⟨pq, hpq⟩ : ∃ pq, pq = qq * y := ⟨_, rfl⟩
      have bpq : pq ≤ 18446744065119617025 := by rw [hpq]; exact Nat.mul_le_mul (show qq ≤ 4294967295 by omega) (show y ≤ 4294967295 by omega)
      have j1 : IntKind.u64.wrap ((qq : Int) * (y : Int)) = (pq : Int) := by rw [u64w, hpq, Int.natCast_mul]; exact Int.emod_eq_of_lt (Int.mul_nonneg (by omega) (by omega)) (by rw [← Int.natCast_mul, ← hpq]; exact Int.ofNat_lt.2 (Nat.lt_of_le_of_lt bpq (by decide)))
      obtain ⟨tt, htt⟩ : ∃ tt, tt = c + pq := ⟨_, rfl⟩
      have j2 : IntKind.u64.wrap ((c : Int) + (pq : Int)) = (tt : Int) := by rw [u64w]; omega
      rw [← hpq] at HN
      rw [← htt] at HN
      have btt : tt < 18446744073709551616 := by omega
      have hym : tt % 4294967296 < 4294967296 := Nat.mod_lt _ (by omega)
      obtain ⟨v', c', k1, k2, k3, k4, k5⟩ := borrow_three x (tt % 4294967296) br2 bx hym bb
      have k3' := Lib.hid k3
      rw [Int.natCast_emod] at k4 k5
      simp only [Int.cast_ofNat_Int] at k4 k5
      have bb2 : br2 < 2 := by omega
      clear hpq htt bpq k3 hym hi hiv hiu hW2 HT bb bc
      go_wp2_with fail
      go_roundw
      case rel =>
       refine ⟨i + 1, tt / 4294967296, c', us'.set i v', by omega, by go_num, by go_num, rfl, HS.out v', Lib.hid (HN.out v' c' k1 k2 k3'.out), ht2.setCell (.inl (by simp)) _⟩
      case measure => simp [intOf]; omega
     ·have hlt' : ((i : Int) < (m : Int) + 2) = False := eq_false (by omega)
      have hie : i = vs.length := by rw [HHV.out]; omega
      subst hie
      have hiu : vs.length < us'.length := by rw [hul, HHV.out]; omega
      have lvs := HHV.out
      have cu : wr.cell? ⟨g, o + (m + 2), none⟩ = some (.int .u32 (us'[vs.length] : Int)) := by
       have := hW2.mid hpre hiu
       rwa [show o + vs.length = o + (m + 2) by omega] at this
      have fu := hW2.frozen (o + (m + 2))
      have bx := HT.out.2.2.2.1 _ (List.getElem_mem hiu)
      have HN := Lib.hid (fun x neg hx e => took_last (x := x) (neg := neg) HT.out hiu hx e)
      have HS := Lib.hid (fun x => hW2.midSet hpre hiu x)
      unfold B32 at bx
      generalize us'[vs.length] = x at *
      have hul := Lib.hid hul
      obtain ⟨v', c', k1, k2, k3, k4, k5⟩ := borrow_three x c br2 bx bc bb
      have HL := Lib.hid (HN.out v' c' k1 k3)
      have hsl : (us'.set vs.length v').length = m + 3 := by rw [List.length_set]; exact hul.out
      have HSL := Lib.hid hsl
      have HX := HS.out v'
      have htx : Touch [g] w (wr.setCell ⟨g, o + (m + 2), none⟩ (.int .u32 (v' : Int))) := ht2.setCell (.inl (by simp)) _
      have hoff : o + vs.length = o + (m + 2) := by omega
      rw [hoff] at HX
      generalize us'.set vs.length v' = us1 at *
      clear k3 hi hiu hW2 HT bb bc lvs HN HS hsl hoff
      rcases (show c' = 0 ∨ c' = 1 by omega) with rfl | rfl
      ·rw [show ((0 : Nat) : Int) = 0 from rfl] at k4
       go_wp2_with fail
       go_ret
       obtain ⟨h7, h8⟩ := q_right HPOS.out HL.out.1 HQ.out.1
       exact ⟨by rw [← h7]; rfl, ⟨us1, HX, HSL.out, HL.out.2, h8⟩, htx⟩
      ·rw [show ((1 : Nat) : Int) = 1 from rfl] at k4
       have hq1 : 1 ≤ qq := q_one HL.out.1 HL.out.2 (by rw [HSL.out, HHV.out])
       obtain ⟨q2, hq2⟩ : ∃ q2, q2 = qq - 1 := ⟨_, rfl⟩
       have i1 : ((qq : Int) - 1) = (q2 : Int) := by omega
       have i2 : q2 < 18446744073709551616 := by omega
       have HQ2 := Lib.hid hq2
       have HP0 : Hid (Put B32 0 us1 vs us1 0) := Lib.hid (put_new HL.out.2)
       have hst3 : QRel3 g o m pre us1 post vs w (.int .u64 0) (.int .i64 0) (wr.setCell ⟨g, o + (m + 2), none⟩ (.int .u32 (v' : Int))) := ⟨0, 0, us1, by omega, rfl, rfl, HX, HP0, htx⟩
       clear hq2 hq1 HP0 HX htx
       go_wp2_with fail
       clear k1 k2 k4 k5 cu fu
       generalize IntKind.u64.wrap (IntKind.u64.wrap ((x : Int) - (c : Int)) - (br2 : Int)) = dd at *
       generalize (wr.setCell ⟨g, o + (m + 2), none⟩ (.int .u32 (v' : Int))) = wz at *
       go_loopw [11, 128] (fun tc ti wr3 => QRel3 g o m pre us1 post vs w tc ti wr3) (fun _ ti _ => m + 2 - (intOf ti).toNat)
       case atStart => exact hst3
       case round =>
        clear hst3
        obtain ⟨j, cc, us', hj, rfl, rfl, hW3, HT3, ht3⟩ := hrel
        have hul3 : us'.length = m + 3 := HT3.out.2.1.trans HSL.out
        have bcc := HT3.out.2.2.2
        by_cases hlt3 : j < m + 2
        ·have hlt' : (j : Int) < (m : Int) + 2 := by omega
         have hjv : j < vs.length := by rw [HHV.out]; exact hlt3
         have hju : j < us'.length := by omega
         have cv := Words.at_ (HV0.out.touch ht3 HRB.out) hjv
         have cu := hW3.mid hpre hju
         have fu := hW3.frozen (o + j)
         have bx3 := HT3.out.2.2.1 _ (List.getElem_mem hju)
         have bY := HVB.out _ (List.getElem_mem hjv)
         have HN3 := Lib.hid (put_next B32_le HT3.out hju hjv bY)
         have HS3 := Lib.hid (fun n x => (WB.drewN hW3 n).midSet hpre hju x)
         unfold B32 at bx3 bY
         generalize us'[j] = x3 at *
         generalize vs[j] = y3 at *
         obtain ⟨xy, hxy⟩ : ∃ xy, xy = x3 + y3 := ⟨_, rfl⟩
         have jx : IntKind.u64.wrap (x3 : Int) = (x3 : Int) := by rw [u64w]; omega
         have jy : IntKind.u64.wrap (y3 : Int) = (y3 : Int) := by rw [u64w]; omega
         have j1 : IntKind.u64.wrap ((x3 : Int) + (y3 : Int)) = (xy : Int) := by rw [u64w]; omega
         obtain ⟨tt, htt⟩ : ∃ tt, tt = cc + xy := ⟨_, rfl⟩
         have j2 : IntKind.u64.wrap ((cc : Int) + (xy : Int)) = (tt : Int) := by rw [u64w]; omega
         rw [← hxy] at HN3
         rw [← htt] at HN3
         have btt : tt < 18446744073709551616 := by omega
         have hul3 := Lib.hid hul3
         clear hxy htt hj hjv hju hW3 HT3 bcc bx3 bY
         go_wp2_with fail
         go_quiet (fail)
         go_wp2_with fail
         go_roundw
         case rel =>
          refine ⟨j + 1, tt / 4294967296, us'.set j (tt % 4294967296), by omega, by go_num, by go_num, ?_, HN3, (ht3.drewN _).setCell (.inl (by simp)) _⟩
          have := HS3.out nq (tt % 4294967296)
          simpa using this
         case measure => simp [intOf]; omega
        ·have hlt' : ((j : Int) < (m : Int) + 2) = False := eq_false (by omega)
         have hje : j = vs.length := by rw [HHV.out]; omega
         subst hje
         have lvs := HHV.out
         have hju : vs.length < us'.length := by rw [hul3, HHV.out]; omega
         have cu : wr.cell? ⟨g, o + (m + 2), none⟩ = some (.int .u32 (us'[vs.length] : Int)) := by
          have := hW3.mid hpre hju
          rwa [show o + vs.length = o + (m + 2) by omega] at this
         have fu := hW3.frozen (o + (m + 2))
         have bx3 := HT3.out.2.2.1 _ (List.getElem_mem hju)
         have HN3 := Lib.hid (put_last B32_le HT3.out (by rw [hul3, HHV.out]) HVB.out HPOS.out HL.out.1 HQ.out.2 HL.out.2)
         have HS3 := Lib.hid (fun x => hW3.midSet hpre hju x)
         have hoff : o + vs.length = o + (m + 2) := by omega
         rw [hoff] at HS3
         unfold B32 at bx3
         have HUL3 := Lib.hid hul3
         have hset : ∀ x, (us'.set vs.length x).length = m + 3 := fun x => by rw [List.length_set]; exact hul3
         have HSET := Lib.hid hset
         generalize us'[vs.length] = x3 at *
         obtain ⟨ss, hss⟩ : ∃ ss, ss = (x3 + cc) % B32 := ⟨_, rfl⟩
         have j1 : IntKind.u32.wrap ((x3 : Int) + (cc : Int)) = (ss : Int) := by
          rw [hss]
          show ((x3 : Int) + (cc : Int)) % 4294967296 = _
          unfold B32
          omega
         rw [← hss] at HN3
         have bq2 : q2 < 4294967296 := by have := HQ2.out; omega
         have bcc2 : cc < 4294967296 := by omega
         have HQ3 := Lib.hid (show q2 = nv B32 us / nv B32 vs by have := HN3.out.1; have := HQ2.out; omega)
         clear hss hj hju hW3 HT3 bcc lvs hul3 hset hoff bqn
         go_wp2_with fail
         go_ret
         exact ⟨by rw [← HQ3.out]; rfl, ⟨us'.set vs.length ss, HS3.out ss, HSET.out ss, HN3.out.2.2, HN3.out.2.1⟩, ht3.setCell (.inl (by simp)) _⟩
   ·have hr1' : ((4294967296 : Int) ≤ (rs : Int)) = False := eq_false (by omega)
    have HR1 := Lib.hid hr1
    clear hq2 hrs hd1 hd2 hd3 hq1 hr1 bq bw2 hor2 bt hpos br
    go_wp2_with fail
    go_quiet (fail)
    go_wp2_with fail
    go_roundw
    case rel => exact ⟨q1, rs, rfl, rfl, Lib.hid (by rw [HQ2.out, HRS.out]; exact HD.out), by have := HQ2.out; have := HB.out; omega, by have h1 := HRS.out; have h2 := HR1.out; omega, ht.drewN nq⟩
    case measure =>
     have h1 := HQ2.out
     have h2 := HD2.out
     simp [intOf]
     omega
  ·have hq1' : ((4294967296 : Int) ≤ (q : Int)) = False := eq_false (by omega)
   have bqv : q * v2 < 18446744073709551616 := by
    have : q * v2 ≤ 4294967295 * 4294967295 := Nat.mul_le_mul (by omega) (by omega)
    omega
   obtain ⟨pv, hpv⟩ : ∃ pv, pv = q * v2 := ⟨_, rfl⟩
   obtain ⟨rw, hrw⟩ : ∃ rw, rw = r * 4294967296 + u2 := ⟨_, rfl⟩
   rw [← hrw] at hor2 bw2
   rw [← hpv] at bqv
   have i0 : IntKind.u64.wrap ((q : Int) * (v2 : Int)) = (pv : Int) := by rw [u64w, hpv, Int.natCast_mul]; exact Int.emod_eq_of_lt (Int.mul_nonneg (by omega) (by omega)) (by rw [← Int.natCast_mul, ← hpv]; omega)
   have HPV := Lib.hid hpv
   have HRW := Lib.hid hrw
   have HQ1 := Lib.hid hq1
   have HR := Lib.hid br
   have HB := Lib.hid bq
   by_cases hc : rw < pv
   ·have hc' : (rw : Int) < (pv : Int) := by omega
    obtain ⟨hd1, hd2, hd3⟩ := HE.out.down (.inr (show r * B32 + u2 < q * v2 by rw [← hpv]; unfold B32; omega))
    have hcc : r * B32 + u2 < q * v2 := by rw [← hpv]; unfold B32; omega
    have HD := Lib.hid hd1
    have HD2 := Lib.hid hd2
    obtain ⟨q1, hq2⟩ : ∃ q1, q1 = q - 1 := ⟨_, rfl⟩
    have i1 : ((q : Int) - 1) = (q1 : Int) := by omega
    have i2 : q1 < 18446744073709551616 := by omega
    have HQ2 := Lib.hid hq2
    obtain ⟨rs, hrs⟩ : ∃ rs, rs = r + vh := ⟨_, rfl⟩
    have i3 : IntKind.u64.wrap ((r : Int) + (vh : Int)) = (rs : Int) := by rw [u64w]; omega
    have brs : rs < 18446744073709551616 := by omega
    have HRS := Lib.hid hrs
    by_cases hr1 : 4294967296 ≤ r + vh
    ·have hbr := Lib.hid (HE.out.broke (.inr hcc) hr1)
     have hr1' : (4294967296 : Int) ≤ (rs : Int) := by omega
     clear hq2 hrs hd1 hd2 hd3 hcc hr1 hpv hrw hq1 bq bt hpos
     go_wp2_with fail
     go_quiet (fail)
     clear br
     go_wp2_with fail
     have hbr2 := hbr.out
     have hQ := HD.out.done hbr2.1 hbr2.2
     rw [← HQ2.out] at hQ hbr2
     have bqq : q1 < B32 := hbr2.1
     have htq := ht.drewN nq
     generalize hgq : q1 = qq at *
     generalize hgw : wr.drewN nq = wq at *
     clear hgq hgw hbr2 hbr HD HD2 HQ2 HRS HQ1 HR HB hq1' hr1' i0 i1 i2 i3 brs bqv bw2 hor2 hc' HPV HRW cv2' cu2' ht HE
     have HQ := Lib.hid hQ
     clear hQ
     have HB1 := Lib.hid bqq
     have bqn : qq < 4294967296 := bqq
     clear bqq
     have HT0 : Hid (Took B32 0 qq us vs us 0 0) := Lib.hid (took_new B32_le HUB.out)
     have hst2 : QRel2 g o m qq pre us post vs w (.int .u64 0) (.int .u64 0) (.int .i64 0) wq := ⟨0, 0, 0, us, by omega, rfl, rfl, rfl, HW.out.touch htq (by simp), HT0, htq.mono (by simp)⟩
     go_loopw [10, 11, 74] (fun tb tc ti wr2 => QRel2 g o m qq pre us post vs w tb tc ti wr2) (fun _ _ ti _ => m + 2 - (intOf ti).toNat)
     case atStart => exact hst2
     case round =>
      clear hst2 HT0 htq
      obtain ⟨i, c, br2, us', hi, rfl, rfl, rfl, hW2, HT, ht2⟩ := hrel
      have hul : us'.length = m + 3 := HT.out.2.1.trans HHU.out
      have bc := HT.out.2.2.2.2.1
      have bb := HT.out.2.2.2.2.2
      unfold B32 at bc
      by_cases hlt : i < m + 2
      ·have hlt' : (i : Int) < (m : Int) + 2 := by omega
       have hiv : i < vs.length := by rw [HHV.out]; exact hlt
       have hiu : i < us'.length := by omega
       have cv := Words.at_ (HV0.out.touch ht2 HRB.out) hiv
       have cu := hW2.mid hpre hiu
       have fu := hW2.frozen (o + i)
       have bx := HT.out.2.2.2.1 _ (List.getElem_mem hiu)
       have bY := HVB.out _ (List.getElem_mem hiv)
       have HN := Lib.hid (fun x br' hx hbr e => took_step (x := x) (br' := br') HT.out hiu hiv HB1.out bY hx hbr e)
       have HS := Lib.hid (fun x => hW2.midSet hpre hiu x)
       unfold B32 at bx bY
       generalize us'[i] = x at *
       generalize vs[i] = y at *
       have hul := Lib.hid hul
       obtain ⟨pq, hpq⟩ : ∃ pq, pq = qq * y := ⟨_, rfl⟩
       have bpq : pq ≤ 18446744065119617025 := by rw [hpq]; exact Nat.mul_le_mul (show qq ≤ 4294967295 by omega) (show y ≤ 4294967295 by omega)
       have j1 : IntKind.u64.wrap ((qq : Int) * (y : Int)) = (pq : Int) := by rw [u64w, hpq, Int.natCast_mul]; exact Int.emod_eq_of_lt (Int.mul_nonneg (by omega) (by omega)) (by rw [← Int.natCast_mul, ← hpq]; exact Int.ofNat_lt.2 (Nat.lt_of_le_of_lt bpq (by decide)))
       obtain ⟨tt, htt⟩ : ∃ tt, tt = c + pq := ⟨_, rfl⟩
       have j2 : IntKind.u64.wrap ((c : Int) + (pq : Int)) = (tt : Int) := by rw [u64w]; omega
       rw [← hpq] at HN
       rw [← htt] at HN
       have btt : tt < 18446744073709551616 := by omega
       have hym : tt % 4294967296 < 4294967296 := Nat.mod_lt _ (by omega)
       obtain ⟨v', c', k1, k2, k3, k4, k5⟩ := borrow_three x (tt % 4294967296) br2 bx hym bb
       have k3' := Lib.hid k3
       rw [Int.natCast_emod] at k4 k5
       simp only [Int.cast_ofNat_Int] at k4 k5
       have bb2 : br2 < 2 := by omega
       clear hpq htt bpq k3 hym hi hiv hiu hW2 HT bb bc
       go_wp2_with fail
       go_roundw
       case rel =>
        refine ⟨i + 1, tt / 4294967296, c', us'.set i v', by omega, by go_num, by go_num, rfl, HS.out v', Lib.hid (HN.out v' c' k1 k2 k3'.out), ht2.setCell (.inl (by simp)) _⟩
       case measure => simp [intOf]; omega
      ·have hlt' : ((i : Int) < (m : Int) + 2) = False := eq_false (by omega)
       have hie : i = vs.length := by rw [HHV.out]; omega
       subst hie
       have hiu : vs.length < us'.length := by rw [hul, HHV.out]; omega
       have lvs := HHV.out
       have cu : wr.cell? ⟨g, o + (m + 2), none⟩ = some (.int .u32 (us'[vs.length] : Int)) := by
        have := hW2.mid hpre hiu
        rwa [show o + vs.length = o + (m + 2) by omega] at this
       have fu := hW2.frozen (o + (m + 2))
       have bx := HT.out.2.2.2.1 _ (List.getElem_mem hiu)
       have HN := Lib.hid (fun x neg hx e => took_last (x := x) (neg := neg) HT.out hiu hx e)
       have HS := Lib.hid (fun x => hW2.midSet hpre hiu x)
       unfold B32 at bx
       generalize us'[vs.length] = x at *
       have hul := Lib.hid hul
       obtain ⟨v', c', k1, k2, k3, k4, k5⟩ := borrow_three x c br2 bx bc bb
       have HL := Lib.hid (HN.out v' c' k1 k3)
       have hsl : (us'.set vs.length v').length = m + 3 := by rw [List.length_set]; exact hul.out
       have HSL := Lib.hid hsl
       have HX := HS.out v'
       have htx : Touch [g] w (wr.setCell ⟨g, o + (m + 2), none⟩ (.int .u32 (v' : Int))) := ht2.setCell (.inl (by simp)) _
       have hoff : o + vs.length = o + (m + 2) := by omega
       rw [hoff] at HX
       generalize us'.set vs.length v' = us1 at *
       clear k3 hi hiu hW2 HT bb bc lvs HN HS hsl hoff
       rcases (show c' = 0 ∨ c' = 1 by omega) with rfl | rfl
       ·rw [show ((0 : Nat) : Int) = 0 from rfl] at k4
        go_wp2_with fail
        go_ret
        obtain ⟨h7, h8⟩ := q_right HPOS.out HL.out.1 HQ.out.1
        exact ⟨by rw [← h7]; rfl, ⟨us1, HX, HSL.out, HL.out.2, h8⟩, htx⟩
       ·rw [show ((1 : Nat) : Int) = 1 from rfl] at k4
        have hq1 : 1 ≤ qq := q_one HL.out.1 HL.out.2 (by rw [HSL.out, HHV.out])
        obtain ⟨q2, hq2⟩ : ∃ q2, q2 = qq - 1 := ⟨_, rfl⟩
        have i1 : ((qq : Int) - 1) = (q2 : Int) := by omega
        have i2 : q2 < 18446744073709551616 := by omega
        have HQ2 := Lib.hid hq2
        have HP0 : Hid (Put B32 0 us1 vs us1 0) := Lib.hid (put_new HL.out.2)
        have hst3 : QRel3 g o m pre us1 post vs w (.int .u64 0) (.int .i64 0) (wr.setCell ⟨g, o + (m + 2), none⟩ (.int .u32 (v' : Int))) := ⟨0, 0, us1, by omega, rfl, rfl, HX, HP0, htx⟩
        clear hq2 hq1 HP0 HX htx
        go_wp2_with fail
        clear k1 k2 k4 k5 cu fu
        generalize IntKind.u64.wrap (IntKind.u64.wrap ((x : Int) - (c : Int)) - (br2 : Int)) = dd at *
        generalize (wr.setCell ⟨g, o + (m + 2), none⟩ (.int .u32 (v' : Int))) = wz at *
        go_loopw [11, 128] (fun tc ti wr3 => QRel3 g o m pre us1 post vs w tc ti wr3) (fun _ ti _ => m + 2 - (intOf ti).toNat)
        case atStart => exact hst3
        case round =>
         clear hst3
         obtain ⟨j, cc, us', hj, rfl, rfl, hW3, HT3, ht3⟩ := hrel
         have hul3 : us'.length = m + 3 := HT3.out.2.1.trans HSL.out
         have bcc := HT3.out.2.2.2
         by_cases hlt3 : j < m + 2
         ·have hlt' : (j : Int) < (m : Int) + 2 := by omega
          have hjv : j < vs.length := by rw [HHV.out]; exact hlt3
          have hju : j < us'.length := by omega
          have cv := Words.at_ (HV0.out.touch ht3 HRB.out) hjv
          have cu := hW3.mid hpre hju
          have fu := hW3.frozen (o + j)
          have bx3 := HT3.out.2.2.1 _ (List.getElem_mem hju)
          have bY := HVB.out _ (List.getElem_mem hjv)
          have HN3 := Lib.hid (put_next B32_le HT3.out hju hjv bY)
          have HS3 := Lib.hid (fun n x => (WB.drewN hW3 n).midSet hpre hju x)
          unfold B32 at bx3 bY
          generalize us'[j] = x3 at *
          generalize vs[j] = y3 at *
          obtain ⟨xy, hxy⟩ : ∃ xy, xy = x3 + y3 := ⟨_, rfl⟩
          have jx : IntKind.u64.wrap (x3 : Int) = (x3 : Int) := by rw [u64w]; omega
          have jy : IntKind.u64.wrap (y3 : Int) = (y3 : Int) := by rw [u64w]; omega
          have j1 : IntKind.u64.wrap ((x3 : Int) + (y3 : Int)) = (xy : Int) := by rw [u64w]; omega
          obtain ⟨tt, htt⟩ : ∃ tt, tt = cc + xy := ⟨_, rfl⟩
          have j2 : IntKind.u64.wrap ((cc : Int) + (xy : Int)) = (tt : Int) := by rw [u64w]; omega
          rw [← hxy] at HN3
          rw [← htt] at HN3
          have btt : tt < 18446744073709551616 := by omega
          have hul3 := Lib.hid hul3
          clear hxy htt hj hjv hju hW3 HT3 bcc bx3 bY
          go_wp2_with fail
          go_quiet (fail)
          go_wp2_with fail
          go_roundw
          case rel =>
           refine ⟨j + 1, tt / 4294967296, us'.set j (tt % 4294967296), by omega, by go_num, by go_num, ?_, HN3, (ht3.drewN _).setCell (.inl (by simp)) _⟩
           have := HS3.out nq (tt % 4294967296)
           simpa using this
          case measure => simp [intOf]; omega
         ·have hlt' : ((j : Int) < (m : Int) + 2) = False := eq_false (by omega)
          have hje : j = vs.length := by rw [HHV.out]; omega
          subst hje
          have lvs := HHV.out
          have hju : vs.length < us'.length := by rw [hul3, HHV.out]; omega
          have cu : wr.cell? ⟨g, o + (m + 2), none⟩ = some (.int .u32 (us'[vs.length] : Int)) := by
           have := hW3.mid hpre hju
           rwa [show o + vs.length = o + (m + 2) by omega] at this
          have fu := hW3.frozen (o + (m + 2))
          have bx3 := HT3.out.2.2.1 _ (List.getElem_mem hju)
          have HN3 := Lib.hid (put_last B32_le HT3.out (by rw [hul3, HHV.out]) HVB.out HPOS.out HL.out.1 HQ.out.2 HL.out.2)
          have HS3 := Lib.hid (fun x => hW3.midSet hpre hju x)
          have hoff : o + vs.length = o + (m + 2) := by omega
          rw [hoff] at HS3
          unfold B32 at bx3
          have HUL3 := Lib.hid hul3
          have hset : ∀ x, (us'.set vs.length x).length = m + 3 := fun x => by rw [List.length_set]; exact hul3
          have HSET := Lib.hid hset
          generalize us'[vs.length] = x3 at *
          obtain ⟨ss, hss⟩ : ∃ ss, ss = (x3 + cc) % B32 := ⟨_, rfl⟩
          have j1 : IntKind.u32.wrap ((x3 : Int) + (cc : Int)) = (ss : Int) := by
           rw [hss]
           show ((x3 : Int) + (cc : Int)) % 4294967296 = _
           unfold B32
           omega
          rw [← hss] at HN3
          have bq2 : q2 < 4294967296 := by have := HQ2.out; omega
          have bcc2 : cc < 4294967296 := by omega
          have HQ3 := Lib.hid (show q2 = nv B32 us / nv B32 vs by have := HN3.out.1; have := HQ2.out; omega)
          clear hss hj hju hW3 HT3 bcc lvs hul3 hset hoff bqn
          go_wp2_with fail
          go_ret
          exact ⟨by rw [← HQ3.out]; rfl, ⟨us'.set vs.length ss, HS3.out ss, HSET.out ss, HN3.out.2.2, HN3.out.2.1⟩, ht3.setCell (.inl (by simp)) _⟩
    ·have hr1' : ((4294967296 : Int) ≤ (rs : Int)) = False := eq_false (by omega)
     have HR1 := Lib.hid hr1
     clear hq2 hrs hd1 hd2 hd3 hcc hr1 hpv hrw hq1 bq bt hpos
     go_wp2_with fail
     go_quiet (fail)
     clear br
     go_wp2_with fail
     go_roundw
     case rel => exact ⟨q1, rs, rfl, rfl, Lib.hid (by rw [HQ2.out, HRS.out]; exact HD.out), by have := HQ2.out; have := HB.out; omega, by have h1 := HRS.out; have h2 := HR1.out; omega, ht.drewN nq⟩
     case measure =>
      have h1 := HQ2.out
      have h2 := HD2.out
      simp [intOf]
      omega
   ·have hc' : ((rw : Int) < (pv : Int)) = False := eq_false (by omega)
    clear hpv hrw hq1 bq bt hpos
    go_wp2_with fail
    go_quiet (fail)
    go_wp2_with fail
    have hQ := HE.out.done (show q < B32 by have := HQ1.out; unfold B32; omega) (show q * v2 ≤ r * B32 + u2 by have h1 := HPV.out; have h2 := HRW.out; unfold B32; omega)
    have bqq : q < B32 := by have := HQ1.out; unfold B32; omega
    have htq := ht.drewN nq
    generalize hgr : r = rs at *
    generalize hgq : q = qq at *
    generalize hgw : wr.drewN nq = wq at *
    clear hgr hgq hgw HQ1 HR HB hq1' i0 bqv bw2 hor2 hc hc' HPV HRW cv2' cu2' ht HE br
    have HQ := Lib.hid hQ
    clear hQ
    have HB1 := Lib.hid bqq
    have bqn : qq < 4294967296 := bqq
    clear bqq
    have HT0 : Hid (Took B32 0 qq us vs us 0 0) := Lib.hid (took_new B32_le HUB.out)
    have hst2 : QRel2 g o m qq pre us post vs w (.int .u64 0) (.int .u64 0) (.int .i64 0) wq := ⟨0, 0, 0, us, by omega, rfl, rfl, rfl, HW.out.touch htq (by simp), HT0, htq.mono (by simp)⟩
    go_loopw [10, 11, 74] (fun tb tc ti wr2 => QRel2 g o m qq pre us post vs w tb tc ti wr2) (fun _ _ ti _ => m + 2 - (intOf ti).toNat)
    case atStart => exact hst2
    case round =>
     clear hst2 HT0 htq
     obtain ⟨i, c, br2, us', hi, rfl, rfl, rfl, hW2, HT, ht2⟩ := hrel
     have hul : us'.length = m + 3 := HT.out.2.1.trans HHU.out
     have bc := HT.out.2.2.2.2.1
     have bb := HT.out.2.2.2.2.2
     unfold B32 at bc
     by_cases hlt : i < m + 2
     ·have hlt' : (i : Int) < (m : Int) + 2 := by omega
      have hiv : i < vs.length := by rw [HHV.out]; exact hlt
      have hiu : i < us'.length := by omega
      have cv := Words.at_ (HV0.out.touch ht2 HRB.out) hiv
      have cu := hW2.mid hpre hiu
      have fu := hW2.frozen (o + i)
      have bx := HT.out.2.2.2.1 _ (List.getElem_mem hiu)
      have bY := HVB.out _ (List.getElem_mem hiv)
      have HN := Lib.hid (fun x br' hx hbr e => took_step (x := x) (br' := br') HT.out hiu hiv HB1.out bY hx hbr e)
      have HS := Lib.hid (fun x => hW2.midSet hpre hiu x)
      unfold B32 at bx bY
      generalize us'[i] = x at *
      generalize vs[i] = y at *
      have hul := Lib.hid hul
      obtain ⟨pq, hpq⟩ : ∃ pq, pq = qq * y := ⟨_, rfl⟩
      have bpq : pq ≤ 18446744065119617025 := by rw [hpq]; exact Nat.mul_le_mul (show qq ≤ 4294967295 by omega) (show y ≤ 4294967295 by omega)
      have j1 : IntKind.u64.wrap ((qq : Int) * (y : Int)) = (pq : Int) := by rw [u64w, hpq, Int.natCast_mul]; exact Int.emod_eq_of_lt (Int.mul_nonneg (by omega) (by omega)) (by rw [← Int.natCast_mul, ← hpq]; exact Int.ofNat_lt.2 (Nat.lt_of_le_of_lt bpq (by decide)))
      obtain ⟨tt, htt⟩ : ∃ tt, tt = c + pq := ⟨_, rfl⟩
      have j2 : IntKind.u64.wrap ((c : Int) + (pq : Int)) = (tt : Int) := by rw [u64w]; omega
      rw [← hpq] at HN
      rw [← htt] at HN
      have btt : tt < 18446744073709551616 := by omega
      have hym : tt % 4294967296 < 4294967296 := Nat.mod_lt _ (by omega)
      obtain ⟨v', c', k1, k2, k3, k4, k5⟩ := borrow_three x (tt % 4294967296) br2 bx hym bb
      have k3' := Lib.hid k3
      rw [Int.natCast_emod] at k4 k5
      simp only [Int.cast_ofNat_Int] at k4 k5
      have bb2 : br2 < 2 := by omega
      clear hpq htt bpq k3 hym hi hiv hiu hW2 HT bb bc
      go_wp2_with fail
      go_roundw
      case rel =>
       refine ⟨i + 1, tt / 4294967296, c', us'.set i v', by omega, by go_num, by go_num, rfl, HS.out v', Lib.hid (HN.out v' c' k1 k2 k3'.out), ht2.setCell (.inl (by simp)) _⟩
      case measure => simp [intOf]; omega
     ·have hlt' : ((i : Int) < (m : Int) + 2) = False := eq_false (by omega)
      have hie : i = vs.length := by rw [HHV.out]; omega
      subst hie
      have hiu : vs.length < us'.length := by rw [hul, HHV.out]; omega
      have lvs := HHV.out
      have cu : wr.cell? ⟨g, o + (m + 2), none⟩ = some (.int .u32 (us'[vs.length] : Int)) := by
       have := hW2.mid hpre hiu
       rwa [show o + vs.length = o + (m + 2) by omega] at this
      have fu := hW2.frozen (o + (m + 2))
      have bx := HT.out.2.2.2.1 _ (List.getElem_mem hiu)
      have HN := Lib.hid (fun x neg hx e => took_last (x := x) (neg := neg) HT.out hiu hx e)
      have HS := Lib.hid (fun x => hW2.midSet hpre hiu x)
      unfold B32 at bx
      generalize us'[vs.length] = x at *
      have hul := Lib.hid hul
      obtain ⟨v', c', k1, k2, k3, k4, k5⟩ := borrow_three x c br2 bx bc bb
      have HL := Lib.hid (HN.out v' c' k1 k3)
      have hsl : (us'.set vs.length v').length = m + 3 := by rw [List.length_set]; exact hul.out
      have HSL := Lib.hid hsl
      have HX := HS.out v'
      have htx : Touch [g] w (wr.setCell ⟨g, o + (m + 2), none⟩ (.int .u32 (v' : Int))) := ht2.setCell (.inl (by simp)) _
      have hoff : o + vs.length = o + (m + 2) := by omega
      rw [hoff] at HX
      generalize us'.set vs.length v' = us1 at *
      clear k3 hi hiu hW2 HT bb bc lvs HN HS hsl hoff
      rcases (show c' = 0 ∨ c' = 1 by omega) with rfl | rfl
      ·rw [show ((0 : Nat) : Int) = 0 from rfl] at k4
       go_wp2_with fail
       go_ret
       obtain ⟨h7, h8⟩ := q_right HPOS.out HL.out.1 HQ.out.1
       exact ⟨by rw [← h7]; rfl, ⟨us1, HX, HSL.out, HL.out.2, h8⟩, htx⟩
      ·rw [show ((1 : Nat) : Int) = 1 from rfl] at k4
       have hq1 : 1 ≤ qq := q_one HL.out.1 HL.out.2 (by rw [HSL.out, HHV.out])
       obtain ⟨q2, hq2⟩ : ∃ q2, q2 = qq - 1 := ⟨_, rfl⟩
       have i1 : ((qq : Int) - 1) = (q2 : Int) := by omega
       have i2 : q2 < 18446744073709551616 := by omega
       have HQ2 := Lib.hid hq2
       have HP0 : Hid (Put B32 0 us1 vs us1 0) := Lib.hid (put_new HL.out.2)
       have hst3 : QRel3 g o m pre us1 post vs w (.int .u64 0) (.int .i64 0) (wr.setCell ⟨g, o + (m + 2), none⟩ (.int .u32 (v' : Int))) := ⟨0, 0, us1, by omega, rfl, rfl, HX, HP0, htx⟩
       clear hq2 hq1 HP0 HX htx
       go_wp2_with fail
       clear k1 k2 k4 k5 cu fu
       generalize IntKind.u64.wrap (IntKind.u64.wrap ((x : Int) - (c : Int)) - (br2 : Int)) = dd at *
       generalize (wr.setCell ⟨g, o + (m + 2), none⟩ (.int .u32 (v' : Int))) = wz at *
       go_loopw [11, 128] (fun tc ti wr3 => QRel3 g o m pre us1 post vs w tc ti wr3) (fun _ ti _ => m + 2 - (intOf ti).toNat)
       case atStart => exact hst3
       case round =>
        clear hst3
        obtain ⟨j, cc, us', hj, rfl, rfl, hW3, HT3, ht3⟩ := hrel
        have hul3 : us'.length = m + 3 := HT3.out.2.1.trans HSL.out
        have bcc := HT3.out.2.2.2
        by_cases hlt3 : j < m + 2
        ·have hlt' : (j : Int) < (m : Int) + 2 := by omega
         have hjv : j < vs.length := by rw [HHV.out]; exact hlt3
         have hju : j < us'.length := by omega
         have cv := Words.at_ (HV0.out.touch ht3 HRB.out) hjv
         have cu := hW3.mid hpre hju
         have fu := hW3.frozen (o + j)
         have bx3 := HT3.out.2.2.1 _ (List.getElem_mem hju)
         have bY := HVB.out _ (List.getElem_mem hjv)
         have HN3 := Lib.hid (put_next B32_le HT3.out hju hjv bY)
         have HS3 := Lib.hid (fun n x => (WB.drewN hW3 n).midSet hpre hju x)
         unfold B32 at bx3 bY
         generalize us'[j] = x3 at *
         generalize vs[j] = y3 at *
         obtain ⟨xy, hxy⟩ : ∃ xy, xy = x3 + y3 := ⟨_, rfl⟩
         have jx : IntKind.u64.wrap (x3 : Int) = (x3 : Int) := by rw [u64w]; omega
         have jy : IntKind.u64.wrap (y3 : Int) = (y3 : Int) := by rw [u64w]; omega
         have j1 : IntKind.u64.wrap ((x3 : Int) + (y3 : Int)) = (xy : Int) := by rw [u64w]; omega
         obtain ⟨tt, htt⟩ : ∃ tt, tt = cc + xy := ⟨_, rfl⟩
         have j2 : IntKind.u64.wrap ((cc : Int) + (xy : Int)) = (tt : Int) := by rw [u64w]; omega
         rw [← hxy] at HN3
         rw [← htt] at HN3
         have btt : tt < 18446744073709551616 := by omega
         have hul3 := Lib.hid hul3
         clear hxy htt hj hjv hju hW3 HT3 bcc bx3 bY
         go_wp2_with fail
         go_quiet (fail)
         go_wp2_with fail
         go_roundw
         case rel =>
          refine ⟨j + 1, tt / 4294967296, us'.set j (tt % 4294967296), by omega, by go_num, by go_num, ?_, HN3, (ht3.drewN _).setCell (.inl (by simp)) _⟩
          have := HS3.out nq (tt % 4294967296)
          simpa using this
         case measure => simp [intOf]; omega
        ·have hlt' : ((j : Int) < (m : Int) + 2) = False := eq_false (by omega)
         have hje : j = vs.length := by rw [HHV.out]; omega
         subst hje
         have lvs := HHV.out
         have hju : vs.length < us'.length := by rw [hul3, HHV.out]; omega
         have cu : wr.cell? ⟨g, o + (m + 2), none⟩ = some (.int .u32 (us'[vs.length] : Int)) := by
          have := hW3.mid hpre hju
          rwa [show o + vs.length = o + (m + 2) by omega] at this
         have fu := hW3.frozen (o + (m + 2))
         have bx3 := HT3.out.2.2.1 _ (List.getElem_mem hju)
         have HN3 := Lib.hid (put_last B32_le HT3.out (by rw [hul3, HHV.out]) HVB.out HPOS.out HL.out.1 HQ.out.2 HL.out.2)
         have HS3 := Lib.hid (fun x => hW3.midSet hpre hju x)
         have hoff : o + vs.length = o + (m + 2) := by omega
         rw [hoff] at HS3
         unfold B32 at bx3
         have HUL3 := Lib.hid hul3
         have hset : ∀ x, (us'.set vs.length x).length = m + 3 := fun x => by rw [List.length_set]; exact hul3
         have HSET := Lib.hid hset
         generalize us'[vs.length] = x3 at *
         obtain ⟨ss, hss⟩ : ∃ ss, ss = (x3 + cc) % B32 := ⟨_, rfl⟩
         have j1 : IntKind.u32.wrap ((x3 : Int) + (cc : Int)) = (ss : Int) := by
          rw [hss]
          show ((x3 : Int) + (cc : Int)) % 4294967296 = _
          unfold B32
          omega
         rw [← hss] at HN3
         have bq2 : q2 < 4294967296 := by have := HQ2.out; omega
         have bcc2 : cc < 4294967296 := by omega
         have HQ3 := Lib.hid (show q2 = nv B32 us / nv B32 vs by have := HN3.out.1; have := HQ2.out; omega)
         clear hss hj hju hW3 HT3 bcc lvs hul3 hset hoff bqn
         go_wp2_with fail
         go_ret
         exact ⟨by rw [← HQ3.out]; rfl, ⟨us'.set vs.length ss, HS3.out ss, HSET.out ss, HN3.out.2.2, HN3.out.2.1⟩, ht3.setCell (.inl (by simp)) _⟩
end Go.Proofs.YtedpaajpfaoffaaGreatDoor
