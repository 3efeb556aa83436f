/- Part of ReportRatio. -/
import Derived.Test.YtedpaajpfaoffaaGreatDoorRm1
import Derived.Test.YtedpaajpfaoffaaGreatDoorQvB
set_option maxHeartbeats 4000000
set_option maxRecDepth 100000
namespace Go.Proofs.YtedpaajpfaoffaaGreatDoor
open Go.RowKit
set_option linter.unusedSimpArgs false
set_option linter.unusedVariables false
def bt (N : Nat) : List UInt8 := (dg N).map UInt8.ofNat
theorem bt_nat (N : Nat) : (bt N).map (fun b => b.toNat) = dg N := by
  unfold bt
  rw [List.map_map]
  conv => rhs; rw [← List.map_id (dg N)]
  apply List.map_congr_left
  intro d hd
  have := dg_below N d hd
  simp
  omega
theorem bt_inj {A B : Nat} (h : bt A = bt B) : A = B := by
  have := congrArg (List.map (fun b : UInt8 => b.toNat)) h
  rw [bt_nat, bt_nat] at this
  rw [← dv_dg A, ← dv_dg B, this]
theorem conv_bt (W : World) {A : Option Addr} {n c N : Nat} (hd : Dgs W (.slice A n c) (dg N)) : (convert 30 9 (.slice A n c)).run Tryz.prog W = .ok (.string ⟨(bt N).toArray⟩) W := by
  by_cases h : bt N = []
  · have h0 : dg N = [] := by rw [← bt_nat, h]; rfl
    rw [h0] at hd
    obtain ⟨A', c', e⟩ := hd.form
    injection e with e1 e2 e3
    subst e1 e3
    simp only [List.length_nil] at e2
    subst e2
    rw [h]
    cases A with
    | some a => exact run_convert_bytes_back (P := Tryz.prog) W 30 9 5 a c [] Tryz.underlying30 Tryz.underlying5 Tryz.underlying9 (fun j hj => by simp at hj)
    | none =>
      rw [run_convert_bytes_string W 30 9 5 none 0 c Tryz.underlying30 Tryz.underlying5 Tryz.underlying9]
      simp [Conv.bytesToString, loadCells, loadCellsFrom]
      try rfl
  · exact conv_text W (by rw [bt_nat]; exact hd) h
theorem rSame_any (d1 d2 : Value) (A B : Nat) (w : World) (h1 : Dgs w d1 (dg A)) (h2 : Dgs w d2 (dg B)) : Calls Tryz.prog 33 #[.agg #[.bool false, d1], .agg #[.bool false, d2]] w fun r w' => r = .returned (.bool (decide (A = B))) ∧ Touch [] w w' := by
  obtain ⟨A1, m1, c1, rfl⟩ := h1.form3
  obtain ⟨A2, m2, c2, rfl⟩ := h2.form3
  obtain ⟨ht0, hcc⟩ := box2 w false false (.slice A1 m1 c1) (.slice A2 m2 c2)
  have k1 := conv_bt _ (h1.touch0 ht0)
  have k2 := conv_bt _ (h2.touch0 ht0)
  unfold W2I at ht0 hcc k1 k2
  obtain ⟨⟨p0, p1⟩, ⟨p2, p3⟩⟩ := hcc _ (Touch.refl _ _)
  have HI : Hid (bt A = bt B ↔ A = B) := Lib.hid ⟨bt_inj, fun h => by rw [h]⟩
  clear h1 h2 hcc
  generalize bt A = l1 at *
  generalize bt B = l2 at *
  go_enter Tryz.func33, Tryz.ntmps33
  go_wp2_with fail
  go_ret
  refine ⟨?_, ht0⟩
  have e : (l1 == l2) = decide (A = B) := by
    rw [Bool.eq_iff_iff]
    simp [HI.out]
  rw [← e]
  rfl
theorem qValid2_any (n1 n2 : Bool) (d1 d2 : Value) (ds1 ds2 : List Nat) (w : World) (h1 : Dgs w d1 ds1) (h2 : Dgs w d2 ds2) : Calls Tryz.prog 13 #[.agg #[.bool n1, d1, .bool n2, d2]] w fun r w' => r = .returned (.bool (okQ n1 ds1 n2 ds2)) ∧ Touch [] w w' := by
  have HV1 := Lib.hid (fun W (t : Touch [] w W) => rValid_any n1 d1 ds1 W (h1.touch0 t))
  have HV2 := Lib.hid (fun W (t : Touch [] w W) => rValid_any n2 d2 ds2 W (h2.touch0 t))
  have HH := Lib.hid (And.intro h1 h2)
  have HOK : Hid (okQ n1 ds1 n2 ds2 = (okI n2 ds2 && !n2 && decide (0 < ds2.length) && okI n1 ds1 && decide (Nat.gcd (dv ds1) (dv ds2) = 1))) := Lib.hid rfl
  generalize okQ n1 ds1 n2 ds2 = res at *
  obtain ⟨A1, m1, c1, rfl⟩ := h1.form3
  obtain ⟨A2, c2, rfl⟩ := h2.form
  obtain ⟨ht0, hcc⟩ := boxq w n1 n2 (.slice A1 m1 c1) (.slice A2 ds2.length c2)
  have HC := Lib.hid hcc
  obtain ⟨p0, p1, p2, p3⟩ := hcc _ (Touch.refl _ _)
  clear h1 h2 hcc
  go_enter Tryz.func13, Tryz.ntmps13
  go_wp2_with fail
  generalize (w.alloc (.cells #[.bool n1, .slice A1 m1 c1, .bool n2, .slice A2 ds2.length c2] 34)) = w0 at *
  have HT0 := Lib.hid ht0
  clear p0 p1 p2 p3
  with_reducible refine (HV1.out w0 ht0).mono ?_
  rintro r w1 ⟨rfl, ht1⟩
  dsimp only
  by_cases o1 : okI n1 ds1 = true
  case neg =>
    have o1' : okI n1 ds1 = false := by simpa using o1
    have HO := Lib.hid o1'
    rw [o1']
    clear o1 o1'
    go_wp2_with fail
    go_ret
    exact ⟨by rw [HOK.out, HO.out]; simp, HT0.out.then0 ht1⟩
  have HO1 := Lib.hid o1
  rw [o1]
  clear o1 ht0
  obtain ⟨p0, p1, p2, p3⟩ := HC.out _ ht1
  go_wp2_with fail
  with_reducible refine (HV2.out w1 (HT0.out.then0 ht1)).mono ?_
  rintro r w2 ⟨rfl, ht2⟩
  dsimp only
  replace ht2 := ht1.then0 ht2
  clear p0 p1 p2 p3 ht1
  by_cases o2 : okI n2 ds2 = true
  case neg =>
    have o2' : okI n2 ds2 = false := by simpa using o2
    have HO := Lib.hid o2'
    rw [o2']
    clear o2 o2'
    go_wp2_with fail
    go_ret
    exact ⟨by rw [HOK.out, HO.out]; simp, HT0.out.then0 ht2⟩
  have HO2 := Lib.hid o2
  rw [o2]
  clear o2
  obtain ⟨p0, p1, p2, p3⟩ := HC.out _ ht2
  cases n2 with
  | true =>
    go_wp2_with fail
    go_ret
    exact ⟨by rw [HOK.out]; simp, HT0.out.then0 ht2⟩
  | false =>
    obtain ⟨e1, a1, a2⟩ := okI_inv HH.out.1.below HO1.out
    obtain ⟨e2, b1, b2⟩ := okI_inv HH.out.2.below HO2.out
    have HCM := Lib.hid (rCommon_any n1 false (.slice A1 m1 c1) (.slice A2 ds2.length c2) (dv ds1) (dv ds2) w2 (by rw [← e1]; exact HH.out.1.touch0 (HT0.out.then0 ht2)) (by rw [← e2]; exact HH.out.2.touch0 (HT0.out.then0 ht2)) a1 b1)
    have HR : Hid (res = true ↔ (Nat.gcd (dv ds1) (dv ds2) = 1 ∧ 0 < ds2.length)) := Lib.hid (by
      rw [HOK.out, HO1.out, HO2.out]
      simp
      constructor
      · intro h; exact ⟨h.2, h.1⟩
      · intro h; exact ⟨h.2, h.1⟩)
    clear HOK a1 a2 b1 b2 e1 e2
    generalize Nat.gcd (dv ds1) (dv ds2) = G at *
    have HT2 := Lib.hid ht2
    go_wp2_with fail
    with_reducible refine HCM.out.mono ?_
    rintro r w3 ⟨x, rfl, ⟨A3, m3, c3, rfl, hd3⟩, ht3⟩
    dsimp only
    replace ht3 := ht2.then0 ht3
    have HD3 := Lib.hid hd3
    have HO := Lib.hid (rOf1_any w3)
    clear p0 p1 p2 p3 ht2 hd3
    go_wp2_with fail
    with_reducible refine HO.out.mono ?_
    rintro r w4 ⟨x, rfl, ⟨A4, m4, c4, rfl, hd4⟩, ht4⟩
    dsimp only
    have HSM := Lib.hid (rSame_any _ _ G 1 w4 (HD3.out.touch0 ht4) hd4)
    replace ht4 := ht3.then0 ht4
    clear ht3 hd4
    go_wp2_with fail
    with_reducible refine HSM.out.mono ?_
    rintro r w5 ⟨rfl, ht5⟩
    dsimp only
    replace ht5 := ht4.then0 ht5
    obtain ⟨p0, p1, p2, p3⟩ := HC.out _ ht5
    clear ht4
    by_cases hg : G = 1
    · have HE : Hid (res = decide (0 < ds2.length)) := Lib.hid (by
        rw [Bool.eq_iff_iff, HR.out]
        simp [hg])
      have hdg : decide (G = 1) = true := by simp [hg]
      rw [hdg]
      clear hg hdg
      go_wp2_with fail
      go_ret
      exact ⟨by rw [HE.out]; rfl, HT0.out.then0 ht5⟩
    · have HE : Hid (res = false) := Lib.hid (by
        rw [Bool.eq_false_iff]
        intro h
        exact hg (HR.out.1 h).1)
      have hdg : decide (G = 1) = false := by simp [hg]
      rw [hdg]
      clear hg hdg
      go_wp2_with fail
      go_ret
      exact ⟨by rw [HE.out]; rfl, HT0.out.then0 ht5⟩
end Go.Proofs.YtedpaajpfaoffaaGreatDoor
namespace Go.Proofs.YtedpaajpfaoffaaGreatDoor
open Go.RowKit
set_option linter.unusedSimpArgs false
set_option linter.unusedVariables false
theorem refRatio_any (n : Bool) (d1 d2 : Value) (A B : Nat) (w : World) (h1 : Dgs w d1 (dg A)) (h2 : Dgs w d2 (dg B)) (hA : A < Top) (hB : B < Top) (hB0 : 0 < B) :
    Calls Tryz.prog 14 #[.agg #[.bool n, d1, .bool false, d2]] w fun r w' => r = .returned (.string ⟨(mixL n A B).toArray⟩) ∧ Touch [] w w' := by
  have hqT : A / B < Top := div_top hA
  have hrT : A % B < Top := Nat.lt_of_le_of_lt (Nat.mod_le _ _) hA
  have HDV := Lib.hid (fun W (t : Touch [] w W) => rDivide_any d1 d2 A B W (h1.touch0 t) (h2.touch0 t) hA hB hB0)
  have HT1 := Lib.hid (fun W a (ha : Dgs W a (dg (A / B))) => rText_any a (A / B) W ha hqT)
  have HT2 := Lib.hid (fun W a (ha : Dgs W a (dg (A % B))) => rText_any a (A % B) W ha hrT)
  have HT3 := Lib.hid (fun W (t : Touch [] w W) => rText_any d2 B W (h2.touch0 t) hB)
  have hl1 := dec_len_top hqT
  have hl2 := dec_len_top hrT
  have hl3 := dec_len_top hB
  have HGR := Lib.hid (fun W => commas_any (Lib.decDigits (A / B)) W (by omega))
  have hgl : (groupL (Lib.decDigits (A / B))).length ≤ 400 := by
    have := cgrp_length (Lib.decDigits (A / B)).length (Lib.decDigits (A / B)) 0
    unfold groupL
    omega
  have HM : Hid (mixL n A B = (if n then [45] else []) ++ (groupL (Lib.decDigits (A / B)) ++ (if A % B = 0 then [] else 32 :: (Lib.decDigits (A % B) ++ 47 :: Lib.decDigits B)))) := Lib.hid rfl
  have HRZ : Hid ((dg (A % B)).length = 0 ↔ A % B = 0) := Lib.hid (by rw [List.length_eq_zero_iff]; exact dg_nil_iff)
  generalize mixL n A B = res at *
  generalize groupL (Lib.decDigits (A / B)) = gq at *
  generalize Lib.decDigits (A / B) = dq at *
  generalize Lib.decDigits (A % B) = dr at *
  generalize Lib.decDigits B = db at *
  generalize A % B = R at *
  generalize A / B = Q at *
  obtain ⟨A1, m1, c1, rfl⟩ := h1.form3
  obtain ⟨A2, m2, c2, rfl⟩ := h2.form3
  obtain ⟨ht0, hcc⟩ := boxq w n false (.slice A1 m1 c1) (.slice A2 m2 c2)
  have HC := Lib.hid hcc
  obtain ⟨p0, p1, p2, p3⟩ := hcc _ (Touch.refl _ _)
  clear h1 h2 hcc hqT hrT hA hB hB0 hl1
  go_enter Tryz.func14, Tryz.ntmps14
  go_wp2_with fail
  have htx : Touch [] (w.alloc (.cells #[.bool n, .slice A1 m1 c1, .bool false, .slice A2 m2 c2] 34)) ((w.alloc (.cells #[.bool n, .slice A1 m1 c1, .bool false, .slice A2 m2 c2] 34)).alloc (.cells #[.bool false, .slice A1 m1 c1] 32)) := (Touch.refl _ _).alloc _
  generalize ((w.alloc (.cells #[.bool n, .slice A1 m1 c1, .bool false, .slice A2 m2 c2] 34)).alloc (.cells #[.bool false, .slice A1 m1 c1] 32)) = w1 at *
  generalize (w.alloc (.cells #[.bool n, .slice A1 m1 c1, .bool false, .slice A2 m2 c2] 34)) = w0 at *
  have HT0 := Lib.hid ht0
  clear p0 p1 p2 p3 ht0
  with_reducible refine (HDV.out w1 (HT0.out.then0 htx)).mono ?_
  rintro r w2 ⟨x, y, rfl, ⟨A3, m3, c3, rfl, hd3⟩, hy, ht2⟩
  obtain ⟨A4, m4, c4, rfl, hd4⟩ := hy
  dsimp only
  replace ht2 := htx.then0 ht2
  have b45 : Blk ((w2.alloc (.cells #[.bool false, .slice A3 m3 c3] 32)).alloc (.cells #[.bool false, .slice A4 m4 c4] 32)) w2.heap.size 32 #[.bool false, .slice A3 m3 c3] := (Blk.new _ _ _).alloc _
  have b5 : Blk ((w2.alloc (.cells #[.bool false, .slice A3 m3 c3] 32)).alloc (.cells #[.bool false, .slice A4 m4 c4] 32)) (w2.heap.size + 1) 32 #[.bool false, .slice A4 m4 c4] := by
    have := Blk.new (w2.alloc (.cells #[.bool false, .slice A3 m3 c3] 32)) 32 #[.bool false, .slice A4 m4 c4]
    simpa using this
  have hta : Touch [] w0 ((w2.alloc (.cells #[.bool false, .slice A3 m3 c3] 32)).alloc (.cells #[.bool false, .slice A4 m4 c4] 32)) := (ht2.alloc _).alloc _
  have HD3 : Hid (Dgs ((w2.alloc (.cells #[.bool false, .slice A3 m3 c3] 32)).alloc (.cells #[.bool false, .slice A4 m4 c4] 32)) (.slice A3 m3 c3) (dg Q)) := Lib.hid (hd3.touch0 (((Touch.refl _ _).alloc _).alloc _))
  have HD4 : Hid (Dgs ((w2.alloc (.cells #[.bool false, .slice A3 m3 c3] 32)).alloc (.cells #[.bool false, .slice A4 m4 c4] 32)) (.slice A4 m4 c4) (dg R)) := Lib.hid (hd4.touch0 (((Touch.refl _ _).alloc _).alloc _))
  have HM4 : Hid (m4 = 0 ↔ R = 0) := Lib.hid (by
    obtain ⟨A', c', e⟩ := hd4.form
    injection e with _ e _
    rw [e]
    exact HRZ.out)
  have q0 := b45.cell 0
  have q1 := b45.cell 1
  simp at q0 q1
  clear hd3 hd4 ht2 htx b45
  go_wp2_with fail
  generalize w2.heap.size = g4 at *
  generalize ((w2.alloc (.cells #[.bool false, .slice A3 m3 c3] 32)).alloc (.cells #[.bool false, .slice A4 m4 c4] 32)) = w3 at *
  have HC5 := Lib.hid (fun W (t : Touch [] w3 W) => b5.icell t)
  have HTA := Lib.hid hta
  clear q0 q1 b5 hta
  with_reducible refine (HT1.out w3 _ HD3.out).mono ?_
  rintro r w4 ⟨rfl, ht4⟩
  dsimp only
  go_wp2_with fail
  with_reducible refine (HGR.out w4).mono ?_
  rintro r w5 ⟨rfl, ht5⟩
  dsimp only
  replace ht5 := ht4.then0 ht5
  obtain ⟨q0, q1⟩ := HC5.out _ ht5
  clear ht4
  by_cases hr : R = 0
  · have hm0 : m4 = 0 := HM4.out.2 hr
    subst hm0
    have HE := Lib.hid HM.out
    rw [if_pos hr] at HE
    obtain ⟨p0, p1, p2, p3⟩ := HC.out _ (HTA.out.then0 ht5)
    have hs0 : ¬ 9223372036854775807 < 1 + gq.length := by omega
    clear hr
    cases n with
    | false =>
      go_wp2_with fail
      go_ret
      exact ⟨by rw [HE.out]; simp, HT0.out.then0 (HTA.out.then0 ht5)⟩
    | true =>
      go_wp2_with fail
      go_ret
      refine ⟨?_, HT0.out.then0 (HTA.out.then0 ht5)⟩
      rw [HE.out, show (ByteArray.mk #[45]) = ByteArray.mk [45].toArray from rfl, tx_add]
      simp
  · have hm0 : (0 : Int) < (m4 : Int) := by have := HM4.out; omega
    have HE := Lib.hid HM.out
    rw [if_neg hr] at HE
    have hs1 : ¬ 9223372036854775807 < gq.length + 1 := by omega
    have hs2 : ¬ 9223372036854775807 < gq.length + 1 + dr.length := by omega
    have hs3 : ¬ 9223372036854775807 < gq.length + 1 + dr.length + 1 := by omega
    have hs4 : ¬ 9223372036854775807 < gq.length + 1 + dr.length + 1 + db.length := by omega
    have hs5 : ¬ 9223372036854775807 < 1 + (gq.length + 1 + dr.length + 1 + db.length) := by omega
    clear hr
    go_wp2_with fail
    have hT := ht5.drew
    clear q0 q1 ht5
    go_region_held3 (fun W' => W'.cell? ⟨g4 + 1, 0, none⟩ = some (.bool false) ∧ W'.cell? ⟨g4 + 1, 1, none⟩ = some (.slice A4 m4 c4) ∧ W'.cell? ⟨w.heap.size, 2, none⟩ = some (.bool false) ∧ W'.cell? ⟨w.heap.size, 3, none⟩ = some (.slice A2 m2 c2)) (exact ⟨(HC5.out _ hT).1, (HC5.out _ hT).2, (HC.out _ (HTA.out.then0 hT)).2.2.1, (HC.out _ (HTA.out.then0 hT)).2.2.2⟩) ((go_at_call 37; (first | with_reducible refine (HT2.out _ _ (HD4.out.touch0 hT)).mono ?_ | with_reducible refine (HT3.out _ (HT0.out.then0 (HTA.out.then0 hT))).mono ?_); rintro r w7 ⟨rfl, ht7⟩; (try dsimp only); replace hT := hT.then0 ht7; clear ht7))
    all_goals
      obtain ⟨p0, p1, p2, p3⟩ := HC.out _ (HTA.out.then0 hT)
      cases n with
      | false =>
        go_wp2_with fail
        go_ret
        refine ⟨?_, HT0.out.then0 (HTA.out.then0 hT)⟩
        rw [HE.out, show (ByteArray.mk #[47]) = ByteArray.mk [47].toArray from rfl, show (ByteArray.mk #[32]) = ByteArray.mk [32].toArray from rfl, tx_add, tx_add, tx_add, tx_add]
        simp
      | true =>
        go_wp2_with fail
        go_ret
        refine ⟨?_, HT0.out.then0 (HTA.out.then0 hT)⟩
        rw [HE.out, show (ByteArray.mk #[47]) = ByteArray.mk [47].toArray from rfl, show (ByteArray.mk #[32]) = ByteArray.mk [32].toArray from rfl, show (ByteArray.mk #[45]) = ByteArray.mk [45].toArray from rfl, tx_add, tx_add, tx_add, tx_add, tx_add]
        simp
end Go.Proofs.YtedpaajpfaoffaaGreatDoor
namespace Go.Proofs.YtedpaajpfaoffaaGreatDoor
open Go.RowKit
set_option linter.unusedSimpArgs false
set_option linter.unusedVariables false
theorem ratio_bad (n1 n2 : Bool) (d1 d2 : Value) (ds1 ds2 : List Nat) (w : World) (h1 : Dgs w d1 ds1) (h2 : Dgs w d2 ds2) (hb : okQ n1 ds1 n2 ds2 = false) : Calls Tryz.prog 12 #[.agg #[.bool n1, d1, .bool n2, d2]] w fun r w' => r = .returned (.tuple #[.string ⟨#[]⟩, .int .i64 2]) ∧ Touch [] w w' := by
  have HV := Lib.hid (fun W (t : Touch [] w W) => hb ▸ qValid_any n1 n2 d1 d2 ds1 ds2 W (h1.touch0 t) (h2.touch0 t))
  obtain ⟨A1, m1, c1, rfl⟩ := h1.form3
  obtain ⟨A2, m2, c2, rfl⟩ := h2.form3
  obtain ⟨ht0, hcc⟩ := boxq w n1 n2 (.slice A1 m1 c1) (.slice A2 m2 c2)
  have HC := Lib.hid hcc
  clear h1 h2 hcc hb
  go_enter Tryz.func12, Tryz.ntmps12
  go_wp2_with fail
  generalize (w.alloc (.cells #[.bool n1, .slice A1 m1 c1, .bool n2, .slice A2 m2 c2] 34)) = w0 at *
  with_reducible refine (HV.out w0 ht0).mono ?_
  rintro r w1 ⟨rfl, ht1⟩
  dsimp only
  go_wp2_with fail
  go_ret2
  exact ⟨rfl, ht0.then0 ht1⟩
theorem reportRatio_law (n1 n2 : Bool) (d1 d2 : Value) (ds1 ds2 : List Nat) (w : World) (h1 : Dgs w d1 ds1) (h2 : Dgs w d2 ds2) (hk : ∀ W, Touch [] w W → Calls Tryz.prog 7 #[] W (fun e W' => e = .returned (.bool true) ∧ Touch [] W W')) :
    Calls Tryz.prog 4 #[.agg #[.bool n1, d1, .bool n2, d2]] w fun r w' => r = .returned (.bool true) ∧ Touch [] w w' := by
  have HK := Lib.hid hk
  have HV := Lib.hid (fun W (t : Touch [] w W) => qValid2_any n1 n2 d1 d2 ds1 ds2 W (h1.touch0 t) (h2.touch0 t))
  have HB := Lib.hid (fun W (t : Touch [] w W) (hb : okQ n1 ds1 n2 ds2 = false) => ratio_bad n1 n2 d1 d2 ds1 ds2 W (h1.touch0 t) (h2.touch0 t) hb)
  have HG : Hid (okQ n1 ds1 n2 ds2 = true → n2 = false ∧ ∃ l : List UInt8, (∀ W, Touch [] w W → Calls Tryz.prog 12 #[.agg #[.bool n1, d1, .bool n2, d2]] W fun r w' => r = .returned (.tuple #[.string ⟨l.toArray⟩, .int .i64 0]) ∧ Touch [] W w') ∧ (∀ W, Touch [] w W → Calls Tryz.prog 14 #[.agg #[.bool n1, d1, .bool n2, d2]] W fun r w' => r = .returned (.string ⟨l.toArray⟩) ∧ Touch [] W w')) := Lib.hid (fun h => by
    obtain ⟨A, B, e1, e2, rfl, hA, hB, hB0, s1, hg⟩ := okQ_inv h1.below h2.below h
    rw [e1] at h1
    rw [e2] at h2
    exact ⟨rfl, mixL n1 A B, fun W t => ratio_any n1 d1 d2 A B W (h1.touch0 t) (h2.touch0 t) hA hB hB0 s1 hg, fun W t => refRatio_any n1 d1 d2 A B W (h1.touch0 t) (h2.touch0 t) hA hB hB0⟩)
  generalize okQ n1 ds1 n2 ds2 = ok at *
  obtain ⟨A1, c1, rfl⟩ := h1.form
  obtain ⟨A2, c2, rfl⟩ := h2.form
  obtain ⟨hc1, hc2⟩ := h1.cap
  obtain ⟨hc3, hc4⟩ := h2.cap
  obtain ⟨ht0, hcc⟩ := boxq w n1 n2 (.slice A1 ds1.length c1) (.slice A2 ds2.length c2)
  have HC := Lib.hid hcc
  obtain ⟨p0, p1, p2, p3⟩ := hcc _ (Touch.refl _ _)
  clear h1 h2 hcc hk
  generalize ds1.length = l1 at *
  generalize ds2.length = l2 at *
  have HT0 := Lib.hid ht0
  by_cases hbig : 70 < l1 ∨ 70 < l2
  · by_cases hb1 : 70 < l1
    · have e1 : ((70 : Int) < (l1 : Int)) = True := eq_true (by omega)
      clear hbig
      go_enter Tryz.func4, Tryz.ntmps4
      go_wp2_with fail
      with_reducible refine (HK.out _ HT0.out).mono ?_
      rintro r w1 ⟨rfl, ht1⟩
      dsimp only
      go_wp2_with fail
      go_ret
      exact ⟨rfl, HT0.out.then0 ht1⟩
    · have e1 : ((70 : Int) < (l1 : Int)) = False := eq_false (by omega)
      have e2 : ((70 : Int) < (l2 : Int)) = True := eq_true (by omega)
      clear hbig
      go_enter Tryz.func4, Tryz.ntmps4
      go_wp2_with fail
      with_reducible refine (HK.out _ HT0.out).mono ?_
      rintro r w1 ⟨rfl, ht1⟩
      dsimp only
      go_wp2_with fail
      go_ret
      exact ⟨rfl, HT0.out.then0 ht1⟩
  have e1 : ((70 : Int) < (l1 : Int)) = False := eq_false (by omega)
  have e2 : ((70 : Int) < (l2 : Int)) = False := eq_false (by omega)
  clear hbig
  cases ok with
  | false =>
    go_enter Tryz.func4, Tryz.ntmps4
    go_wp2_with fail
    generalize (w.alloc (.cells #[.bool n1, .slice A1 l1 c1, .bool n2, .slice A2 l2 c2] 34)) = w0 at *
    clear p0 p1 p2 p3
    with_reducible refine (HB.out w0 ht0 (by simp)).mono ?_
    rintro r w1 ⟨rfl, ht1⟩
    dsimp only
    obtain ⟨p0, p1, p2, p3⟩ := HC.out _ ht1
    go_wp2_with fail
    with_reducible refine (HV.out w1 (ht0.then0 ht1)).mono ?_
    rintro r w2 ⟨rfl, ht2⟩
    dsimp only
    replace ht2 := ht1.then0 ht2
    clear p0 p1 p2 p3
    go_wp2_with fail
    with_reducible refine (HK.out w2 (ht0.then0 ht2)).mono ?_
    rintro r w3 ⟨rfl, ht3⟩
    dsimp only
    go_wp2_with fail
    go_ret
    exact ⟨rfl, (ht0.then0 ht2).then0 ht3⟩
  | true =>
    obtain ⟨hn2, l, g1, g2⟩ := HG.out rfl
    subst hn2
    have G1 := Lib.hid g1
    have G2 := Lib.hid g2
    clear g1 g2
    go_enter Tryz.func4, Tryz.ntmps4
    go_wp2_with fail
    generalize (w.alloc (.cells #[.bool n1, .slice A1 l1 c1, .bool false, .slice A2 l2 c2] 34)) = w0 at *
    clear p0 p1 p2 p3
    with_reducible refine (G1.out w0 ht0).mono ?_
    rintro r w1 ⟨rfl, ht1⟩
    dsimp only
    obtain ⟨p0, p1, p2, p3⟩ := HC.out _ ht1
    go_wp2_with fail
    with_reducible refine (HV.out w1 (ht0.then0 ht1)).mono ?_
    rintro r w2 ⟨rfl, ht2⟩
    dsimp only
    replace ht2 := ht1.then0 ht2
    clear p0 p1 p2 p3
    obtain ⟨p0, p1, p2, p3⟩ := HC.out _ ht2
    go_wp2_with fail
    with_reducible refine (G2.out w2 (ht0.then0 ht2)).mono ?_
    rintro r w3 ⟨rfl, ht3⟩
    dsimp only
    replace ht3 := ht2.then0 ht3
    clear p0 p1 p2 p3
    go_wp2_with fail
    with_reducible refine (HK.out w3 (ht0.then0 ht3)).mono ?_
    rintro r w4 ⟨rfl, ht4⟩
    dsimp only
    go_wp2_with fail
    go_ret
    exact ⟨rfl, (ht0.then0 ht3).then0 ht4⟩
end Go.Proofs.YtedpaajpfaoffaaGreatDoor
