/- The chapter's examples, walked by the contracts: bandplanlaw52.known. -/
import Derived.Test.YtedpaajpfaoffaaGreatDoorKo1
import Derived.Test.YtedpaajpfaoffaaGreatDoorSf1
import Derived.Test.YtedpaajpfaoffaaGreatDoorRmA
set_option linter.all false
set_option maxHeartbeats 4000000
set_option maxRecDepth 100000
namespace Go.Proofs.YtedpaajpfaoffaaGreatDoor
open Go.RowKit
theorem dec999 : Lib.decDigits 999 = [57, 57, 57] := by rw [dec_step (by omega), dec_step (by omega), dec_last (by omega)]; rfl
theorem dec1000 : Lib.decDigits 1000 = [49, 48, 48, 48] := by rw [dec_step (by omega), dec_step (by omega), dec_step (by omega), dec_last (by omega)]; rfl
theorem dec1234 : Lib.decDigits 1234 = [49, 50, 51, 52] := by rw [dec_step (by omega), dec_step (by omega), dec_step (by omega), dec_last (by omega)]; rfl
theorem decM : Lib.decDigits 1234567 = [49, 50, 51, 52, 53, 54, 55] := by rw [dec_step (by omega), dec_step (by omega), dec_step (by omega), dec_step (by omega), dec_step (by omega), dec_step (by omega), dec_last (by omega)]; rfl
theorem money999 : moneyL 999 = [57, 57, 57] := by
 unfold moneyL groupL
 rw [if_neg (by omega), show (999 : Int).toNat = 999 from rfl, dec999]
 rfl
theorem moneyK : moneyL 1000 = [49, 44, 48, 48, 48] := by
 unfold moneyL groupL
 rw [if_neg (by omega), show (1000 : Int).toNat = 1000 from rfl, dec1000]
 rfl
theorem moneyMK : moneyL (-1000) = [45, 49, 44, 48, 48, 48] := by
 unfold moneyL groupL
 rw [if_pos (by omega), show (-1000 : Int).natAbs = 1000 from rfl, dec1000]
 rfl
theorem moneyMio : moneyL 1234567 = [49, 44, 50, 51, 52, 44, 53, 54, 55] := by
 unfold moneyL groupL
 rw [if_neg (by omega), show (1234567 : Int).toNat = 1234567 from rfl, decM]
 rfl
theorem of_1 : moneyOf [49, 44, 48, 48, 48] = (1000, 0) := by
 rw [readings]
 unfold amountOf
 rw [show amountN [49, 44, 48, 48, 48] = 1000 from by decide, if_pos ⟨by decide, moneyK⟩]
theorem of_2 : moneyOf [49, 48, 48, 48] = (0, 6) := by
 rw [readings]
 unfold amountOf
 rw [show amountN [49, 48, 48, 48] = 1000 from by decide, if_neg (by rw [moneyK]; decide)]
theorem of_3 : moneyOf [45, 48] = (0, 6) := by
 rw [readings]
 unfold amountOf
 rw [show amountN [45, 48] = 0 from by decide, if_neg (by rw [money0]; decide)]
theorem mix1 : mixL false 2469 2 = [49, 44, 50, 51, 52, 32, 49, 47, 50] := by
 unfold mixL groupL
 rw [show 2469 / 2 = 1234 from rfl, show 2469 % 2 = 1 from rfl, dec1234, dec_last (u := 1) (by omega), dec_last (u := 2) (by omega)]
 rfl
theorem mix2 : mixL true 1 3 = [45, 48, 32, 49, 47, 51] := by
 unfold mixL groupL
 rw [show 1 / 3 = 0 from rfl, show 1 % 3 = 1 from rfl, dec_last (u := 0) (by omega), dec_last (u := 1) (by omega), dec_last (u := 3) (by omega)]
 rfl
theorem res_ex : resL ex52 = some [[114, 101, 118, 101, 114, 115, 101], ev52, [110, 101, 120, 116, 32, 102, 111, 114, 119, 97, 114, 100]] := by
 rw [resL_good ex0 (by omega) (by omega)]
 have hb : bodyL ex52 1 1 = some ([ev52], (0, 6)) := by
  unfold bodyL
  rw [if_pos rfl]
  unfold evL
  rw [limO_of ex1 (by omega) (by omega)]
  show ((rowsB (evStep ex52) [] 1 2)).map _ = _
  rw [rowsB_succ]
  unfold evStep
  rw [limO_of ex2 (by omega) (by unfold maxI; omega)]
  simp only [Option.bind_some]
  rw [limO_of ex3 (by omega) (by omega)]
  simp only [Option.bind_some]
  rw [limO_of ex4 (by omega) (by omega)]
  simp only [Option.bind_some]
  rw [limO_of ex5 (by omega) (by unfold maxI; omega)]
  simp only [Option.bind_some, rowsB_zero, Option.map_some, List.nil_append]
  unfold evLine
  rw [itoa5, money0]
  rfl
 rw [hb]
 unfold tailL
 simp only [Option.bind_some]
 rw [limO_of ex6 (by omega) (by omega)]
 simp only [Option.bind_some]
 rw [if_pos (by rfl)]
 rfl
structure MN (w : World) : Prop where
 mf : MF w
 rn : RN w
 big : 11 ≤ w.heap.size
theorem MN.touch {w w' : World} (h : MN w) (t : Touch [] w w') : MN w' := ⟨h.mf.touch t, h.rn.touch t (by simp), Nat.le_trans h.big t.size⟩
theorem StrsAt.stay {w w' : World} {v : Value} {xs : List (List UInt8)} (h : StrsAt w v xs) (t : Touch [] w w') : StrsAt w' v xs := Reads.touch0 h t
theorem known_hand (w : World) (hm : MN w) : Calls Tryz.prog 7 #[] w fun e w' => e = .returned (.bool true) ∧ Touch [] w w' := by
 have HM := Lib.hid (fun (n : Int) (W : World) (t : Touch [] w W) (h0 : -9223372036854775808 ≤ n) (h1 : n ≤ 9223372036854775807) => money_any n W h0 h1 (hm.touch t).mf.tab)
 have HP := Lib.hid (fun (l : List UInt8) (W : World) (t : Touch [] w W) (hl : l.length ≤ 1000) => parseMoney_any l W hl (hm.touch t).mf)
 have HR1 := Lib.hid (fun (d1 d2 : Value) (W : World) (h1 : Dgs W d1 (dg 2469)) (h2 : Dgs W d2 (dg 2)) => ratio_any false d1 d2 2469 2 W h1 h2 (small_top (by omega)) (small_top (by omega)) (by omega) (by simp) (by decide))
 have HR2 := Lib.hid (fun (d1 d2 : Value) (W : World) (h1 : Dgs W d1 (dg 1)) (h2 : Dgs W d2 (dg 3)) => ratio_any true d1 d2 1 3 W h1 h2 (small_top (by omega)) (small_top (by omega)) (by omega) (by omega) (by decide))
 have HX := Lib.hid (fun (v : Value) (W : World) (t : Touch [] w W) (hv : Bytes W v ex52) => by
  obtain ⟨mx, hmx⟩ := (hm.touch t).mf.max
  have := result_any ex52 v W mx hv (hm.touch t).rn (hm.touch t).big hmx (by decide)
  rw [res_ex] at this
  exact this)
 have ht0 := (Touch.refl [] w).alloc (.cells #[.string ⟨#[48]⟩, .string ⟨#[57, 57, 57]⟩, .string ⟨#[45, 49, 44, 48, 48, 48]⟩, .string ⟨#[49, 44, 50, 51, 52, 44, 53, 54, 55]⟩] 9)
 have b0 : Blk (w.alloc (.cells #[.string ⟨#[48]⟩, .string ⟨#[57, 57, 57]⟩, .string ⟨#[45, 49, 44, 48, 48, 48]⟩, .string ⟨#[49, 44, 50, 51, 52, 44, 53, 54, 55]⟩] 9)) w.heap.size 9 #[.string ⟨#[48]⟩, .string ⟨#[57, 57, 57]⟩, .string ⟨#[45, 49, 44, 48, 48, 48]⟩, .string ⟨#[49, 44, 50, 51, 52, 44, 53, 54, 55]⟩] := Blk.new _ _ _
 clear hm
 go_enter Tryz.func7, Tryz.ntmps7
 go_wp2_with fail
 generalize (w.alloc (.cells #[.string ⟨#[48]⟩, .string ⟨#[57, 57, 57]⟩, .string ⟨#[45, 49, 44, 48, 48, 48]⟩, .string ⟨#[49, 44, 50, 51, 52, 44, 53, 54, 55]⟩] 9)) = w0 at *
 generalize w.heap.size = g at *
 have HB := Lib.hid (fun (W : World) (t : Touch [] w0 W) => b0.touch t (by simp))
 have HT0 := Lib.hid ht0
 clear b0 ht0
 go_loopw [17] (fun ti wr => (ti = .int .i64 0 ∨ ti = .int .i64 1 ∨ ti = .int .i64 2 ∨ ti = .int .i64 3 ∨ ti = .int .i64 4) ∧ Touch [] w0 wr) (fun ti _ => 4 - (intOf ti).toNat)
 case atStart => exact ⟨.inl rfl, Touch.refl _ _⟩
 case round =>
  obtain ⟨rfl | rfl | rfl | rfl | rfl, ht⟩ := hrel
  ·have cs := (HB.out _ ht).cell 0
   simp at cs
   go_wp2_with fail
   with_reducible refine (HM.out 0 _ (HT0.out.then0 (ht.alloc _)) (by omega) (by omega)).mono ?_
   rintro r w1 ⟨rfl, ht1⟩
   rw [money0]
   replace ht1 := (ht.alloc _).then0 ht1
   clear cs
   go_wp2_with fail
   go_roundw
   case rel => exact ⟨.inr (.inl rfl), ht1⟩
   case measure => simp [intOf]
  ·have cs := (HB.out _ ht).cell 1
   simp at cs
   go_wp2_with fail
   with_reducible refine (HM.out 999 _ (HT0.out.then0 (ht.alloc _)) (by omega) (by omega)).mono ?_
   rintro r w1 ⟨rfl, ht1⟩
   rw [money999]
   replace ht1 := (ht.alloc _).then0 ht1
   clear cs
   go_wp2_with fail
   go_roundw
   case rel => exact ⟨.inr (.inr (.inl rfl)), ht1⟩
   case measure => simp [intOf]
  ·have cs := (HB.out _ ht).cell 2
   simp at cs
   go_wp2_with fail
   with_reducible refine (HM.out (-1000) _ (HT0.out.then0 (ht.alloc _)) (by omega) (by omega)).mono ?_
   rintro r w1 ⟨rfl, ht1⟩
   rw [moneyMK]
   replace ht1 := (ht.alloc _).then0 ht1
   clear cs
   go_wp2_with fail
   go_roundw
   case rel => exact ⟨.inr (.inr (.inr (.inl rfl))), ht1⟩
   case measure => simp [intOf]
  ·have cs := (HB.out _ ht).cell 3
   simp at cs
   go_wp2_with fail
   with_reducible refine (HM.out 1234567 _ (HT0.out.then0 (ht.alloc _)) (by omega) (by omega)).mono ?_
   rintro r w1 ⟨rfl, ht1⟩
   rw [moneyMio]
   replace ht1 := (ht.alloc _).then0 ht1
   clear cs
   go_wp2_with fail
   go_roundw
   case rel => exact ⟨.inr (.inr (.inr (.inr rfl))), ht1⟩
   case measure => simp [intOf]
  ·go_wp2_with fail
   with_reducible refine (HP.out [49, 44, 48, 48, 48] _ (HT0.out.then0 ht) (by decide)).mono ?_
   rintro r w1 ⟨rfl, ht1⟩
   rw [of_1]
   replace ht := ht.then0 ht1
   clear ht1
   go_wp2_with fail
   with_reducible refine (HP.out [49, 48, 48, 48] _ (HT0.out.then0 ht) (by decide)).mono ?_
   rintro r w2 ⟨rfl, ht1⟩
   rw [of_2]
   replace ht := ht.then0 ht1
   clear ht1
   go_wp2_with fail
   with_reducible refine (HP.out [45, 48] _ (HT0.out.then0 ht) (by decide)).mono ?_
   rintro r w3 ⟨rfl, ht1⟩
   rw [of_3]
   replace ht := ht.then0 ht1
   clear ht1
   go_wp2_with fail
   with_reducible refine (qOf1_any _).mono ?_
   rintro r w4 ⟨x, rfl, ⟨A1, k1, c1, A2, k2, c2, rfl, hd1, hd2⟩, ht1⟩
   dsimp only
   replace ht := ht.then0 ht1
   clear ht1
   have HD1 := Lib.hid hd1
   have HD2 := Lib.hid hd2
   clear hd1 hd2
   go_wp2_with fail
   with_reducible refine (HR1.out _ _ _ HD1.out HD2.out).mono ?_
   rintro r w5 ⟨rfl, ht1⟩
   rw [mix1]
   replace ht := ht.then0 ht1
   clear ht1 HD1 HD2
   go_wp2_with fail
   with_reducible refine (qOf2_any _).mono ?_
   rintro r w6 ⟨x, rfl, ⟨A3, k3, c3, A4, k4, c4, rfl, hd1, hd2⟩, ht1⟩
   dsimp only
   replace ht := ht.then0 ht1
   clear ht1
   have HD1 := Lib.hid hd1
   have HD2 := Lib.hid hd2
   clear hd1 hd2
   go_wp2_with fail
   with_reducible refine (HR2.out _ _ _ HD1.out HD2.out).mono ?_
   rintro r w7 ⟨rfl, ht1⟩
   rw [mix2]
   replace ht := ht.then0 ht1
   clear ht1 HD1 HD2
   go_wp2_with fail
   have hal := (Touch.refl [] w7).alloc (.cells #[.int .u8 1, .int .u8 1, .int .u8 5, .int .u8 3, .int .u8 3, .int .u8 0, .int .u8 2] 5)
   have hrow : Bytes (w7.alloc (.cells #[.int .u8 1, .int .u8 1, .int .u8 5, .int .u8 3, .int .u8 3, .int .u8 0, .int .u8 2] 5)) (.slice (some ⟨w7.heap.size, 0, none⟩) 7 7) ex52 := (ownLit w7 _ rfl 5 1 7 (ex52.map B) (by decide) (by simp [maxLen])).reads
   replace ht := ht.then0 hal
   clear hal
   generalize (w7.alloc (.cells #[.int .u8 1, .int .u8 1, .int .u8 5, .int .u8 3, .int .u8 3, .int .u8 0, .int .u8 2] 5)) = w8 at *
   generalize w7.heap.size = g7 at *
   with_reducible refine (HX.out _ _ (HT0.out.then0 ht) hrow).mono ?_
   rintro r w9 ⟨u, rfl, hou, ht1⟩
   rw [show (resE (some [[114, 101, 118, 101, 114, 115, 101], ev52, [110, 101, 120, 116, 32, 102, 111, 114, 119, 97, 114, 100]])) = 0 from rfl]
   replace ht := ht.then0 ht1
   clear ht1 hrow
   replace hou : StrsAt w9 u [[114, 101, 118, 101, 114, 115, 101], ev52, [110, 101, 120, 116, 32, 102, 111, 114, 119, 97, 114, 100]] := hou
   obtain ⟨Au, cu, rfl, -⟩ := hou.form
   replace hou : StrsAt w9 (.slice Au 3 cu) [[114, 101, 118, 101, 114, 115, 101], ev52, [110, 101, 120, 116, 32, 102, 111, 114, 119, 97, 114, 100]] := hou
   have HU := Lib.hid hou
   clear hou
   go_wp2_with fail
   have hal2 := (Touch.refl [] w9).alloc (.cells #[.string ⟨#[114, 101, 118, 101, 114, 115, 101]⟩, .string ⟨#[53, 32, 101, 120, 105, 116, 32, 117, 104, 102, 32, 48]⟩, .string ⟨#[110, 101, 120, 116, 32, 102, 111, 114, 119, 97, 114, 100]⟩] 9)
   have hlit : StrsAt (w9.alloc (.cells #[.string ⟨#[114, 101, 118, 101, 114, 115, 101]⟩, .string ⟨#[53, 32, 101, 120, 105, 116, 32, 117, 104, 102, 32, 48]⟩, .string ⟨#[110, 101, 120, 116, 32, 102, 111, 114, 119, 97, 114, 100]⟩] 9)) (.slice (some ⟨w9.heap.size, 0, none⟩) 3 3) [[114, 101, 118, 101, 114, 115, 101], ev52, [110, 101, 120, 116, 32, 102, 111, 114, 119, 97, 114, 100]] := (ownLit w9 _ rfl 9 1 3 (List.map str [[114, 101, 118, 101, 114, 115, 101], ev52, [110, 101, 120, 116, 32, 102, 111, 114, 119, 97, 114, 100]]) rfl (by simp [maxLen])).reads
   with_reducible refine (same_any _ _ [[114, 101, 118, 101, 114, 115, 101], ev52, [110, 101, 120, 116, 32, 102, 111, 114, 119, 97, 114, 100]] [[114, 101, 118, 101, 114, 115, 101], ev52, [110, 101, 120, 116, 32, 102, 111, 114, 119, 97, 114, 100]] _ (HU.out.stay hal2) hlit).mono ?_
   rintro r w10 ⟨rfl, ht1⟩
   rw [decide_eq_true (rfl : ([[114, 101, 118, 101, 114, 115, 101], ev52, [110, 101, 120, 116, 32, 102, 111, 114, 119, 97, 114, 100]] : List (List UInt8)) = [[114, 101, 118, 101, 114, 115, 101], ev52, [110, 101, 120, 116, 32, 102, 111, 114, 119, 97, 114, 100]])]
   have HTF := Lib.hid (((HT0.out.then0 ht).then0 hal2).then0 ht1)
   clear hlit ht1 hal2
   go_wp2_with fail
   go_ret
   exact ⟨rfl, HTF.out⟩
end Go.Proofs.YtedpaajpfaoffaaGreatDoor
