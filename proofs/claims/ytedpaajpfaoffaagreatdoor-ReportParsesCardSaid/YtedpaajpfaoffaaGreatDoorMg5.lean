/- report.Money, parse, ParseMoney. -/
import Derived.Test.YtedpaajpfaoffaaGreatDoorMg2
set_option linter.all false
set_option maxHeartbeats 4000000
set_option maxRecDepth 100000
namespace Go.Proofs.YtedpaajpfaoffaaGreatDoor
open Go.RowKit
structure MF (w : World) : Prop where
 tab : Lib.TabIs Tryz.prog w "internal/strconv.uint64pow10" .u64 Lib.pow10Tab
 max : ∃ m, w.cell? ⟨6, 0, none⟩ = some (.int .i64 m)
 syn : ∃ ev, w.cell? ⟨3, 0, none⟩ = some ev ∧ (ev = .nilIface ∨ ∃ te pe, ev = .iface te pe)
 ran : ∃ ev, w.cell? ⟨4, 0, none⟩ = some ev ∧ (ev = .nilIface ∨ ∃ te pe, ev = .iface te pe)
theorem cell_touch {w w' : World} {b : Nat} {v : Value} (h : w.cell? ⟨b, 0, none⟩ = some v) (t : Touch [] w w') : w'.cell? ⟨b, 0, none⟩ = some v := by
 have hb : b < w.heap.size := Lib.lt_of_cell h
 rw [t.cell (p := ⟨b, 0, none⟩) hb (by simp)]; exact h
theorem tabIs_touch {w w' : World} {name : String} {k : IntKind} {zs : List Int} (h : Lib.TabIs Tryz.prog w name k zs) (t : Touch [] w w') : Lib.TabIs Tryz.prog w' name k zs := by
 unfold Lib.TabIs World.var? at h ⊢
 cases hg : Tryz.prog.globalNamed name with
 | none => rw [hg] at h; simp at h
 | some g =>
  rw [hg] at h
  simp only [Option.bind_some] at h ⊢
  by_cases hlt : g < w.heap.size
  ·rw [t.block g hlt (by simp)]; exact h
  ·rw [Array.getElem?_eq_none (by omega)] at h; simp at h
theorem MF.touch {w w' : World} (h : MF w) (t : Touch [] w w') : MF w' := by
 obtain ⟨h1, ⟨m, h2⟩, ⟨e1, h3, h4⟩, ⟨e2, h5, h6⟩⟩ := h
 exact ⟨tabIs_touch h1 t, ⟨m, cell_touch h2 t⟩, ⟨e1, cell_touch h3 t, h4⟩, ⟨e2, cell_touch h5 t, h6⟩⟩
theorem money_any (n : Int) (w : World) (h0 : -9223372036854775808 ≤ n) (h1 : n ≤ 9223372036854775807) (htab : Lib.TabIs Tryz.prog w "internal/strconv.uint64pow10" .u64 Lib.pow10Tab) : Calls Tryz.prog 10 #[.int .i64 n] w fun e w' => e = .returned (.string ⟨(moneyL n).toArray⟩) ∧ Touch [] w w' := by
 have HP := Lib.hid (itoa_any n w h0 h1 htab)
 have HP2 := Lib.hid (fun w1 (t : Touch [] w w1) => itoa_any n w1 h0 h1 (tabIs_touch htab t))
 have hl := itoa_le20 n h0 h1
 clear htab
 by_cases hn : n < 0
 ·have e1 : Lib.itoa n = 45 :: Lib.decDigits n.natAbs := by unfold Lib.itoa; rw [if_pos hn]
  have e2 : moneyL n = 45 :: groupL (Lib.decDigits n.natAbs) := by unfold moneyL; rw [if_pos hn]
  rw [e1] at HP HP2 hl
  rw [e2]
  have HX := Lib.hid (tx_drop1 45 (Lib.decDigits n.natAbs))
  have HC := Lib.hid (fun W => rgroup_any (Lib.decDigits n.natAbs) W (by simp at hl; omega))
  have hg := cgrp_length (Lib.decDigits n.natAbs).length (Lib.decDigits n.natAbs) 0
  have hs1 : ¬ 9223372036854775807 < 1 + (groupL (Lib.decDigits n.natAbs)).length := by
   unfold groupL
   simp at hl; omega
  have hsz : (ByteArray.mk (45 :: Lib.decDigits n.natAbs).toArray).size = (Lib.decDigits n.natAbs).length + 1 := by simp [ByteArray.size]
  clear hg
  generalize Lib.decDigits n.natAbs = d at *
  go_enter Tryz.func10, Tryz.ntmps10
  go_wp2_with fail
  refine HP.out.mono ?_
  rintro r w1 ⟨rfl, ht⟩
  go_wp2_with fail
  rw [HX.out]
  refine (HC.out w1).mono ?_
  rintro r w2 ⟨rfl, ht2⟩
  go_wp2_with fail
  go_ret
  refine ⟨?_, ht.then0 ht2⟩
  rw [show (ByteArray.mk #[45]) = ByteArray.mk [45].toArray from rfl, tx_add]
  rfl
 ·have e1 : Lib.itoa n = Lib.decDigits n.toNat := by unfold Lib.itoa; rw [if_neg hn]
  have e2 : moneyL n = groupL (Lib.decDigits n.toNat) := by unfold moneyL; rw [if_neg hn]
  rw [e1] at HP HP2 hl
  rw [e2]
  have HC := Lib.hid (fun W => rgroup_any (Lib.decDigits n.toNat) W (by omega))
  go_enter Tryz.func10, Tryz.ntmps10
  go_wp2_with fail
  refine HP.out.mono ?_
  rintro r w1 ⟨rfl, ht⟩
  go_wp2_with fail
  refine (HP2.out w1 ht).mono ?_
  rintro r w2 ⟨rfl, ht2⟩
  go_wp2_with fail
  refine (HC.out w2).mono ?_
  rintro r w3 ⟨rfl, ht3⟩
  go_wp2_with fail
  go_ret
  exact ⟨rfl, (ht.then0 ht2).then0 ht3⟩
def parseV (l : List UInt8) : Value := match parseP l with
 | some n => .tuple #[.int .i64 n, .bool true]
 | none => .tuple #[.int .i64 0, .bool false]
theorem noComma_le (l : List UInt8) : (noComma l).length ≤ l.length := List.length_filter_le ..
theorem touch_bytes {w : World} {e : TypeId} {t : ByteArray} : Touch [] w (Lib.bytesWorld w e t) := by
 have h1 : Touch [] w (w.drew.alloc (.cells (Lib.bytesCells w e t) e)) := (Touch.refl [] w).drew.alloc _
 have key : ∀ (W : World) (a : Addr) (n : Nat), w.heap.size ≤ a.block → Touch [] w W → Touch [] w (W.freeze a n) := by
  intro W a n ha h
  unfold World.freeze
  split
  ·exact h
  ·refine ⟨h.os, h.tape, h.output, by simpa using h.size, fun k hk hn => ?_⟩
   rw [← h.block k hk hn]
   simp only [Array.getElem?_modify]
   rw [if_neg (by omega)]
 exact key _ _ _ (Nat.le_refl _) h1
theorem parse_any (l : List UInt8) (w : World) (hl : l.length ≤ 100000) (hm : MF w) : Calls Tryz.prog 20 #[.string ⟨l.toArray⟩] w fun e w' => e = .returned (parseV l) ∧ Touch [] w w' := by
 obtain ⟨m, hmax⟩ := hm.max
 have HR := Lib.hid (repl_any l w hl m hmax)
 have hnl := noComma_le l
 have hx : (ByteArray.mk (noComma l).toArray).data.toList = noComma l := by simp
 have hsz := tx_size (noComma l)
 clear hmax
 cases ha : Lib.atoiAll (noComma l) with
 | ok v =>
  obtain ⟨v0, v1⟩ := Lib.atoiAll_bounds ha
  have HA := Lib.hid (fun w1 => Tryz.strconv_Atoi_ok ⟨(noComma l).toArray⟩ (by rw [hsz]; omega) v (by rw [hx]; exact ha) w1)
  have HM := Lib.hid (fun w1 (t : Touch [] w w1) => money_any v w1 v0 v1 (hm.touch t).tab)
  have hpv : parseV l = if moneyL v = l then .tuple #[.int .i64 v, .bool true] else .tuple #[.int .i64 0, .bool false] := by
   unfold parseV parseP
   rw [ha]
   simp only
   by_cases hc : moneyL v = l
   ·rw [if_pos hc, if_pos hc]
   ·rw [if_neg hc, if_neg hc]
  rw [hpv]
  clear hm hpv ha hx hsz v0 v1 hnl
  by_cases hc : moneyL v = l
  ·rw [if_pos hc]
   go_enter Tryz.func20, Tryz.ntmps20
   go_wp2_with fail
   refine HR.out.mono ?_
   rintro r w1 ⟨rfl, ht⟩
   go_wp2_with fail
   refine (HA.out w1).mono ?_
   rintro r w2 ⟨rfl, hw2⟩
   have ht2 : Touch [] w1 w2 := by
    rcases hw2 with rfl | ⟨t, rfl⟩
    ·exact Touch.refl _ _
    ·exact touch_bytes
   clear hw2
   have ht3 := ht.then0 ht2
   go_wp2_with fail
   refine (HM.out w2 ht3).mono ?_
   rintro r w3 ⟨rfl, ht4⟩
   rw [hc]
   go_wp2_with fail
   go_ret2
   exact ⟨rfl, ht3.then0 ht4⟩
  ·rw [if_neg hc]
   have hc' := beq_false_of_ne hc
   clear hc
   go_enter Tryz.func20, Tryz.ntmps20
   go_wp2_with fail
   refine HR.out.mono ?_
   rintro r w1 ⟨rfl, ht⟩
   go_wp2_with fail
   refine (HA.out w1).mono ?_
   rintro r w2 ⟨rfl, hw2⟩
   have ht2 : Touch [] w1 w2 := by
    rcases hw2 with rfl | ⟨t, rfl⟩
    ·exact Touch.refl _ _
    ·exact touch_bytes
   clear hw2
   have ht3 := ht.then0 ht2
   go_wp2_with fail
   refine (HM.out w2 ht3).mono ?_
   rintro r w3 ⟨rfl, ht4⟩
   go_wp2_with fail
   go_ret2
   exact ⟨rfl, ht3.then0 ht4⟩
 | range =>
  obtain ⟨ev, he1, he2⟩ := hm.ran
  have HA := Lib.hid (fun w1 (t : Touch [] w w1) => Tryz.strconv_Atoi_range ⟨(noComma l).toArray⟩ (by rw [hsz]; omega) (by rw [hx]; exact ha) ev w1 (cell_touch he1 t) he2)
  have hpv : parseV l = .tuple #[.int .i64 0, .bool false] := by
   unfold parseV parseP
   rw [ha]
  rw [hpv]
  clear hm hpv ha hx hsz hnl he1 he2
  go_enter Tryz.func20, Tryz.ntmps20
  go_wp2_with fail
  refine HR.out.mono ?_
  rintro r w1 ⟨rfl, ht⟩
  go_wp2_with fail
  refine (HA.out w1 ht).mono ?_
  rintro r w2 ⟨N, rfl, hN, hN2, hb⟩
  clear hN hN2
  have ht3 := ht.then0 (Touch.of_below hb)
  go_wp2_with fail
  go_ret2
  exact ⟨rfl, ht3⟩
 | _ =>
  obtain ⟨ev, he1, he2⟩ := hm.syn
  have HA := Lib.hid (fun w1 (t : Touch [] w w1) => Any.strconv_Atoi_syntax Tryz.laysC172 ⟨(noComma l).toArray⟩ (by rw [hsz]; omega) (by rw [hx]; exact ha) ev w1 (cell_touch he1 t) he2)
  have hpv : parseV l = .tuple #[.int .i64 0, .bool false] := by
   unfold parseV parseP
   rw [ha]
  rw [hpv]
  clear hm hpv ha hx hsz hnl he1 he2
  go_enter Tryz.func20, Tryz.ntmps20
  go_wp2_with fail
  refine HR.out.mono ?_
  rintro r w1 ⟨rfl, ht⟩
  go_wp2_with fail
  refine (HA.out w1 ht).mono ?_
  rintro r w2 ⟨N, rfl, hN, hN2, hb⟩
  clear hN hN2
  have ht3 := ht.then0 (Touch.of_below hb)
  go_wp2_with fail
  go_ret2
  exact ⟨rfl, ht3⟩
theorem parseMoney_any (l : List UInt8) (w : World) (hl : l.length ≤ 1000) (hm : MF w) : Calls Tryz.prog 8 #[.string ⟨l.toArray⟩] w fun e w' => e = .returned (.tuple #[.int .i64 (moneyOf l).1, .int .i64 (moneyOf l).2]) ∧ Touch [] w w' := by
 have HP := Lib.hid (parse_any l w (by omega) hm)
 unfold parseV at HP
 unfold moneyOf
 cases hp : parseP l with
 | none =>
  rw [hp] at HP
  simp only at HP ⊢
  go_enter Tryz.func8, Tryz.ntmps8
  go_wp2_with fail
  refine HP.out.mono ?_
  rintro r w1 ⟨rfl, ht⟩
  go_wp2_with fail
  go_ret2
  exact ⟨rfl, ht⟩
 | some n =>
  rw [hp] at HP
  simp only at HP ⊢
  clear hp hm
  by_cases h1 : n < -1125899906842624
  ·have hs : small n = false := by unfold small; simp; omega
   rw [hs]
   go_enter Tryz.func8, Tryz.ntmps8
   go_wp2_with fail
   refine HP.out.mono ?_
   rintro r w1 ⟨rfl, ht⟩
   go_wp2_with fail
   go_ret2
   exact ⟨rfl, ht⟩
  ·by_cases h2 : 1125899906842624 < n
   ·have hs : small n = false := by unfold small; simp; omega
    rw [hs]
    go_enter Tryz.func8, Tryz.ntmps8
    go_wp2_with fail
    refine HP.out.mono ?_
    rintro r w1 ⟨rfl, ht⟩
    go_wp2_with fail
    go_ret2
    exact ⟨rfl, ht⟩
   ·have hs : small n = true := by unfold small; simp; omega
    rw [hs]
    go_enter Tryz.func8, Tryz.ntmps8
    go_wp2_with fail
    refine HP.out.mono ?_
    rintro r w1 ⟨rfl, ht⟩
    go_wp2_with fail
    go_ret2
    exact ⟨rfl, ht⟩
end Go.Proofs.YtedpaajpfaoffaaGreatDoor
