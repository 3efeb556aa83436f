/- bandplanref52: Digits, Plain, Commas, Money, Amount. -/
import Derived.Lib.ItoaLen
import Derived.Test.YtedpaajpfaoffaaGreatDoorMnA
import Derived.Test.YtedpaajpfaoffaaGreatDoorBase
import Derived.Test.YtedpaajpfaoffaaGreatDoorProg
set_option linter.all false
set_option maxHeartbeats 4000000
set_option maxRecDepth 100000
namespace Go.Proofs.YtedpaajpfaoffaaGreatDoor
open Go.RowKit
theorem conv1 (W : World) (x k : Nat) (hk : x = k) (hk2 : k < 256) : (convert 30 9 (.slice (some ⟨W.heap.size, 0, none⟩) 1 1)).run Tryz.prog (W.alloc (.cells #[.int .u8 (x : Int)] 5)) = .ok (.string ⟨#[UInt8.ofNat k]⟩) (W.alloc (.cells #[.int .u8 (x : Int)] 5)) := by
 subst hk
 refine run_convert_bytes_back _ _ _ 5 ⟨W.heap.size, 0, none⟩ 1 [UInt8.ofNat x] Tryz.underlying30 Tryz.underlying5 Tryz.underlying9 (fun j hj => ?_)
 have hj : j = 0 := by simpa using hj
 subst hj
 have := (Blk.new W 5 #[Value.int .u8 (x : Int)]).cell 0
 rw [add_lit]
 have e : (UInt8.ofNat x).toNat = x := by simp; omega
 show World.cell? _ _ = some (.int .u8 ((UInt8.ofNat x).toNat : Int))
 rw [e]
 exact this
theorem tx_add (a b : List UInt8) : (ByteArray.mk a.toArray) ++ (ByteArray.mk b.toArray) = ByteArray.mk (a ++ b).toArray := by
 apply ByteArray.ext
 simp
theorem dec_le20 (u : Nat) (h : u ≤ 18446744073709551615) : (Lib.decDigits u).length ≤ 20 := by
 rw [Lib.decDigits_length]
 exact Lib.nDigits_le20 u (by omega)
theorem digits_any (n : Nat) (w : World) (hn : n ≤ 9223372036854775807) : Calls Tryz.prog 75 #[.int .i64 n] w fun e w' => e = .returned (.string ⟨(Lib.decDigits n).toArray⟩) ∧ Touch [] w w' := by
 go_enter Tryz.func75, Tryz.ntmps75
 go_wp2_with fail
 go_loopw [0, 3] (fun tn ts wr => ∃ (u : Nat) (acc : List UInt8), tn = .int .i64 u ∧ ts = .string ⟨acc.toArray⟩ ∧ Hid (Lib.decDigits u ++ acc = Lib.decDigits n) ∧ u ≤ n ∧ Touch [] w wr) (fun tn _ _ => (intOf tn).toNat)
 case atStart => exact ⟨n, [], rfl, rfl, Lib.hid (by simp), by omega, Touch.refl _ _⟩
 case round =>
  obtain ⟨u, acc, rfl, rfl, HD, hu, ht⟩ := hrel
  have hal : ¬ 9223372036854775807 < 1 + acc.length := by
   have h1 := dec_le20 n (by omega)
   rw [← HD.out] at h1
   simp at h1
   omega
  by_cases h9 : 9 < u
  ·have h9' : (9 : Int) < (u : Int) := by omega
   have hc := conv1 wr (48 + u % 10) (48 + u % 10) rfl (by omega)
   have HN := Lib.hid (dec_step h9)
   simp only [Int.natCast_add, Int.natCast_emod, Int.cast_ofNat_Int] at hc
   generalize (UInt8.ofNat (48 + u % 10)) = d at hc HN
   go_wp2_with fail
   go_roundw
   case rel =>
    refine ⟨u / 10, d :: acc, by go_num, ?_, ?_, by omega, ht.alloc _⟩
    ·rw [tx_add [d] acc]; rfl
    ·refine Lib.hid ?_
     rw [← HD.out, HN.out]
     simp
   case measure => simp [intOf]; omega
  ·have h9' : ¬ (9 : Int) < (u : Int) := by omega
   have hc := conv1 wr (48 + u) (48 + u) rfl (by omega)
   have HN := Lib.hid (dec_last (u := u) (by omega))
   simp only [Int.natCast_add, Int.natCast_emod, Int.cast_ofNat_Int] at hc
   generalize (UInt8.ofNat (48 + u)) = d at hc HN
   go_wp2_with fail
   go_ret
   refine ⟨?_, ht.alloc _⟩
   rw [tx_add [d] acc, ← HD.out, HN.out]
   rfl
theorem plain_any (n : Int) (w : World) (h0 : -9223372036854775808 ≤ n) (h1 : n ≤ 9223372036854775807) : Calls Tryz.prog 24 #[.int .i64 n] w fun e w' => e = .returned (.string ⟨(Lib.itoa n).toArray⟩) ∧ Touch [] w w' := by
 rw [← plain_itoa]
 by_cases hn : 0 ≤ n
 ·obtain ⟨u, rfl⟩ : ∃ u : Nat, n = u := ⟨n.toNat, by omega⟩
  have hd := Lib.hid (digits_any u w (by omega))
  have e : plainL (u : Int) = Lib.decDigits u := by simp [plainL]
  rw [e]
  go_enter Tryz.func24, Tryz.ntmps24
  go_wp2_with fail
  refine hd.out.mono ?_
  rintro r w1 ⟨rfl, ht⟩
  go_wp2_with fail
  go_ret
  exact ⟨rfl, ht⟩
 ·obtain ⟨u, rfl⟩ : ∃ u : Nat, n = -(u : Int) := ⟨n.natAbs, by omega⟩
  have hu0 : ¬ u = 0 := by omega
  have HD := Lib.hid (fun (v : Nat) (W : World) (h : v ≤ 9223372036854775807) => digits_any v W h)
  have hb := dec_le20 (u / 10) (by omega)
  have hb2 := dec_le20 (u % 10) (by omega)
  by_cases hd : u / 10 = 0
  ·have e : plainL (-(u : Int)) = 45 :: Lib.decDigits (u % 10) := by
    unfold plainL
    rw [if_neg hn, if_pos (by simpa using hd)]
    simp
   rw [e]
   have hd' : ((u : Int) / 10 == 0) = true := by simp; omega
   have hs1 : ¬ 9223372036854775807 < 1 + (Lib.decDigits (u % 10)).length := by omega
   have HX := HD.out (u % 10) w (by omega)
   have HX := Lib.hid HX
   have hm : ((u % 10 : Nat) : Int) = (u : Int) % 10 := by omega
   rw [hm] at HX
   go_enter Tryz.func24, Tryz.ntmps24
   go_wp2_with fail
   refine HX.out.mono ?_
   rintro r w1 ⟨rfl, ht⟩
   go_wp2_with fail
   go_ret
   refine ⟨?_, ht⟩
   rw [show (ByteArray.mk #[45]) = ByteArray.mk [45].toArray from rfl, tx_add]
   rfl
  ·have e : plainL (-(u : Int)) = 45 :: (Lib.decDigits (u / 10) ++ Lib.decDigits (u % 10)) := by
    unfold plainL
    rw [if_neg hn, if_neg (by simpa using hd)]
    simp
   rw [e]
   have hd' : ((u : Int) / 10 == 0) = false := by simp; omega
   have hs1 : ¬ 9223372036854775807 < 1 + (Lib.decDigits (u / 10)).length := by omega
   have hs2 : ¬ 9223372036854775807 < 1 + (Lib.decDigits (u / 10)).length + (Lib.decDigits (u % 10)).length := by omega
   have HX := Lib.hid (HD.out (u / 10) w (by omega))
   have HY := Lib.hid (fun W : World => HD.out (u % 10) W (by omega))
   have hm : ((u % 10 : Nat) : Int) = (u : Int) % 10 := by omega
   have hq : ((u / 10 : Nat) : Int) = (u : Int) / 10 := by omega
   rw [hm] at HY
   rw [hq] at HX
   go_enter Tryz.func24, Tryz.ntmps24
   go_wp2_with fail
   refine HX.out.mono ?_
   rintro r w1 ⟨rfl, ht⟩
   go_wp2_with fail
   refine (HY.out w1).mono ?_
   rintro r w2 ⟨rfl, ht2⟩
   go_wp2_with fail
   go_ret
   refine ⟨?_, ht.then0 ht2⟩
   rw [show (ByteArray.mk #[45]) = ByteArray.mk [45].toArray from rfl, tx_add, tx_add]
   rfl
theorem tx_at (l : List UInt8) (k : Nat) (c : UInt8) (hc : l[k]? = some c) : (ByteArray.mk l.toArray).extract k (k + 1) = ByteArray.mk [c].toArray := by
 apply ByteArray.ext
 obtain ⟨hk, rfl⟩ := List.getElem?_eq_some_iff.1 hc
 rw [ByteArray.data_extract]
 apply Array.ext
 ·simp; omega
 ·intro i h1 h2
  have : i = 0 := by simp at h2; omega
  subst this
  simp
theorem commas_any (l : List UInt8) (w : World) (hl : l.length ≤ 1000) : Calls Tryz.prog 23 #[.string ⟨l.toArray⟩] w fun e w' => e = .returned (.string ⟨(groupL l).toArray⟩) ∧ Touch [] w w' := by
 go_enter Tryz.func23, Tryz.ntmps23
 go_wp2_with fail
 go_loopw [3, 4] (fun to ti wr => ∃ k : Nat, k ≤ l.length ∧ ti = .int .i64 k ∧ to = .string ⟨(cgrp l.length 0 (l.take k)).toArray⟩ ∧ Touch [] w wr) (fun _ ti _ => l.length - (intOf ti).toNat)
 case atStart => exact ⟨0, by omega, rfl, rfl, Touch.refl _ _⟩
 case round =>
  obtain ⟨k, hk, rfl, rfl, ht⟩ := hrel
  have hlen := cgrp_length l.length (l.take k) 0
  have htl : (l.take k).length ≤ 1000 := by simp; omega
  by_cases hlt : k < l.length
  ·obtain ⟨c, hc⟩ : ∃ c, l[k]? = some c := ⟨_, List.getElem?_eq_getElem hlt⟩
   have HN := Lib.hid (cgrp_take l k c hc)
   have HX := Lib.hid (tx_at l k c hc)
   clear hc
   generalize hO : cgrp l.length 0 (l.take k) = o at *
   clear hO
   have hs1 : ¬ 9223372036854775807 < o.length + 1 := by omega
   have hs2 : ¬ 9223372036854775807 < o.length + (min (k + 1) l.length - k) := by omega
   have hs3 : ¬ 9223372036854775807 < o.length + 1 + (min (k + 1) l.length - k) := by omega
   by_cases h0 : 0 < k
   ·by_cases h3 : (l.length - k) % 3 = 0
    ·have h3' : (((l.length : Int) - (k : Int)) % 3 == 0) = true := by simp; omega
     rw [if_pos ⟨h0, h3⟩] at HN
     go_wp2_with fail
     go_roundw
     case rel =>
      refine ⟨k + 1, by omega, by go_num, ?_, ht⟩
      rw [HX.out, HN.out, show (ByteArray.mk #[44]) = ByteArray.mk [44].toArray from rfl, tx_add, tx_add]
      simp
     case measure => simp [intOf]; omega
    ·have h3' : (((l.length : Int) - (k : Int)) % 3 == 0) = false := by simp; omega
     rw [if_neg (fun h => h3 h.2)] at HN
     go_wp2_with fail
     go_roundw
     case rel =>
      refine ⟨k + 1, by omega, by go_num, ?_, ht⟩
      rw [HX.out, HN.out, tx_add]
     case measure => simp [intOf]; omega
   ·rw [if_neg (fun h => h0 h.1)] at HN
    go_wp2_with fail
    go_roundw
    case rel =>
     refine ⟨k + 1, by omega, by go_num, ?_, ht⟩
     rw [HX.out, HN.out, tx_add]
    case measure => simp [intOf]; omega
  ·have HK := Lib.hid (show k = l.length by omega)
   clear hk
   go_wp2_with fail
   go_ret
   refine ⟨?_, ht⟩
   rw [HK.out, List.take_length]
   rfl
theorem tx_drop1 (c : UInt8) (l : List UInt8) : (ByteArray.mk (c :: l).toArray).extract 1 (l.length + 1) = ByteArray.mk l.toArray := by
 apply ByteArray.ext
 rw [ByteArray.data_extract]
 apply Array.ext
 ·simp
 ·intro i h1 h2
  simp
theorem itoa_le20 (n : Int) (h0 : -9223372036854775808 ≤ n) (h1 : n ≤ 9223372036854775807) : (Lib.itoa n).length ≤ 21 := by
 unfold Lib.itoa
 split
 ·have := dec_le20 n.natAbs (by omega)
  simp; omega
 ·have := dec_le20 n.toNat (by omega)
  omega
theorem refMoney_any (n : Int) (w : World) (h0 : -9223372036854775808 ≤ n) (h1 : n ≤ 9223372036854775807) : Calls Tryz.prog 11 #[.int .i64 n] w fun e w' => e = .returned (.string ⟨(moneyL n).toArray⟩) ∧ Touch [] w w' := by
 have HP := Lib.hid (plain_any n w h0 h1)
 have hl := itoa_le20 n h0 h1
 by_cases hn : n < 0
 ·have e1 : Lib.itoa n = 45 :: Lib.decDigits n.natAbs := by unfold Lib.itoa; rw [if_pos hn]
  have e2 : moneyL n = 45 :: groupL (Lib.decDigits n.natAbs) := by unfold moneyL; rw [if_pos hn]
  rw [e1] at HP hl
  rw [e2]
  have HX := Lib.hid (tx_drop1 45 (Lib.decDigits n.natAbs))
  have HC := Lib.hid (fun W => commas_any (Lib.decDigits n.natAbs) W (by simp at hl; omega))
  have hg := cgrp_length (Lib.decDigits n.natAbs).length (Lib.decDigits n.natAbs) 0
  have hs1 : ¬ 9223372036854775807 < 1 + (groupL (Lib.decDigits n.natAbs)).length := by
   unfold groupL
   simp at hl; omega
  have hsz : (ByteArray.mk (45 :: Lib.decDigits n.natAbs).toArray).size = (Lib.decDigits n.natAbs).length + 1 := by simp [ByteArray.size]
  clear hg
  generalize Lib.decDigits n.natAbs = d at *
  go_enter Tryz.func11, Tryz.ntmps11
  go_wp2_with fail
  refine HP.out.mono ?_
  rintro r w1 ⟨rfl, ht⟩
  go_wp2_with fail
  rw [HX.out]
  refine (HC.out w1).mono ?_
  rintro r w2 ⟨rfl, ht2⟩
  go_wp2_with fail
  go_ret
  refine ⟨?_, ht.then0 ht2⟩
  rw [show (ByteArray.mk #[45]) = ByteArray.mk [45].toArray from rfl, tx_add]
  rfl
 ·have e1 : Lib.itoa n = Lib.decDigits n.toNat := by unfold Lib.itoa; rw [if_neg hn]
  have e2 : moneyL n = groupL (Lib.decDigits n.toNat) := by unfold moneyL; rw [if_neg hn]
  rw [e1] at HP hl
  rw [e2]
  have HC := Lib.hid (fun W => commas_any (Lib.decDigits n.toNat) W (by omega))
  go_enter Tryz.func11, Tryz.ntmps11
  go_wp2_with fail
  refine HP.out.mono ?_
  rintro r w1 ⟨rfl, ht⟩
  go_wp2_with fail
  refine (HC.out w1).mono ?_
  rintro r w2 ⟨rfl, ht2⟩
  go_wp2_with fail
  go_ret
  exact ⟨rfl, ht.then0 ht2⟩
end Go.Proofs.YtedpaajpfaoffaaGreatDoor
namespace Go.Proofs.YtedpaajpfaoffaaGreatDoor
open Go.RowKit
theorem tx_get (l : List UInt8) (k : Nat) (c : UInt8) (hc : l[k]? = some c) (h : k < (ByteArray.mk l.toArray).size) : (ByteArray.mk l.toArray)[k]'h = c := by
 obtain ⟨hk, rfl⟩ := List.getElem?_eq_some_iff.1 hc
 rfl
end Go.Proofs.YtedpaajpfaoffaaGreatDoor
