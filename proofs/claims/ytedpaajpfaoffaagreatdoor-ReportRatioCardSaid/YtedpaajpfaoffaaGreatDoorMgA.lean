/- bandplanref52: Digits, Plain, Commas, Money, Amount. -/
import Derived.Lib.ItoaLen
import Derived.Test.YtedpaajpfaoffaaGreatDoorMnA
import Derived.Test.YtedpaajpfaoffaaGreatDoorBase
import Derived.Test.YtedpaajpfaoffaaGreatDoorProg
namespace Go.Proofs.YtedpaajpfaoffaaGreatDoor
open Go.RowKit
set_option linter.unusedSimpArgs false

theorem conv1 (W : World) (x k : Nat) (hk : x = k) (hk2 : k < 256) : (convert 30 9 (.slice (some ⟨W.heap.size, 0, none⟩) 1 1)).run Tryz.prog (W.alloc (.cells #[.int .u8 (x : Int)] 5)) = .ok (.string ⟨#[UInt8.ofNat k]⟩) (W.alloc (.cells #[.int .u8 (x : Int)] 5)) := by
  subst hk
  refine run_convert_bytes_back _ _ _ 5 ⟨W.heap.size, 0, none⟩ 1 [UInt8.ofNat x] Tryz.underlying30 Tryz.underlying5 Tryz.underlying9 (fun j hj => ?_)
  have hj : j = 0 := by simpa using hj
  subst hj
  have := (Blk.new W 5 #[Value.int .u8 (x : Int)]).cell 0
  rw [add_lit]
  have e : (UInt8.ofNat x).toNat = x := by simp; omega
  show World.cell? _ _ = some (.int .u8 ((UInt8.ofNat x).toNat : Int))
  rw [e]
  exact this
/-- Texts side by side. -/
theorem tx_add (a b : List UInt8) : (ByteArray.mk a.toArray) ++ (ByteArray.mk b.toArray) = ByteArray.mk (a ++ b).toArray := by
  apply ByteArray.ext
  simp
theorem dec_le20 (u : Nat) (h : u ≤ 18446744073709551615) : (Lib.decDigits u).length ≤ 20 := by
  rw [Lib.decDigits_length]
  exact Lib.nDigits_le20 u (by omega)
set_option maxRecDepth 100000 in
set_option maxHeartbeats 4000000 in
theorem digits_any (n : Nat) (w : World) (hn : n ≤ 9223372036854775807) : Calls Tryz.prog 75 #[.int .i64 n] w fun e w' => e = .returned (.string ⟨(Lib.decDigits n).toArray⟩) ∧ Touch [] w w' := by
  go_enter Tryz.func75, Tryz.ntmps75
  go_wp2_with fail
  go_loopw [0, 3] (fun tn ts wr => ∃ (u : Nat) (acc : List UInt8), tn = .int .i64 u ∧ ts = .string ⟨acc.toArray⟩ ∧ Hid (Lib.decDigits u ++ acc = Lib.decDigits n) ∧ u ≤ n ∧ Touch [] w wr) (fun tn _ _ => (intOf tn).toNat)
  case atStart => exact ⟨n, [], rfl, rfl, Lib.hid (by simp), by omega, Touch.refl _ _⟩
  case round =>
    obtain ⟨u, acc, rfl, rfl, HD, hu, ht⟩ := hrel
    have hal : ¬ 9223372036854775807 < 1 + acc.length := by
      have h1 := dec_le20 n (by omega)
      rw [← HD.out] at h1
      simp at h1
      omega
    by_cases h9 : 9 < u
    · have h9' : (9 : Int) < (u : Int) := by omega
      have hc := conv1 wr (48 + u % 10) (48 + u % 10) rfl (by omega)
      have HN := Lib.hid (dec_step h9)
      simp only [Int.natCast_add, Int.natCast_emod, Int.cast_ofNat_Int] at hc
      generalize (UInt8.ofNat (48 + u % 10)) = d at hc HN
      go_wp2_with fail
      go_roundw
      case rel =>
        refine ⟨u / 10, d :: acc, by go_num, ?_, ?_, by omega, ht.alloc _⟩
        · rw [tx_add [d] acc]; rfl
        · refine Lib.hid ?_
          rw [← HD.out, HN.out]
          simp
      case measure => simp [intOf]; omega
    · have h9' : ¬ (9 : Int) < (u : Int) := by omega
      have hc := conv1 wr (48 + u) (48 + u) rfl (by omega)
      have HN := Lib.hid (dec_last (u := u) (by omega))
      simp only [Int.natCast_add, Int.natCast_emod, Int.cast_ofNat_Int] at hc
      generalize (UInt8.ofNat (48 + u)) = d at hc HN
      go_wp2_with fail
      go_ret
      refine ⟨?_, ht.alloc _⟩
      rw [tx_add [d] acc, ← HD.out, HN.out]
      rfl

set_option maxRecDepth 100000 in
set_option maxHeartbeats 4000000 in
theorem plain_any (n : Int) (w : World) (h0 : -9223372036854775808 ≤ n) (h1 : n ≤ 9223372036854775807) : Calls Tryz.prog 24 #[.int .i64 n] w fun e w' => e = .returned (.string ⟨(Lib.itoa n).toArray⟩) ∧ Touch [] w w' := by
  rw [← plain_itoa]
  by_cases hn : 0 ≤ n
  · obtain ⟨u, rfl⟩ : ∃ u : Nat, n = u := ⟨n.toNat, by omega⟩
    have hd := Lib.hid (digits_any u w (by omega))
    have e : plainL (u : Int) = Lib.decDigits u := by simp [plainL]
    rw [e]
    go_enter Tryz.func24, Tryz.ntmps24
    go_wp2_with fail
    refine hd.out.mono ?_
    rintro r w1 ⟨rfl, ht⟩
    go_wp2_with fail
    go_ret
    exact ⟨rfl, ht⟩
  · obtain ⟨u, rfl⟩ : ∃ u : Nat, n = -(u : Int) := ⟨n.natAbs, by omega⟩
    have hu0 : ¬ u = 0 := by omega
    have HD := Lib.hid (fun (v : Nat) (W : World) (h : v ≤ 9223372036854775807) => digits_any v W h)
    have hb := dec_le20 (u / 10) (by omega)
    have hb2 := dec_le20 (u % 10) (by omega)
    by_cases hd : u / 10 = 0
    · have e : plainL (-(u : Int)) = 45 :: Lib.decDigits (u % 10) := by
        unfold plainL
        rw [if_neg hn, if_pos (by simpa using hd)]
        simp
      rw [e]
      have hd' : ((u : Int) / 10 == 0) = true := by simp; omega
      have hs1 : ¬ 9223372036854775807 < 1 + (Lib.decDigits (u % 10)).length := by omega
      have HX := HD.out (u % 10) w (by omega)
      have HX := Lib.hid HX
      have hm : ((u % 10 : Nat) : Int) = (u : Int) % 10 := by omega
      rw [hm] at HX
      go_enter Tryz.func24, Tryz.ntmps24
      go_wp2_with fail
      refine HX.out.mono ?_
      rintro r w1 ⟨rfl, ht⟩
      go_wp2_with fail
      go_ret
      refine ⟨?_, ht⟩
      rw [show (ByteArray.mk #[45]) = ByteArray.mk [45].toArray from rfl, tx_add]
      rfl
    · have e : plainL (-(u : Int)) = 45 :: (Lib.decDigits (u / 10) ++ Lib.decDigits (u % 10)) := by
        unfold plainL
        rw [if_neg hn, if_neg (by simpa using hd)]
        simp
      rw [e]
      have hd' : ((u : Int) / 10 == 0) = false := by simp; omega
      have hs1 : ¬ 9223372036854775807 < 1 + (Lib.decDigits (u / 10)).length := by omega
      have hs2 : ¬ 9223372036854775807 < 1 + (Lib.decDigits (u / 10)).length + (Lib.decDigits (u % 10)).length := by omega
      have HX := Lib.hid (HD.out (u / 10) w (by omega))
      have HY := Lib.hid (fun W : World => HD.out (u % 10) W (by omega))
      have hm : ((u % 10 : Nat) : Int) = (u : Int) % 10 := by omega
      have hq : ((u / 10 : Nat) : Int) = (u : Int) / 10 := by omega
      rw [hm] at HY
      rw [hq] at HX
      go_enter Tryz.func24, Tryz.ntmps24
      go_wp2_with fail
      refine HX.out.mono ?_
      rintro r w1 ⟨rfl, ht⟩
      go_wp2_with fail
      refine (HY.out w1).mono ?_
      rintro r w2 ⟨rfl, ht2⟩
      go_wp2_with fail
      go_ret
      refine ⟨?_, ht.then0 ht2⟩
      rw [show (ByteArray.mk #[45]) = ByteArray.mk [45].toArray from rfl, tx_add, tx_add]
      rfl
theorem tx_at (l : List UInt8) (k : Nat) (c : UInt8) (hc : l[k]? = some c) : (ByteArray.mk l.toArray).extract k (k + 1) = ByteArray.mk [c].toArray := by
  apply ByteArray.ext
  obtain ⟨hk, rfl⟩ := List.getElem?_eq_some_iff.1 hc
  rw [ByteArray.data_extract]
  apply Array.ext
  · simp; omega
  · intro i h1 h2
    have : i = 0 := by simp at h2; omega
    subst this
    simp
set_option maxRecDepth 100000 in
set_option maxHeartbeats 4000000 in
theorem commas_any (l : List UInt8) (w : World) (hl : l.length ≤ 1000) : Calls Tryz.prog 23 #[.string ⟨l.toArray⟩] w fun e w' => e = .returned (.string ⟨(groupL l).toArray⟩) ∧ Touch [] w w' := by
  go_enter Tryz.func23, Tryz.ntmps23
  go_wp2_with fail
  go_loopw [3, 4] (fun to ti wr => ∃ k : Nat, k ≤ l.length ∧ ti = .int .i64 k ∧ to = .string ⟨(cgrp l.length 0 (l.take k)).toArray⟩ ∧ Touch [] w wr) (fun _ ti _ => l.length - (intOf ti).toNat)
  case atStart => exact ⟨0, by omega, rfl, rfl, Touch.refl _ _⟩
  case round =>
    obtain ⟨k, hk, rfl, rfl, ht⟩ := hrel
    have hlen := cgrp_length l.length (l.take k) 0
    have htl : (l.take k).length ≤ 1000 := by simp; omega
    by_cases hlt : k < l.length
    · obtain ⟨c, hc⟩ : ∃ c, l[k]? = some c := ⟨_, List.getElem?_eq_getElem hlt⟩
      have HN := Lib.hid (cgrp_take l k c hc)
      have HX := Lib.hid (tx_at l k c hc)
      clear hc
      generalize hO : cgrp l.length 0 (l.take k) = o at *
      clear hO
      have hs1 : ¬ 9223372036854775807 < o.length + 1 := by omega
      have hs2 : ¬ 9223372036854775807 < o.length + (min (k + 1) l.length - k) := by omega
      have hs3 : ¬ 9223372036854775807 < o.length + 1 + (min (k + 1) l.length - k) := by omega
      by_cases h0 : 0 < k
      · by_cases h3 : (l.length - k) % 3 = 0
        · have h3' : (((l.length : Int) - (k : Int)) % 3 == 0) = true := by simp; omega
          rw [if_pos ⟨h0, h3⟩] at HN
          go_wp2_with fail
          go_roundw
          case rel =>
            refine ⟨k + 1, by omega, by go_num, ?_, ht⟩
            rw [HX.out, HN.out, show (ByteArray.mk #[44]) = ByteArray.mk [44].toArray from rfl, tx_add, tx_add]
            simp
          case measure => simp [intOf]; omega
        · have h3' : (((l.length : Int) - (k : Int)) % 3 == 0) = false := by simp; omega
          rw [if_neg (fun h => h3 h.2)] at HN
          go_wp2_with fail
          go_roundw
          case rel =>
            refine ⟨k + 1, by omega, by go_num, ?_, ht⟩
            rw [HX.out, HN.out, tx_add]
          case measure => simp [intOf]; omega
      · rw [if_neg (fun h => h0 h.1)] at HN
        go_wp2_with fail
        go_roundw
        case rel =>
          refine ⟨k + 1, by omega, by go_num, ?_, ht⟩
          rw [HX.out, HN.out, tx_add]
        case measure => simp [intOf]; omega
    · have HK := Lib.hid (show k = l.length by omega)
      clear hk
      go_wp2_with fail
      go_ret
      refine ⟨?_, ht⟩
      rw [HK.out, List.take_length]
      rfl

theorem tx_drop1 (c : UInt8) (l : List UInt8) : (ByteArray.mk (c :: l).toArray).extract 1 (l.length + 1) = ByteArray.mk l.toArray := by
  apply ByteArray.ext
  rw [ByteArray.data_extract]
  apply Array.ext
  · simp
  · intro i h1 h2
    simp
theorem itoa_le20 (n : Int) (h0 : -9223372036854775808 ≤ n) (h1 : n ≤ 9223372036854775807) : (Lib.itoa n).length ≤ 21 := by
  unfold Lib.itoa
  split
  · have := dec_le20 n.natAbs (by omega)
    simp; omega
  · have := dec_le20 n.toNat (by omega)
    omega
set_option maxRecDepth 100000 in
set_option maxHeartbeats 4000000 in
theorem refMoney_any (n : Int) (w : World) (h0 : -9223372036854775808 ≤ n) (h1 : n ≤ 9223372036854775807) : Calls Tryz.prog 11 #[.int .i64 n] w fun e w' => e = .returned (.string ⟨(moneyL n).toArray⟩) ∧ Touch [] w w' := by
  have HP := Lib.hid (plain_any n w h0 h1)
  have hl := itoa_le20 n h0 h1
  by_cases hn : n < 0
  · have e1 : Lib.itoa n = 45 :: Lib.decDigits n.natAbs := by unfold Lib.itoa; rw [if_pos hn]
    have e2 : moneyL n = 45 :: groupL (Lib.decDigits n.natAbs) := by unfold moneyL; rw [if_pos hn]
    rw [e1] at HP hl
    rw [e2]
    have HX := Lib.hid (tx_drop1 45 (Lib.decDigits n.natAbs))
    have HC := Lib.hid (fun W => commas_any (Lib.decDigits n.natAbs) W (by simp at hl; omega))
    have hg := cgrp_length (Lib.decDigits n.natAbs).length (Lib.decDigits n.natAbs) 0
    have hs1 : ¬ 9223372036854775807 < 1 + (groupL (Lib.decDigits n.natAbs)).length := by
      unfold groupL
      simp at hl; omega
    have hsz : (ByteArray.mk (45 :: Lib.decDigits n.natAbs).toArray).size = (Lib.decDigits n.natAbs).length + 1 := by simp [ByteArray.size]
    clear hg
    generalize Lib.decDigits n.natAbs = d at *
    go_enter Tryz.func11, Tryz.ntmps11
    go_wp2_with fail
    refine HP.out.mono ?_
    rintro r w1 ⟨rfl, ht⟩
    go_wp2_with fail
    rw [HX.out]
    refine (HC.out w1).mono ?_
    rintro r w2 ⟨rfl, ht2⟩
    go_wp2_with fail
    go_ret
    refine ⟨?_, ht.then0 ht2⟩
    rw [show (ByteArray.mk #[45]) = ByteArray.mk [45].toArray from rfl, tx_add]
    rfl
  · have e1 : Lib.itoa n = Lib.decDigits n.toNat := by unfold Lib.itoa; rw [if_neg hn]
    have e2 : moneyL n = groupL (Lib.decDigits n.toNat) := by unfold moneyL; rw [if_neg hn]
    rw [e1] at HP hl
    rw [e2]
    have HC := Lib.hid (fun W => commas_any (Lib.decDigits n.toNat) W (by omega))
    go_enter Tryz.func11, Tryz.ntmps11
    go_wp2_with fail
    refine HP.out.mono ?_
    rintro r w1 ⟨rfl, ht⟩
    go_wp2_with fail
    refine (HC.out w1).mono ?_
    rintro r w2 ⟨rfl, ht2⟩
    go_wp2_with fail
    go_ret
    exact ⟨rfl, ht.then0 ht2⟩
end Go.Proofs.YtedpaajpfaoffaaGreatDoor

/- bandplanref52.Amount. -/
namespace Go.Proofs.YtedpaajpfaoffaaGreatDoor
open Go.RowKit
set_option linter.unusedSimpArgs false

theorem accum_le : ∀ (l : List UInt8) (u : Nat), u ≤ 11258999068426249 → accum u l ≤ 11258999068426249
  | [], u, h => h
  | c :: l, u, h => by
    simp only [accum]
    refine accum_le l _ ?_
    split
    · rename_i hc
      omega
    · exact h
/-- Behind the loop. -/
def AmPost (l : List UInt8) (w : World) (e : Ending) (w' : World) : Prop := e = .returned (.tuple #[.int .i64 (amountOf l).1, .int .i64 (amountOf l).2]) ∧ Touch [] w w'
theorem tx_get (l : List UInt8) (k : Nat) (c : UInt8) (hc : l[k]? = some c) (h : k < (ByteArray.mk l.toArray).size) : (ByteArray.mk l.toArray)[k]'h = c := by
  obtain ⟨hk, rfl⟩ := List.getElem?_eq_some_iff.1 hc
  rfl
theorem tx_ne {a b : List UInt8} (h : a ≠ b) : ¬ ByteArray.mk a.toArray = ByteArray.mk b.toArray := fun e => h (by
  have := congrArg (fun x : ByteArray => x.data.toList) e
  simpa using this)
theorem amount_ok {l : List UInt8} {m : Int} (h : amountN l = m) (h1 : m ≤ 1125899906842624) (h2 : -1125899906842624 ≤ m) (h3 : moneyL m = l) : amountOf l = (m, 0) := by
  unfold amountOf
  rw [h, if_pos ⟨by unfold small; simp; omega, h3⟩]
theorem amount_bad {l : List UInt8} {m : Int} (h : amountN l = m) (h1 : ¬ (m ≤ 1125899906842624 ∧ -1125899906842624 ≤ m ∧ moneyL m = l)) : amountOf l = (0, 6) := by
  unfold amountOf
  rw [h, if_neg]
  rintro ⟨h2, h3⟩
  unfold small at h2
  simp at h2
  exact h1 ⟨by omega, by omega, h3⟩
set_option maxRecDepth 100000 in
set_option maxHeartbeats 8000000 in
theorem amount_any (l : List UInt8) (w : World) (hl : l.length ≤ 1000) : Calls Tryz.prog 9 #[.string ⟨l.toArray⟩] w (AmPost l w) := by
  go_enter Tryz.func9, Tryz.ntmps9
  go_wp2_with fail
  by_cases h40 : l.length ≤ 40
  · have h40' : (l.length : Int) ≤ 40 := by omega
    go_loopw [4, 5] (fun tn ti wr => ∃ k : Nat, k ≤ l.length ∧ ti = .int .i64 k ∧ tn = .int .i64 (accum 0 (l.take k)) ∧ Touch [] w wr) (fun _ ti _ => l.length - (intOf ti).toNat)
    case atStart => exact ⟨0, by omega, rfl, rfl, Touch.refl _ _⟩
    case round =>
      obtain ⟨k, hk, rfl, rfl, ht⟩ := hrel
      have hub := accum_le (l.take k) 0 (by omega)
      by_cases hlt : k < l.length
      · obtain ⟨c, hc⟩ : ∃ c, l[k]? = some c := ⟨_, List.getElem?_eq_getElem hlt⟩
        have HN := Lib.hid (accum_take l k c hc)
        have HG := Lib.hid (tx_get l k c hc)
        clear hc
        generalize accum 0 (l.take k) = u at *
        go_wp2_with fail
        all_goals simp only [HG.out] at *
        all_goals go_roundw
        all_goals first
          | (refine ⟨k + 1, by omega, by go_num, ?_, ht⟩
             rw [HN.out]
             first
               | (rw [if_pos ⟨by omega, by omega, by omega⟩]; congr 1; omega)
               | (rw [if_neg (by omega)]))
          | (simp [intOf]; omega)
      · have HK := Lib.hid (show k = l.length by omega)
        have HA : accum 0 (l.take k) = accum 0 l := by rw [HK.out, List.take_length]
        rw [HA] at hub ⊢
        have HM : amountN l = if l.head? = some 45 then -(accum 0 l : Int) else (accum 0 l : Int) := by simp [amountN, h40]
        have HU : l = [] → accum 0 l = 0 := fun e => by rw [e]; rfl
        clear hk HA
        generalize accum 0 l = u at *
        have HF := Lib.hid (fun m W (h : m ≤ 1125899906842624) (h2 : -1125899906842624 ≤ m) => refMoney_any m W (by omega) (by omega))
        have HE := Lib.hid (fun m => (tx_ne (a := moneyL m) (b := l)))
        by_cases hd : l.head? = some 45
        · rw [if_pos hd] at HM
          obtain ⟨r, rfl⟩ : ∃ r, l = 45 :: r := by
            cases l with
            | nil => simp at hd
            | cons c r => simp at hd; subst hd; exact ⟨r, rfl⟩
          simp only [List.length_cons] at hlt
          clear HU
          have HM := Lib.hid HM
          clear hd
          by_cases hb : u ≤ 1125899906842624
          · have hb' : ¬ (1125899906842624 : Int) < (u : Int) := by omega
            go_wp2_with fail
            refine (HF.out _ _ (by omega) (by omega)).mono ?_
            rintro e w1 ⟨rfl, ht1⟩
            by_cases he : moneyL (-(u : Int)) = 45 :: r
            · rw [he]
              go_wp2_with fail
              go_ret2
              exact ⟨by rw [amount_ok HM.out (by omega) (by omega) he]; rfl, ht.then0 ht1⟩
            · have he' := beq_false_of_ne he
              go_wp2_with fail
              go_ret2
              exact ⟨by rw [amount_bad HM.out (fun h => he h.2.2)]; rfl, ht.then0 ht1⟩
          · have hb' : (1125899906842624 : Int) < (u : Int) := by omega
            go_wp2_with fail
            go_ret2
            exact ⟨by rw [amount_bad HM.out (by omega)]; rfl, ht⟩
        · rw [if_neg hd] at HM
          have HM := Lib.hid HM
          rcases l with _ | ⟨c, r⟩
          · obtain rfl := HU rfl
            clear HU
            go_wp2_with fail
            have e2 : moneyL ((0 : Nat) : Int) = [48] := by
              show moneyL 0 = [48]
              unfold moneyL groupL
              rw [if_neg (by omega)]
              have : Lib.decDigits (0 : Int).toNat = [48] := by rw [dec_last (by simp)]; rfl
              rw [this]
              rfl
            have HB := Lib.hid (amount_bad HM.out (fun h => by have := h.2.2; rw [e2] at this; cases this))
            refine (HF.out _ _ (by omega) (by omega)).mono ?_
            rintro e w1 ⟨rfl, ht1⟩
            rw [show moneyL 0 = [48] from e2]
            go_wp2_with fail
            go_ret2
            exact ⟨by rw [HB.out]; rfl, ht.then0 ht1⟩
          · have hc : ((c.toNat : Int) == 45) = false := by
              simp at hd ⊢
              exact fun e => hd (UInt8.toNat_inj.1 (by show c.toNat = 45; omega))
            clear hd HU
            simp only [List.length_cons] at hlt
            have hc2 : ∀ h : 0 < (ByteArray.mk (c :: r).toArray).size, ((((ByteArray.mk (c :: r).toArray)[0]'h).toNat : Int) == 45) = false := fun _ => hc
            by_cases hb : u ≤ 1125899906842624
            · have hb' : ¬ (1125899906842624 : Int) < (u : Int) := by omega
              go_wp2_with fail
              refine (HF.out _ _ (by omega) (by omega)).mono ?_
              rintro e w1 ⟨rfl, ht1⟩
              by_cases he : moneyL (u : Int) = c :: r
              · rw [he]
                go_wp2_with fail
                go_ret2
                exact ⟨by rw [amount_ok HM.out (by omega) (by omega) he]; rfl, ht.then0 ht1⟩
              · have he' := beq_false_of_ne he
                go_wp2_with fail
                go_ret2
                exact ⟨by rw [amount_bad HM.out (fun h => he h.2.2)]; rfl, ht.then0 ht1⟩
            · have hb' : (1125899906842624 : Int) < (u : Int) := by omega
              go_wp2_with fail
              go_ret2
              exact ⟨by rw [amount_bad HM.out (by omega)]; rfl, ht⟩
  · have h40' : ¬ (l.length : Int) ≤ 40 := by omega
    have ht : Touch [] w w := Touch.refl _ _
    have HM : amountN l = if l.head? = some 45 then -((0 : Nat) : Int) else ((0 : Nat) : Int) := by simp [amountN, h40]
    have HF := Lib.hid (fun m W (h : m ≤ 1125899906842624) (h2 : -1125899906842624 ≤ m) => refMoney_any m W (by omega) (by omega))
    have HE := Lib.hid (fun m => (tx_ne (a := moneyL m) (b := l)))
    have he : moneyL 0 ≠ l := fun e => h40 (by rw [← e]; exact money_len 0 (by simp))
    have HM : amountN l = 0 := by rw [HM]; split <;> simp
    have HM := Lib.hid HM
    have HB := Lib.hid (amount_bad HM.out (fun h => he h.2.2))
    have he' := beq_false_of_ne he
    have HH := Lib.hid he
    clear he
    have hb : (moneyL 0 == l) = false := beq_false_of_ne HH.out
    have hl40 : (40 : Int) < (l.length : Int) := by omega
    go_loopw [4, 5] (fun tn ti wr => tn = .int .i64 0 ∧ ti = .int .i64 0 ∧ Touch [] w wr) (fun _ _ _ => 0)
    case atStart => exact ⟨rfl, rfl, ht⟩
    case round =>
      clear ht
      obtain ⟨rfl, rfl, ht⟩ := hrel
      rcases l with _ | ⟨c, r⟩
      · simp at h40
      simp only [List.length_cons] at h40 h40' hl hl40
      by_cases hd : c = 45
      · subst hd
        go_wp2_with fail
        refine (HF.out _ _ (by omega) (by omega)).mono ?_
        rintro e w1 ⟨rfl, ht1⟩
        go_wp2_with fail
        go_ret2
        exact ⟨by rw [HB.out]; rfl, ht.then0 ht1⟩
      · have hc : ((c.toNat : Int) == 45) = false := by
          simp
          exact fun e => hd (UInt8.toNat_inj.1 (by show c.toNat = 45; omega))
        have hc2 : ∀ h : 0 < (ByteArray.mk (c :: r).toArray).size, ((((ByteArray.mk (c :: r).toArray)[0]'h).toNat : Int) == 45) = false := fun _ => hc
        clear hd
        go_wp2_with fail
        refine (HF.out _ _ (by omega) (by omega)).mono ?_
        rintro e w1 ⟨rfl, ht1⟩
        go_wp2_with fail
        go_ret2
        exact ⟨by rw [HB.out]; rfl, ht.then0 ht1⟩
end Go.Proofs.YtedpaajpfaoffaaGreatDoor

