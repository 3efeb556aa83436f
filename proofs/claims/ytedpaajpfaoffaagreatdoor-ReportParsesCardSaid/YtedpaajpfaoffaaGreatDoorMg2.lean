/- report.group, and what the program calls of Go's library (strings.Join, strings.ReplaceAll, strconv.Itoa, strconv.Atoi), by the shelf's contracts. -/
import Derived.Test.YtedpaajpfaoffaaGreatDoorMg1
import Derived.Test.YtedpaajpfaoffaaGreatDoorMgA
set_option linter.all false
set_option maxHeartbeats 4000000
set_option maxRecDepth 100000
namespace Go.Proofs.YtedpaajpfaoffaaGreatDoor
open Go.RowKit
theorem tx_size (l : List UInt8) : (ByteArray.mk l.toArray).size = l.length := by simp [ByteArray.size]
theorem cgrp_full (l : List UInt8) : cgrp l.length 0 (l.take l.length) = groupL l := by rw [List.take_length]; rfl
theorem rgroup_any (l : List UInt8) (w : World) (hl : l.length ≤ 1000) : Calls Tryz.prog 22 #[.string ⟨l.toArray⟩] w fun e w' => e = .returned (.string ⟨(groupL l).toArray⟩) ∧ Touch [] w w' := by
 go_enter Tryz.func22, Tryz.ntmps22
 go_wp2_with fail
 go_loopw [7] (fun ti wr => ∃ k : Nat, k ≤ l.length ∧ ti = .int .i64 k ∧ Hid (Lib.IsBuilderF 113 5 w.heap.size w.heap.size (Lib.byteCells (cgrp l.length 0 (l.take k))) wr) ∧ Below w.heap.size w wr) (fun ti _ => l.length - (intOf ti).toNat)
 case atStart => exact ⟨0, by omega, rfl, Lib.hid (Lib.IsBuilderF.of (Lib.fresh_isBuilder 113 5 w)), (Below.refl _ w).alloc (Nat.le_refl _) _⟩
 case round =>
  obtain ⟨k, hk, rfl, HI, hbw⟩ := hrel
  have hlen := cgrp_length l.length (l.take k) 0
  have htl : (l.take k).length ≤ 1000 := by simp; omega
  have hsz2 : w.heap.size ≤ wr.heap.size := hbw.size
  by_cases hlt : k < l.length
  ·obtain ⟨c, hc⟩ : ∃ c, l[k]? = some c := ⟨_, List.getElem?_eq_getElem hlt⟩
   have HN := Lib.hid (cgrp_take l k c hc)
   have HG := Lib.hid (tx_get l k c hc)
   clear hc
   generalize hO : cgrp l.length 0 (l.take k) = o at *
   clear hO
   by_cases h3 : 0 < k ∧ (l.length - k) % 3 = 0
   ·have h0 := h3.1
    have h3' : (((l.length : Int) - (k : Int)) % 3 == 0) = true := by simp; omega
    rw [if_pos h3] at HN
    go_wp2_with fail
    refine (Tryz.Builder_WriteByte_k w.heap.size w.heap.size _ 44 _ HI.out (by rw [Lib.byteCells_length]; omega) hsz2).mono ?_
    rintro e W1 ⟨rfl, h1, b1, k1⟩
    have HB := Lib.hid h1
    clear h1
    have hb1 := hbw.trans b1
    have hsz3 : w.heap.size ≤ W1.heap.size := hb1.size
    go_wp2_with fail
    refine (Tryz.Builder_WriteByte_k w.heap.size w.heap.size _ _ _ (Or.inr HB.out) (by simp [Lib.byteCells_length]; omega) hsz3).mono ?_
    rintro e W2 ⟨rfl, h2, b2, k2⟩
    rw [HG.out] at h2
    go_wp2_with fail
    go_roundw
    case rel =>
     refine ⟨k + 1, by omega, by go_num, Lib.hid (Or.inr ?_), hb1.trans b2⟩
     rw [HN.out]
     have e : Lib.byteCells (o ++ [44, c]) = Lib.byteCells o ++ [Value.int .u8 44] ++ [Value.int .u8 (c.toNat : Int)] := by simp [Lib.byteCells]
     rw [e]
     exact h2
    case measure => simp [intOf]; omega
   ·rw [if_neg h3] at HN
    have key : 0 < k → (((l.length : Int) - (k : Int)) % 3 == 0) = false := fun h0 => by
     have : ¬ (l.length - k) % 3 = 0 := fun h => h3 ⟨h0, h⟩
     simp; omega
    clear h3
    by_cases h0 : 0 < k
    ·have h3' := key h0
     clear key
     go_wp2_with fail
     refine (Tryz.Builder_WriteByte_k w.heap.size w.heap.size _ _ _ HI.out (by rw [Lib.byteCells_length]; omega) hsz2).mono ?_
     rintro e W2 ⟨rfl, h2, b2, k2⟩
     rw [HG.out] at h2
     go_wp2_with fail
     go_roundw
     case rel =>
      refine ⟨k + 1, by omega, by go_num, Lib.hid (Or.inr ?_), hbw.trans b2⟩
      rw [HN.out]
      have e : Lib.byteCells (o ++ [c]) = Lib.byteCells o ++ [Value.int .u8 (c.toNat : Int)] := by simp [Lib.byteCells]
      rw [e]
      exact h2
     case measure => simp [intOf]; omega
    ·clear key
     go_wp2_with fail
     refine (Tryz.Builder_WriteByte_k w.heap.size w.heap.size _ _ _ HI.out (by rw [Lib.byteCells_length]; omega) hsz2).mono ?_
     rintro e W2 ⟨rfl, h2, b2, k2⟩
     rw [HG.out] at h2
     go_wp2_with fail
     go_roundw
     case rel =>
      refine ⟨k + 1, by omega, by go_num, Lib.hid (Or.inr ?_), hbw.trans b2⟩
      rw [HN.out]
      have e : Lib.byteCells (o ++ [c]) = Lib.byteCells o ++ [Value.int .u8 (c.toNat : Int)] := by simp [Lib.byteCells]
      rw [e]
      exact h2
     case measure => simp [intOf]; omega
  ·have HK := Lib.hid (show k = l.length by omega)
   clear hk
   go_wp2_with fail
   refine (Tryz.Builder_String_any_k w.heap.size w.heap.size _ _ HI.out hsz2).mono ?_
   rintro e W1 ⟨rfl, _, b1, _⟩
   go_wp2_with fail
   go_ret
   refine ⟨?_, Touch.of_below (hbw.trans b1)⟩
   rw [HK.out, cgrp_full]
   rfl
theorem join_any (bk o cap : Nat) (xs : List (List UInt8)) (sep : List UInt8) (w : World) (hcell : ∀ (j : Nat) y, xs[j]? = some y → w.cell? ⟨bk, o + j, none⟩ = some (.string ⟨y.toArray⟩)) (hlt : bk < w.heap.size) (hn : xs.length ≤ 1000) (hc : xs.length ≤ cap)
  (hj : (Lib.join xs sep).length ≤ 100000) : Calls Tryz.prog 101 #[.slice (some ⟨bk, o, none⟩) xs.length cap, .string ⟨sep.toArray⟩] w fun e w' => e = .returned (.string ⟨(Lib.join xs sep).toArray⟩) ∧ Touch [] w w' := by
 have hm : (xs.map (fun y => ByteArray.mk y.toArray)).map (·.data.toList) = xs := by
  rw [List.map_map]
  conv => rhs; rw [← List.map_id xs]
  apply List.map_congr_left
  intro a _
  simp
 have h := Tryz.strings_Join bk o cap (xs.map (fun y => ByteArray.mk y.toArray)) ⟨sep.toArray⟩ w (fun j x hx => by
  rw [List.getElem?_map] at hx
  cases hy : xs[j]? with
  | none => rw [hy] at hx; cases hx
  | some y => rw [hy] at hx; cases hx; exact hcell j y hy) hlt (by simp; omega) (by simpa using hc) (by rw [hm]; simp; omega)
 rw [hm] at h
 simp only [List.length_map] at h
 exact h.mono (fun e w' ⟨h1, h2⟩ => ⟨by simpa using h1, Touch.of_below h2⟩)
theorem repl_any (l : List UInt8) (w : World) (hl : l.length ≤ 100000) (m : Int) (hm : w.cell? ⟨6, 0, none⟩ = some (.int .i64 m)) : Calls Tryz.prog 71 #[.string ⟨l.toArray⟩, .string ⟨#[44]⟩, .string ⟨#[]⟩] w fun e w' => e = .returned (.string ⟨(noComma l).toArray⟩) ∧ Touch [] w w' := by
 have h := Tryz.strings_ReplaceAll ⟨l.toArray⟩ ⟨#[44]⟩ ⟨#[]⟩ m w (by rw [tx_size]; omega) hm (by decide) (by rw [tx_size]; simp [ByteArray.size]; omega)
 refine h.mono (fun e w' ⟨h1, h2⟩ => ⟨?_, Touch.of_below h2⟩)
 rw [h1]
 show Ending.returned (.string ⟨(Lib.replaceAll l [44] []).toArray⟩) = _
 rw [replaceAll_comma]
theorem itoa_any (n : Int) (w : World) (h0 : -9223372036854775808 ≤ n) (h1 : n ≤ 9223372036854775807) (htab : Lib.TabIs Tryz.prog w "internal/strconv.uint64pow10" .u64 Lib.pow10Tab) : Calls Tryz.prog 21 #[.int .i64 n] w fun e w' => e = .returned (.string ⟨(Lib.itoa n).toArray⟩) ∧ Touch [] w w' := by
 refine (Tryz.strconv_Itoa n h0 h1 w htab).mono ?_
 rintro e w' ⟨rfl, k', os, rfl⟩
 refine ⟨rfl, rfl, rfl, rfl, ?_, fun k hk _ => ?_⟩
 ·show w.heap.size ≤ (w.heap ++ os).size
  rw [Array.size_append]; omega
 ·show (w.heap ++ os)[_]? = _
  rw [Array.getElem?_append, if_pos hk]
end Go.Proofs.YtedpaajpfaoffaaGreatDoor
