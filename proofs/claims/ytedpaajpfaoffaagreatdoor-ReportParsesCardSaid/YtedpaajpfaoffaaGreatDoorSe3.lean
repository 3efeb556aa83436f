/- bandplanref01: Read, Limited. -/
import Derived.Test.YtedpaajpfaoffaaGreatDoorSeA
import Derived.Deep.RegionWith
set_option linter.all false
set_option maxHeartbeats 8000000
set_option maxRecDepth 100000
namespace Go.Proofs.YtedpaajpfaoffaaGreatDoor
open Go.RowKit
def noDash (l : List UInt8) : List UInt8 := l.filter (fun c => c != 45)
theorem noDash_succ {l : List UInt8} {k : Nat} (hk : k < l.length) : noDash (l.take (k + 1)) = noDash (l.take k) ++ (if l[k] = 45 then [] else [l[k]]) := by
 rw [List.take_succ_eq_append_getElem hk]
 unfold noDash
 rw [List.filter_append]
 congr 1
 by_cases h : l[k] = 45
 ·simp [h]
 ·simp [h]
theorem noDash_digits {d : List UInt8} (h : ∀ c ∈ d, 48 ≤ c.toNat ∧ c.toNat ≤ 57) : noDash d = d := by
 unfold noDash
 rw [List.filter_eq_self]
 intro c hc
 have := h c hc
 have h2 : c ≠ 45 := fun e => by
  rw [e] at this
  have h3 : (45 : UInt8).toNat = 45 := rfl
  omega
 simpa using h2
theorem noDash_form {l : List UInt8} (h : isDec (unsigned l) = true) : noDash l = unsigned l := by
 by_cases hm : l.head? = some 45
 ·cases l with
  | nil => cases hm
  | cons c t =>
   have hc : c = 45 := by simpa using hm
   subst hc
   have e : noDash (45 :: t) = noDash t := by unfold noDash; simp
   rw [e]
   exact noDash_digits (isDec_all h)
 ·rw [unsigned_other hm] at h ⊢
  exact noDash_digits (isDec_all h)
theorem form_chars {l : List UInt8} (h : isDec (unsigned l) = true) {c : UInt8} (hc : c ∈ l) (h45 : c ≠ 45) : 48 ≤ c.toNat ∧ c.toNat ≤ 57 := by
 have h1 : c ∈ noDash l := by
  unfold noDash
  rw [List.mem_filter]
  exact ⟨hc, by simpa using h45⟩
 rw [noDash_form h] at h1
 exact isDec_all h c h1
theorem noDash_len (l : List UInt8) (k : Nat) : (noDash (l.take k)).length ≤ l.length := by
 unfold noDash
 exact Nat.le_trans (List.length_filter_le ..) (by simp; omega)
theorem dash_words {l : List UInt8} (h : isDec (unsigned l) = true) (k : Nat) : (wordsOf 256 (decVal (noDash (l.take k)))).length ≤ l.length := by
 rw [len_le two256]
 have h1 : decVal (noDash (l.take k)) < 10 ^ l.length := decVal_small (fun c hc => by
  unfold noDash at hc
  rw [List.mem_filter] at hc
  exact form_chars h (List.mem_of_mem_take hc.1) (by simpa using hc.2)) (noDash_len l k)
 exact Nat.lt_of_lt_of_le h1 (Nat.pow_le_pow_left (by omega) _)
theorem words_le_mono8 {a b n : Nat} (h : a ≤ b) (hb : (wordsOf 256 b).length ≤ n) : (wordsOf 256 a).length ≤ n := (len_le two256).2 (Nat.lt_of_le_of_lt h ((len_le two256).1 hb))
theorem bytes_new (w : World) (n : Nat) (hn : n < 256) : Dgs (w.alloc (.cells #[.int .u8 (n : Int)] 5)) (.slice (some ⟨w.heap.size, 0, none⟩) 1 1) [n] := by
 have b : B8 (w.alloc (.cells #[.int .u8 (n : Int)] 5)) w.heap.size [n] := Blk.new _ _ _
 exact b.dgs (fun x hx => by rw [List.mem_singleton] at hx; subst hx; exact hn) (by simp [maxLen]) rfl
theorem bytes_new1 (w : World) (o : Obj) (n : Nat) (hn : n < 256) : Dgs ((w.alloc o).alloc (.cells #[.int .u8 (n : Int)] 5)) (.slice (some ⟨w.heap.size + 1, 0, none⟩) 1 1) [n] := by
 have := bytes_new (w.alloc o) n hn
 simpa using this
theorem words_ten8 : wordsOf 256 10 = [10] := words_nv (xs := [10]) two256 (fun x hx => by rw [List.mem_singleton] at hx; subst hx; omega) (fun h => by simp)
theorem nv_one8 (q : Nat) : nv 256 [q] = q := by simp [nv]
def RdRel (w : World) (l : List UInt8) (tx ti : Value) (wr : World) : Prop := ∃ (k n c : Nat) (A : Option Addr), k ≤ l.length ∧ ti = .int .i64 k ∧ tx = .slice A n c ∧ Hid (Dgs wr (.slice A n c) (wordsOf 256 (decVal (noDash (l.take k))))) ∧ Touch [] w wr
theorem rd_nil (w : World) (l : List UInt8) : Dgs w (.slice none 0 0) (wordsOf 256 (decVal (noDash (l.take 0)))) := Dgs.nil w
theorem rread_any (l : List UInt8) (n : Bool) (N : Nat) (w : World) (hf : formI l = some (n, N)) (hl : l.length ≤ 65536) : Calls Tryz.prog 153 #[.string ⟨l.toArray⟩] w fun r w' => ∃ x, r = .returned x ∧ IntAt w' n N x ∧ Touch [] w w' := by
 obtain ⟨hd, hn, hN, hpos⟩ := formI_inv hf
 have hpl : 0 < l.length := by
  have h1 := unsigned_le l
  have h2 := isDec_ne hd
  have h3 : 0 < (unsigned l).length := List.length_pos_iff.2 h2
  omega
 obtain ⟨c0, hc0⟩ : ∃ c, l[0]? = some c := ⟨_, List.getElem?_eq_getElem hpl⟩
 have hneg : ∀ h : 0 < (ByteArray.mk l.toArray).size, ((((ByteArray.mk l.toArray)[0]'h).toNat : Int) == 45) = n := fun h => by
  rw [tx_getI l 0 c0 hc0 h, hn]
  have e : l.head? = some c0 := by rw [← hc0, List.head?_eq_getElem?]
  rw [e]
  by_cases h45 : c0 = 45
  ·subst h45; rfl
  ·have h1 : ((c0.toNat : Int) == 45) = false := by
    rw [beq_eq_false_iff_ne]
    exact fun e => h45 (UInt8.toNat_inj.1 (by show c0.toNat = 45; omega))
   rw [h1]
   simp [h45]
 have hsz := tx_size l
 have hb0 : Blk (w.alloc (.cells #[.bool false, .slice none 0 0] 32)) w.heap.size 32 #[.bool false, .slice none 0 0] := Blk.new _ _ _
 have ht0 : Touch [] w (w.alloc (.cells #[.bool false, .slice none 0 0] 32)) := (Touch.refl _ _).alloc _
 have HD := Lib.hid hd
 have HPOS := Lib.hid hpos
 have HNN : Hid (decVal (noDash l) = N) := Lib.hid (by rw [noDash_form hd, hN])
 clear hf hd hn hN hpos hc0
 go_enter Tryz.func153, Tryz.ntmps153
 go_wp2_with fail
 generalize (w.alloc (.cells #[.bool false, .slice none 0 0] 32)) = w0 at *
 have HB0 := Lib.hid hb0
 have HT0 := Lib.hid ht0
 clear hb0 ht0 hneg
 go_loopw [4, 5] (fun tx ti wr => RdRel w0 l tx ti wr) (fun _ ti _ => l.length - (intOf ti).toNat)
 case atStart => exact ⟨0, 0, 0, none, by omega, rfl, rfl, Lib.hid (rd_nil _ _), Touch.refl _ _⟩
 case round =>
  obtain ⟨k, n1, c1, A1, hk, rfl, rfl, HW, ht⟩ := hrel
  by_cases hlt : k < l.length
  ·have hlt' : (k : Int) < (l.length : Int) := by omega
   obtain ⟨x, hx⟩ : ∃ x, l[k]? = some x := ⟨_, List.getElem?_eq_getElem hlt⟩
   have hxk : l[k] = x := by rw [List.getElem?_eq_getElem hlt] at hx; injection hx
   have hns := noDash_succ hlt
   rw [hxk] at hns
   by_cases h45 : x = 45
   ·have hg : ∀ h : k < (ByteArray.mk l.toArray).size, ((((ByteArray.mk l.toArray)[k]'h).toNat : Int) == 45) = true := fun h => by rw [tx_getI l k x hx h, h45]; rfl
    have HN : Hid (noDash (l.take (k + 1)) = noDash (l.take k)) := Lib.hid (by rw [hns, if_pos h45, List.append_nil])
    clear hx hxk hns h45
    go_wp2_with fail
    exact ⟨⟨k + 1, n1, c1, A1, by omega, by go_num, rfl, Lib.hid (by rw [HN.out]; exact HW.out), ht⟩, by simp [intOf]; omega⟩
   ·have hdg := form_chars HD.out (List.mem_of_getElem? hx) h45
    have hg : ∀ h : k < (ByteArray.mk l.toArray).size, ((((ByteArray.mk l.toArray)[k]'h).toNat : Int) == 45) = false := fun h => by
     rw [tx_getI l k x hx h, beq_eq_false_iff_ne]
     omega
    obtain ⟨q, hq⟩ : ∃ q, x.toNat = q + 48 := ⟨x.toNat - 48, by omega⟩
    have hq9 : q ≤ 9 := by omega
    have hg2 : ∀ h : k < (ByteArray.mk l.toArray).size, (((ByteArray.mk l.toArray)[k]'h).toNat : Int) = (q : Int) + 48 := fun h => by
     rw [tx_getI l k x hx h, hq]
     omega
    have HN : Hid (decVal (noDash (l.take (k + 1))) = decVal (noDash (l.take k)) * 10 + q) := Lib.hid (by
     rw [hns, if_neg h45, decVal_snoc, hq]
     omega)
    have HLN := Lib.hid (dash_words HD.out (k + 1))
    have HMUL : Hid (∀ W u, Touch [] wr W → Dgs W u [10] → Calls Tryz.prog 186 #[.slice A1 n1 c1, u] W fun r w' => ∃ v, r = .returned v ∧ Dgs w' v (wordsOf 256 (decVal (noDash (l.take k)) * 10)) ∧ Touch [] W w') := Lib.hid (fun W u t hu => (rtimes_any (.slice A1 n1 c1) u (decVal (noDash (l.take k))) 10 W (HW.out.touch0 t) (by rw [words_ten8]; exact hu) (by have := dash_words HD.out k; omega) (by rw [words_ten8]; simp)).mono (fun _ _ h => by
     obtain ⟨v, h1, h2, h3, -⟩ := h
     exact ⟨v, h1, h2, h3⟩))
    have HTR := Lib.hid (fun W u (hu : Dgs W u [q]) => rtrim_any u [q] W hu)
    have HADD : Hid (∀ W u u', Dgs W u (wordsOf 256 (decVal (noDash (l.take k)) * 10)) → Dgs W u' (wordsOf 256 (nv 256 [q])) → Calls Tryz.prog 89 #[u, u'] W fun r w' => ∃ v, r = .returned v ∧ Dgs w' v (wordsOf 256 (decVal (noDash (l.take (k + 1))))) ∧ Touch [] W w') := Lib.hid (fun W u u' h1 h2 => by
     have h3 := HLN.out
     rw [HN.out] at h3 ⊢
     rw [nv_one8] at h2
     exact (rplus_any u u' _ _ W h1 h2 (by have := words_le_mono8 (show decVal (noDash (l.take k)) * 10 ≤ decVal (noDash (l.take k)) * 10 + q by omega) h3; omega) (by have := words_le_mono8 (show q ≤ decVal (noDash (l.take k)) * 10 + q by omega) h3; omega)).mono (fun _ _ h => by
      obtain ⟨v, h1, h2, h3, -⟩ := h
      exact ⟨v, h1, h2, h3⟩))
    have hT := (Touch.refl [] wr).drew
    have HT0W := Lib.hid ht
    have HQ9 := Lib.hid hq9
    have hw8 : IntKind.u8.wrap (q : Int) = (q : Int) := by show (q : Int) % 256 = q; omega
    clear hx hxk hns h45 hdg hq hq9 HW ht
    go_wp2_with fail
    go_region_with (first
     | (go_at_call 186; with_reducible refine Calls.mono (HMUL.out _ _ ?_ ?_) ?_; (focus (first | exact ((Touch.refl [] wr).alloc _).drew | exact (((Touch.refl [] wr).alloc _).alloc _).drew | exact hT.alloc _ | exact (hT.alloc _).alloc _)); (focus (first | exact bytes_new _ 10 (by omega) | exact (bytes_new _ 10 (by omega)).touch0 ((Touch.refl [] _).drew) | exact (bytes_new _ 10 (by omega)).touch0 (((Touch.refl [] _).alloc _).drew) | exact (bytes_new _ 10 (by omega)).touch0 ((Touch.refl [] _).alloc _) | exact bytes_new1 _ _ 10 (by omega) | exact (bytes_new1 _ _ 10 (by omega)).touch0 ((Touch.refl [] _).drew) | exact (bytes_new1 _ _ 10 (by omega)).touch0 (((Touch.refl [] _).alloc _).drew) | exact (bytes_new1 _ _ 10 (by omega)).touch0 ((Touch.refl [] _).alloc _))); rintro r w5 ⟨v5, rfl, hw5, ht5⟩; (try dsimp only); have HM5 := Lib.hid hw5; have HT5 := Lib.hid ht5; obtain ⟨A5, n5, c5, rfl⟩ := hw5.form3; clear hw5 ht5)
     | (go_at_call 137; with_reducible refine Calls.mono (HTR.out _ _ ?_) ?_; (focus (have h9 := HQ9.out; first | exact bytes_new _ q (by omega) | exact (bytes_new _ q (by omega)).touch0 ((Touch.refl [] _).drew) | exact (bytes_new _ q (by omega)).touch0 (((Touch.refl [] _).alloc _).drew) | exact (bytes_new _ q (by omega)).touch0 ((Touch.refl [] _).alloc _) | exact (bytes_new _ q (by omega)).touch0 HT5.out | exact ((bytes_new _ q (by omega)).touch0 ((Touch.refl [] _).drew)).touch0 HT5.out | exact ((bytes_new _ q (by omega)).touch0 (((Touch.refl [] _).alloc _).drew)).touch0 HT5.out | exact ((bytes_new _ q (by omega)).touch0 ((Touch.refl [] _).alloc _)).touch0 HT5.out | exact bytes_new1 _ _ q (by omega) | exact (bytes_new1 _ _ q (by omega)).touch0 ((Touch.refl [] _).drew) | exact (bytes_new1 _ _ q (by omega)).touch0 (((Touch.refl [] _).alloc _).drew) | exact (bytes_new1 _ _ q (by omega)).touch0 ((Touch.refl [] _).alloc _) | exact (bytes_new1 _ _ q (by omega)).touch0 HT5.out | exact ((bytes_new1 _ _ q (by omega)).touch0 ((Touch.refl [] _).drew)).touch0 HT5.out | exact ((bytes_new1 _ _ q (by omega)).touch0 (((Touch.refl [] _).alloc _).drew)).touch0 HT5.out | exact ((bytes_new1 _ _ q (by omega)).touch0 ((Touch.refl [] _).alloc _)).touch0 HT5.out)); rintro r w6 ⟨v6, rfl, hw6, -, rfl⟩; (try dsimp only); have HM6 := Lib.hid hw6; obtain ⟨A6, n6, c6, rfl⟩ := hw6.form3; clear hw6)
     | (go_at_call 89; with_reducible refine Calls.mono (HADD.out _ _ _ ?_ ?_) ?_; (focus (first | exact HM5.out | exact HM5.out.touch0 ((Touch.refl [] _).alloc _))); (focus (first | exact HM6.out | exact HM6.out.touch0 HT5.out | exact (HM6.out.touch0 ((Touch.refl [] _).alloc _)).touch0 HT5.out)); rintro r w7 ⟨v7, rfl, hw7, ht7⟩; (try dsimp only); have HM7 := Lib.hid hw7; have HT7 := Lib.hid ht7; obtain ⟨A7, n7, c7, rfl⟩ := hw7.form3; clear hw7 ht7))
    all_goals
     have hT7 : Touch [] wr w7 := by
      first
       | exact ((((Touch.refl [] wr).alloc _).drew.then0 HT5.out).alloc _).then0 HT7.out
       | exact (((Touch.refl [] wr).alloc _).drew.then0 HT5.out).then0 HT7.out
       | exact ((((Touch.refl [] wr).alloc _).alloc _).drew.then0 HT5.out).then0 HT7.out
       | exact ((((Touch.refl [] wr).drew.alloc _).alloc _).then0 HT5.out).then0 HT7.out
     go_wp2_with fail
     exact ⟨⟨k + 1, n7, c7, A7, by omega, by go_num, rfl, HM7, HT0W.out.then0 hT7⟩, by simp [intOf]; omega⟩
  ·have hlt' : ¬ (k : Int) < (l.length : Int) := by omega
   have hk' : k = l.length := by omega
   have HWD : Hid (Dgs wr (.slice A1 n1 c1) (wordsOf 256 N)) := Lib.hid (by
    have := HW.out
    rw [hk', List.take_length, HNN.out] at this
    exact this)
   have HBL : Hid ((wordsOf 256 N).length ≤ 100000) := Lib.hid (by
    have := dash_words HD.out l.length
    rw [List.take_length, HNN.out] at this
    omega)
   have HT := Lib.hid ht
   clear hk hk' HW ht
   go_wp2_with fail
   refine (rmake_w n (.slice A1 n1 c1) _ N _ HWD.out (nv_words two256 N) HBL.out).mono ?_
   rintro r w5 ⟨x, rfl, hx, ht5⟩
   have hsg : sg n N = n := by
    unfold sg
    cases hn : n with
    | false => rfl
    | true => simp; exact HPOS.out hn
   rw [hsg] at hx
   obtain ⟨A9, n9, c9, rfl, hd9⟩ := hx.ex
   have HB1 := Lib.hid ((HB0.out.touch HT.out (by simp)).touch ht5 (by simp))
   have HT1 := Lib.hid ((HT0.out.then0 HT.out).then0 ht5)
   have HD9 := Lib.hid hd9
   have q0 := HB1.out.cell 0
   have q1 := HB1.out.cell 1
   have f0 := HB1.out.frozen 0
   have f1 := HB1.out.frozen 1
   simp at q0 q1
   clear hd9 hx ht5 hsg
   go_wp2_with fail
   obtain ⟨k0, k1, k2⟩ := int_res' (w := w) n HB1.out (Nat.le_refl _) HT1.out HD9.out _ rfl
   refine bodyPost_ret (v := .agg #[.bool n, .slice A9 n9 c9]) (by simp [results, Tryz.results153, go_sem, k0.1, k0.2]) rfl ⟨_, rfl, k1, k2⟩
def RlPost (N : Nat) (w : World) (r : Ending) (w' : World) : Prop := ∃ nb A k c e, r = .returned (.tuple #[.agg #[.bool nb, .slice A k c], .int .i64 e]) ∧ (e = 0 ↔ N < Top) ∧ Touch [] w w'
theorem rlim_any (n : Bool) (d : Value) (N : Nat) (w : World) (h : Dgs w d (dg N)) : Calls Tryz.prog 152 #[.agg #[.bool n, d]] w (RlPost N w) := by
 obtain ⟨A, cap, rfl⟩ := h.form
 obtain ⟨ht0, hcc⟩ := box1r w n (.slice A (dg N).length cap)
 unfold W1I at ht0 hcc
 have HC := Lib.hid (fun W t => (hcc W t).1.2)
 obtain ⟨p0, p1⟩ := (hcc _ (Touch.refl _ _)).1.1
 clear hcc
 have HB := Lib.hid (HC.out _ (Touch.refl _ _))
 obtain ⟨b0, b1, b2, b3⟩ : _ ∧ _ ∧ _ ∧ _ := ⟨(HB.out.cell 0).trans rfl, (HB.out.cell 1).trans rfl, HB.out.frozen 0, HB.out.frozen 1⟩
 have HT0 := Lib.hid ht0
 by_cases hN : N < Top
 ·have hlen : ¬ (64 : Int) < ((dg N).length : Int) := by have := top_dg.2 hN; omega
  have HN := Lib.hid hN
  clear hN h ht0
  generalize (dg N).length = m at *
  go_enter Tryz.func152, Tryz.ntmps152
  go_wp2_with fail
  refine bodyPost_ret (v := .tuple #[.agg #[.bool n, .slice A m cap], .int .i64 0]) (by simp [results, Tryz.results152, go_sem]) rfl ⟨n, A, m, cap, 0, rfl, by simp [HN.out], ((Touch.refl _ _).alloc _).alloc _⟩
 ·have hlen : (64 : Int) < ((dg N).length : Int) := by have := mt top_dg.1 hN; omega
  have HN := Lib.hid hN
  clear hN h ht0
  generalize (dg N).length = m at *
  go_enter Tryz.func152, Tryz.ntmps152
  go_wp2_with fail
  refine bodyPost_ret (v := .tuple #[.agg #[.bool false, .slice none 0 0], .int .i64 7]) (by simp [results, Tryz.results152, go_sem]) rfl ⟨false, none, 0, 0, 7, rfl, by simp [HN.out], ((Touch.refl _ _).alloc _).alloc _⟩
end Go.Proofs.YtedpaajpfaoffaaGreatDoor
