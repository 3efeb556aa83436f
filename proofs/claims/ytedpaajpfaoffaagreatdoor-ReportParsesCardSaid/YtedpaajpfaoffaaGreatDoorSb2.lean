/- number.Parse. -/
import Derived.Test.YtedpaajpfaoffaaGreatDoorSaA
import Derived.Test.YtedpaajpfaoffaaGreatDoorQvA
import Derived.Deep.RegionWith
set_option linter.all false
set_option maxHeartbeats 8000000
set_option maxRecDepth 100000
namespace Go.Proofs.YtedpaajpfaoffaaGreatDoor
open Go.RowKit
theorem cutMinus_any (l : List UInt8) (w : World) (hl : l.length ≤ 65536) : Calls Tryz.prog 181 #[.string ⟨l.toArray⟩, .string ⟨#[45]⟩] w fun r w' => r = .returned (.tuple #[.string ⟨(unsigned l).toArray⟩, .bool (decide (l.head? = some 45))]) ∧ w' = w := by
 cases l with
 | nil =>
  go_enter Tryz.func181, Tryz.ntmps181
  go_wp2
  go_ret2
  exact ⟨rfl, rfl⟩
 | cons c t =>
  have hsz : (ByteArray.mk (c :: t).toArray).size = t.length + 1 := by simp [ByteArray.size]
  have hx := tx_at (c :: t) 0 c rfl
  have hy : (ByteArray.mk (c :: t).toArray).extract 1 (t.length + 1) = ByteArray.mk t.toArray := tx_drop1 c t
  by_cases hc : c = 45
  ·subst hc
   go_enter Tryz.func181, Tryz.ntmps181
   go_wp2
   go_ret2
   exact ⟨rfl, rfl⟩
  ·have e1 : unsigned (c :: t) = c :: t := unsigned_other (by simpa using hc)
   have e2 : decide ((c :: t).head? = some 45) = false := by simpa using hc
   have hcb : (c == 45) = false := beq_false_of_ne hc
   rw [e1, e2]
   clear hc e1 e2
   go_enter Tryz.func181, Tryz.ntmps181
   go_wp2
   go_ret2
   exact ⟨rfl, rfl⟩
def NpPost (o : Option (Bool × Nat)) (w : World) (r : Ending) (w' : World) : Prop := Touch [] w w' ∧ match o with
 | none => r = .returned (.tuple #[.agg #[.bool false, .slice none 0 0], .int .i64 6])
 | some x => (x.2 < Top ∧ ∃ A k c, r = .returned (.tuple #[.agg #[.bool x.1, .slice A k c], .int .i64 0]) ∧ Dgs w' (.slice A k c) (dg x.2)) ∨ (¬ x.2 < Top ∧ r = .returned (.tuple #[.agg #[.bool false, .slice none 0 0], .int .i64 7]))
theorem words_new (w : World) (n : Nat) (hn : n < 4294967296) : Words (w.alloc (.cells #[.int .u32 (n : Int)] 178)) (.slice (some ⟨w.heap.size, 0, none⟩) 1 1) [n] := by
 have b : WB (w.alloc (.cells #[.int .u32 (n : Int)] 178)) w.heap.size [n] := Blk.new _ _ _
 exact b.words (fun x hx => by rw [List.mem_singleton] at hx; subst hx; exact hn) (by simp [maxLen]) rfl
theorem words_new1 (w : World) (o : Obj) (n : Nat) (hn : n < 4294967296) : Words ((w.alloc o).alloc (.cells #[.int .u32 (n : Int)] 178)) (.slice (some ⟨w.heap.size + 1, 0, none⟩) 1 1) [n] := by
 have := words_new (w.alloc o) n hn
 simpa using this
theorem words_ten : wordsOf B32 10 = [10] := words_nv (xs := [10]) B32_le (fun x hx => by rw [List.mem_singleton] at hx; subst hx; unfold B32; omega) (fun h => by simp)
theorem nv_one (q : Nat) : nv B32 [q] = q := by simp [nv]
theorem words_le_mono {a b n : Nat} (h : a ≤ b) (hb : (wordsOf B32 b).length ≤ n) : (wordsOf B32 a).length ≤ n := (len_le B32_le).2 (Nat.lt_of_le_of_lt h ((len_le B32_le).1 hb))
theorem dec_words {d : List UInt8} {k : Nat} (h : ∀ c ∈ d, 48 ≤ c.toNat ∧ c.toNat ≤ 57) (hl : d.length ≤ 155) : (wordsOf B32 (decVal (d.take k))).length ≤ 155 := by
 rw [len_le B32_le]
 have h1 := decVal_small (d := d.take k) (n := 155) (fun c hc => h c (List.mem_of_mem_take hc)) (by simp; omega)
 refine Nat.lt_of_lt_of_le h1 ?_
 exact Nat.pow_le_pow_left (by unfold B32; omega) 155
theorem np_nil (w : World) (d : List UInt8) : Words w (.slice none 0 0) (wordsOf B32 (decVal (d.take 0))) := Words.nil w
def NpRel (w : World) (d : List UInt8) (tx ti : Value) (wr : World) : Prop := ∃ (k n c : Nat) (A : Option Addr), k ≤ d.length ∧ ti = .int .i64 k ∧ tx = .slice A n c ∧ Hid (Words wr (.slice A n c) (wordsOf B32 (decVal (d.take k)))) ∧ Touch [] w wr
theorem nParse_any (l : List UInt8) (w : World) (hl : l.length ≤ 65536) : Calls Tryz.prog 143 #[.string ⟨l.toArray⟩] w (NpPost (formI l) w) := by
 have HC := Lib.hid (fun W => cutMinus_any l W hl)
 have hle := unsigned_le l
 have HF1 := Lib.hid (form_none (l := l))
 have HF2 := Lib.hid (form_minus (l := l))
 have HF3 := Lib.hid (form_some (l := l))
 have HFI := Lib.hid (fun n N => formI_inv (l := l) (n := n) (N := N))
 have HD := Lib.hid (fun W => isDecimal_any (unsigned l) W (by omega))
 have hsz := tx_size (unsigned l)
 have hb0 : Blk (w.alloc (.cells #[.bool false, .slice none 0 0] 32)) w.heap.size 32 #[.bool false, .slice none 0 0] := Blk.new _ _ _
 have ht0 : Touch [] w (w.alloc (.cells #[.bool false, .slice none 0 0] 32)) := (Touch.refl _ _).alloc _
 generalize unsigned l = d at *
 generalize hn : decide (l.head? = some 45) = neg at *
 generalize formI l = res at *
 cases hd : isDec d with
 | false =>
  obtain rfl : res = none := HF1.out hd
  rw [hd] at HD
  go_enter Tryz.func143, Tryz.ntmps143
  go_wp2_with fail
  generalize (w.alloc (.cells #[.bool false, .slice none 0 0] 32)) = w0 at *
  with_reducible refine (HC.out w0).mono ?_
  rintro r w1 ⟨rfl, rfl⟩
  dsimp only
  go_wp2_with fail
  with_reducible refine (HD.out w1).mono ?_
  rintro r w2 ⟨rfl, rfl⟩
  dsimp only
  have q0 := hb0.cell 0
  have q1 := hb0.cell 1
  have f0 := hb0.frozen 0
  have f1 := hb0.frozen 1
  simp at q0 q1
  go_wp2_with fail
  have k := hb0.int2 (.bool false) (.slice none 0 0)
  refine bodyPost_ret (v := .tuple #[.agg #[.bool false, .slice none 0 0], .int .i64 6]) (by simp [results, Tryz.results143, go_sem, k.1, k.2.1]) rfl ⟨ht0.step k.2.2 (fun m hm => .inr (by rw [List.mem_singleton] at hm; omega)), rfl⟩
 | true =>
  have HAL := Lib.hid (isDec_all hd)
  have HLONG := Lib.hid (decVal_long hd)
  rw [hd] at HD
  by_cases hz : neg = true ∧ d = [48]
  ·obtain ⟨rfl, rfl⟩ := hz
   obtain rfl : res = none := HF2.out (by simpa using hn) rfl
   go_enter Tryz.func143, Tryz.ntmps143
   go_wp2_with fail
   generalize (w.alloc (.cells #[.bool false, .slice none 0 0] 32)) = w0 at *
   with_reducible refine (HC.out w0).mono ?_
   rintro r w1 ⟨rfl, rfl⟩
   dsimp only
   go_wp2_with fail
   with_reducible refine (HD.out w1).mono ?_
   rintro r w2 ⟨rfl, rfl⟩
   dsimp only
   have q0 := hb0.cell 0
   have q1 := hb0.cell 1
   have f0 := hb0.frozen 0
   have f1 := hb0.frozen 1
   simp at q0 q1
   go_wp2_with fail
   have k := hb0.int2 (.bool false) (.slice none 0 0)
   refine bodyPost_ret (v := .tuple #[.agg #[.bool false, .slice none 0 0], .int .i64 6]) (by simp [results, Tryz.results143, go_sem, k.1, k.2.1]) rfl ⟨ht0.step k.2.2 (fun m hm => .inr (by rw [List.mem_singleton] at hm; omega)), rfl⟩
  ·have HRES : Hid (res = some (neg, decVal d)) := Lib.hid (HF3.out hd (fun h => hz ⟨by rw [← hn]; simpa using h.1, h.2⟩))
   have HPOS : Hid (neg = true → 0 < decVal d) := Lib.hid (fun e => decVal_pos hd (fun h => hz ⟨e, h⟩))
   clear HF1 HF2 HF3 HFI hd hn
   cases neg with
   | false =>
    clear hz
    by_cases hlong : 155 < d.length
    ·have hl155 : (155 : Int) < (d.length : Int) := by omega
     go_enter Tryz.func143, Tryz.ntmps143
     go_wp2_with fail
     generalize (w.alloc (.cells #[.bool false, .slice none 0 0] 32)) = w0 at *
     with_reducible refine (HC.out w0).mono ?_
     rintro r w1 ⟨rfl, rfl⟩
     dsimp only
     go_wp2_with fail
     with_reducible refine (HD.out w1).mono ?_
     rintro r w2 ⟨rfl, rfl⟩
     dsimp only
     have q0 := hb0.cell 0
     have q1 := hb0.cell 1
     have f0 := hb0.frozen 0
     have f1 := hb0.frozen 1
     simp at q0 q1
     go_wp2_with fail
     have k := hb0.int2 (.bool false) (.slice none 0 0)
     refine bodyPost_ret (v := .tuple #[.agg #[.bool false, .slice none 0 0], .int .i64 7]) (by simp [results, Tryz.results143, go_sem, k.1, k.2.1]) rfl ⟨ht0.step k.2.2 (fun m hm => .inr (by rw [List.mem_singleton] at hm; omega)), by rw [HRES.out]; exact .inr ⟨HLONG.out (by omega), rfl⟩⟩
    ·
     go_enter Tryz.func143, Tryz.ntmps143
     go_wp2_with fail
     generalize (w.alloc (.cells #[.bool false, .slice none 0 0] 32)) = w0 at *
     with_reducible refine (HC.out w0).mono ?_
     rintro r w1 ⟨rfl, rfl⟩
     dsimp only
     go_wp2_with fail
     with_reducible refine (HD.out w1).mono ?_
     rintro r w2 ⟨rfl, rfl⟩
     dsimp only
     have hl155 : ¬ (155 : Int) < (d.length : Int) := by omega
     go_wp2_with fail
     have HB0 := Lib.hid hb0
     have HT0 := Lib.hid ht0
     clear hb0 ht0
     go_loopw [6, 30] (fun tx ti wr => NpRel w2 d tx ti wr) (fun _ ti _ => d.length - (intOf ti).toNat)
     case atStart => exact ⟨0, 0, 0, none, by omega, rfl, rfl, Lib.hid (np_nil _ _), Touch.refl _ _⟩
     case round =>
      obtain ⟨k, n, c, A, hk, rfl, rfl, HW, ht⟩ := hrel
      by_cases hlt : k < d.length
      ·have hlt' : (k : Int) < (d.length : Int) := by omega
       obtain ⟨x, hx⟩ : ∃ x, d[k]? = some x := ⟨_, List.getElem?_eq_getElem hlt⟩
       have hxb := HAL.out x (List.mem_of_getElem? hx)
       obtain ⟨q, hq⟩ : ∃ q, x.toNat = q + 48 := ⟨x.toNat - 48, by omega⟩
       have hq9 : q ≤ 9 := by omega
       have HN : Hid (decVal (d.take (k + 1)) = decVal (d.take k) * 10 + q) := Lib.hid (by
        rw [decVal_succ hlt]
        rw [List.getElem?_eq_getElem hlt] at hx
        injection hx with hx
        rw [hx, hq]
        omega)
       have hg : ∀ h : k < (ByteArray.mk d.toArray).size, (((ByteArray.mk d.toArray)[k]'h).toNat : Int) = (q : Int) + 48 := fun h => by
        rw [tx_getI d k x hx h, hq]
        omega
       have HLN := Lib.hid (dec_words (d := d) (k := k) HAL.out (by omega))
       have HMUL : Hid (∀ W u, Touch [] wr W → Words W u [10] → Calls Tryz.prog 177 #[.slice A n c, u] W fun r w' => ∃ v, r = .returned v ∧ Words w' v (wordsOf B32 (decVal (d.take k) * 10)) ∧ Touch [] W w') := Lib.hid (fun W u t hu => mulNat_any (.slice A n c) u (decVal (d.take k)) 10 W (HW.out.touch0 t) (by rw [words_ten]; exact hu) (by have := HLN.out; omega) (by rw [words_ten]; simp))
       have HADD : Hid (∀ W u u', Words W u (wordsOf B32 (decVal (d.take k) * 10)) → Words W u' (wordsOf B32 (nv B32 [q])) → Calls Tryz.prog 129 #[u, u'] W fun r w' => ∃ v, r = .returned v ∧ Words w' v (wordsOf B32 (decVal (d.take (k + 1)))) ∧ Touch [] W w') := Lib.hid (fun W u u' h1 h2 => by
        rw [HN.out]
        rw [nv_one] at h2
        have h3 : (wordsOf B32 (decVal (d.take (k + 1)))).length ≤ 155 := dec_words (d := d) (k := k + 1) HAL.out (by omega)
        rw [HN.out] at h3
        exact addNat_any u u' _ _ W h1 h2 (by have := words_le_mono (show decVal (d.take k) * 10 ≤ decVal (d.take k) * 10 + q by omega) h3; omega) (by have := words_le_mono (show q ≤ decVal (d.take k) * 10 + q by omega) h3; omega))
       have HT0W := Lib.hid ht
       have HTR := Lib.hid (fun W u (hu : Words W u [q]) => trim_any u [q] W hu)
       have hT := (Touch.refl [] wr).drew
       clear hx hxb hq HW
       go_wp2_with fail
       have HQ9 := Lib.hid hq9
       have hw8 : IntKind.u8.wrap (q : Int) = (q : Int) := by show (q : Int) % 256 = q; omega
       have hw32 : IntKind.u32.wrap (q : Int) = (q : Int) := by show (q : Int) % 4294967296 = q; omega
       clear hq9
       go_region_with (first
        | (go_at_call 177; with_reducible refine Calls.mono (HMUL.out _ _ ?_ ?_) ?_; (focus (first | exact ((Touch.refl [] wr).alloc _).drew | exact (((Touch.refl [] wr).alloc _).alloc _).drew | exact hT.alloc _ | exact (hT.alloc _).alloc _)); (focus (first | exact words_new _ 10 (by omega) | exact (words_new _ 10 (by omega)).touch0 ((Touch.refl [] _).drew) | exact (words_new _ 10 (by omega)).touch0 (((Touch.refl [] _).alloc _).drew) | exact (words_new _ 10 (by omega)).touch0 ((Touch.refl [] _).alloc _) | exact words_new1 _ _ 10 (by omega) | exact (words_new1 _ _ 10 (by omega)).touch0 ((Touch.refl [] _).drew) | exact (words_new1 _ _ 10 (by omega)).touch0 (((Touch.refl [] _).alloc _).drew) | exact (words_new1 _ _ 10 (by omega)).touch0 ((Touch.refl [] _).alloc _))); rintro r w5 ⟨v5, rfl, hw5, ht5⟩; (try dsimp only); have HM5 := Lib.hid hw5; have HT5 := Lib.hid ht5; obtain ⟨A5, n5, c5, rfl⟩ := hw5.form3; clear hw5 ht5)
        | (go_at_call 128; with_reducible refine Calls.mono (HTR.out _ _ ?_) ?_; (focus (have h9 := HQ9.out; first | exact words_new _ q (by omega) | exact (words_new _ q (by omega)).touch0 ((Touch.refl [] _).drew) | exact (words_new _ q (by omega)).touch0 (((Touch.refl [] _).alloc _).drew) | exact (words_new _ q (by omega)).touch0 ((Touch.refl [] _).alloc _) | exact (words_new _ q (by omega)).touch0 HT5.out | exact ((words_new _ q (by omega)).touch0 ((Touch.refl [] _).drew)).touch0 HT5.out | exact ((words_new _ q (by omega)).touch0 (((Touch.refl [] _).alloc _).drew)).touch0 HT5.out | exact ((words_new _ q (by omega)).touch0 ((Touch.refl [] _).alloc _)).touch0 HT5.out | exact words_new1 _ _ q (by omega) | exact (words_new1 _ _ q (by omega)).touch0 ((Touch.refl [] _).drew) | exact (words_new1 _ _ q (by omega)).touch0 (((Touch.refl [] _).alloc _).drew) | exact (words_new1 _ _ q (by omega)).touch0 ((Touch.refl [] _).alloc _) | exact (words_new1 _ _ q (by omega)).touch0 HT5.out | exact ((words_new1 _ _ q (by omega)).touch0 ((Touch.refl [] _).drew)).touch0 HT5.out | exact ((words_new1 _ _ q (by omega)).touch0 (((Touch.refl [] _).alloc _).drew)).touch0 HT5.out | exact ((words_new1 _ _ q (by omega)).touch0 ((Touch.refl [] _).alloc _)).touch0 HT5.out)); rintro r w6 ⟨v6, rfl, hw6, -, rfl⟩; (try dsimp only); have HM6 := Lib.hid hw6; obtain ⟨A6, n6, c6, rfl⟩ := hw6.form3; clear hw6)
        | (go_at_call 129; with_reducible refine Calls.mono (HADD.out _ _ _ ?_ ?_) ?_; (focus (first | exact HM5.out | exact HM5.out.touch0 ((Touch.refl [] _).alloc _))); (focus (first | exact HM6.out | exact HM6.out.touch0 HT5.out | exact (HM6.out.touch0 ((Touch.refl [] _).alloc _)).touch0 HT5.out)); rintro r w7 ⟨v7, rfl, hw7, ht7⟩; (try dsimp only); have HM7 := Lib.hid hw7; have HT7 := Lib.hid ht7; obtain ⟨A7, n7, c7, rfl⟩ := hw7.form3; clear hw7 ht7))
       all_goals
        have hT7 : Touch [] wr w7 := by
         first
          | exact ((((Touch.refl [] wr).alloc _).drew.then0 HT5.out).alloc _).then0 HT7.out
          | exact (((Touch.refl [] wr).alloc _).drew.then0 HT5.out).then0 HT7.out
          | exact ((((Touch.refl [] wr).alloc _).alloc _).drew.then0 HT5.out).then0 HT7.out
          | exact ((((Touch.refl [] wr).drew.alloc _).alloc _).then0 HT5.out).then0 HT7.out
        go_wp2_with fail
        exact ⟨⟨k + 1, n7, c7, A7, by omega, by go_num, rfl, HM7, HT0W.out.then0 hT7⟩, by simp [intOf]; omega⟩
      ·have hlt' : ¬ (k : Int) < (d.length : Int) := by omega
       have hk' : k = d.length := by omega
       have HWD : Hid (Words wr (.slice A n c) (wordsOf B32 (decVal d))) := Lib.hid (by
        have := HW.out
        rwa [hk', List.take_length] at this)
       have HBL : Hid ((wordsOf B32 (decVal d)).length ≤ 100000) := Lib.hid (by
        have := dec_words (d := d) (k := d.length) HAL.out (by omega)
        rw [List.take_length] at this
        omega)
       have HT := Lib.hid ht
       clear hk hk' HW ht
       go_wp2_with fail
       refine (build_any false (.slice A n c) (decVal d) _ HWD.out HBL.out).mono ?_
       rintro r w5 hb
       rcases hb with ⟨hT, A9, n9, c9, rfl, hd9, ht9, hfr⟩ | ⟨hT, rfl, ht9⟩
       ·rw [show sg false (decVal d) = false from rfl]
        have hb0 := (HB0.out.touch HT.out (by simp)).touch ht9 (by simp)
        have ht0 := (HT0.out.then0 HT.out).then0 ht9
        have HD9 := Lib.hid hd9
        have HTT := Lib.hid hT
        clear hd9 ht9 hfr hT
        have q0 := hb0.cell 0
        have q1 := hb0.cell 1
        have f0 := hb0.frozen 0
        have f1 := hb0.frozen 1
        simp at q0 q1
        have HB1 := Lib.hid hb0
        have HT1 := Lib.hid ht0
        clear hb0 ht0
        dsimp only
        go_wp2_with fail
        obtain ⟨k0, k1, k2⟩ := int_res' (w := w) false HB1.out (Nat.le_refl _) HT1.out HD9.out _ rfl
        obtain ⟨A1, n1, c1, e1, k3⟩ := k1
        refine bodyPost_ret (v := .tuple #[.agg #[.bool false, .slice A9 n9 c9], .int .i64 0]) (by simp [results, Tryz.results143, go_sem, k0.1, k0.2]) rfl ⟨k2, ?_⟩
        rw [HRES.out]
        refine .inl ⟨HTT.out, A9, n9, c9, rfl, ?_⟩
        have e2 : Value.slice A9 n9 c9 = .slice A1 n1 c1 := by simpa using e1
        rw [← e2] at k3
        exact k3
       ·have hb0 := (HB0.out.touch HT.out (by simp)).touch ht9 (by simp)
        have ht0 := (HT0.out.then0 HT.out).then0 ht9
        have HTT := Lib.hid hT
        clear ht9 hT
        have q0 := hb0.cell 0
        have q1 := hb0.cell 1
        have f0 := hb0.frozen 0
        have f1 := hb0.frozen 1
        simp at q0 q1
        have HB1 := Lib.hid hb0
        have HT1 := Lib.hid ht0
        clear hb0 ht0
        dsimp only
        go_wp2_with fail
        have hb0 := HB1.out
        have ht0 := HT1.out
        have k := hb0.int2 (.bool false) (.slice none 0 0)
        refine bodyPost_ret (v := .tuple #[.agg #[.bool false, .slice none 0 0], .int .i64 7]) (by simp [results, Tryz.results143, go_sem, k.1, k.2.1]) rfl ⟨ht0.step k.2.2 (fun m hm => .inr (by rw [List.mem_singleton] at hm; omega)), by rw [HRES.out]; exact .inr ⟨HTT.out, rfl⟩⟩
   | true =>
    have hd48 : (d == [48]) = false := beq_false_of_ne (fun h => hz ⟨rfl, h⟩)
    have HSG : Hid (sg true (decVal d) = true) := Lib.hid (by unfold sg; simp; exact HPOS.out rfl)
    clear hz
    by_cases hlong : 155 < d.length
    ·have hl155 : (155 : Int) < (d.length : Int) := by omega
     go_enter Tryz.func143, Tryz.ntmps143
     go_wp2_with fail
     generalize (w.alloc (.cells #[.bool false, .slice none 0 0] 32)) = w0 at *
     with_reducible refine (HC.out w0).mono ?_
     rintro r w1 ⟨rfl, rfl⟩
     dsimp only
     go_wp2_with fail
     with_reducible refine (HD.out w1).mono ?_
     rintro r w2 ⟨rfl, rfl⟩
     dsimp only
     have q0 := hb0.cell 0
     have q1 := hb0.cell 1
     have f0 := hb0.frozen 0
     have f1 := hb0.frozen 1
     simp at q0 q1
     go_wp2_with fail
     have k := hb0.int2 (.bool false) (.slice none 0 0)
     refine bodyPost_ret (v := .tuple #[.agg #[.bool false, .slice none 0 0], .int .i64 7]) (by simp [results, Tryz.results143, go_sem, k.1, k.2.1]) rfl ⟨ht0.step k.2.2 (fun m hm => .inr (by rw [List.mem_singleton] at hm; omega)), by rw [HRES.out]; exact .inr ⟨HLONG.out (by omega), rfl⟩⟩
    ·
     go_enter Tryz.func143, Tryz.ntmps143
     go_wp2_with fail
     generalize (w.alloc (.cells #[.bool false, .slice none 0 0] 32)) = w0 at *
     with_reducible refine (HC.out w0).mono ?_
     rintro r w1 ⟨rfl, rfl⟩
     dsimp only
     go_wp2_with fail
     with_reducible refine (HD.out w1).mono ?_
     rintro r w2 ⟨rfl, rfl⟩
     dsimp only
     have hl155 : ¬ (155 : Int) < (d.length : Int) := by omega
     go_wp2_with fail
     have HB0 := Lib.hid hb0
     have HT0 := Lib.hid ht0
     clear hb0 ht0
     go_loopw [6, 30] (fun tx ti wr => NpRel w2 d tx ti wr) (fun _ ti _ => d.length - (intOf ti).toNat)
     case atStart => exact ⟨0, 0, 0, none, by omega, rfl, rfl, Lib.hid (np_nil _ _), Touch.refl _ _⟩
     case round =>
      obtain ⟨k, n, c, A, hk, rfl, rfl, HW, ht⟩ := hrel
      by_cases hlt : k < d.length
      ·have hlt' : (k : Int) < (d.length : Int) := by omega
       obtain ⟨x, hx⟩ : ∃ x, d[k]? = some x := ⟨_, List.getElem?_eq_getElem hlt⟩
       have hxb := HAL.out x (List.mem_of_getElem? hx)
       obtain ⟨q, hq⟩ : ∃ q, x.toNat = q + 48 := ⟨x.toNat - 48, by omega⟩
       have hq9 : q ≤ 9 := by omega
       have HN : Hid (decVal (d.take (k + 1)) = decVal (d.take k) * 10 + q) := Lib.hid (by
        rw [decVal_succ hlt]
        rw [List.getElem?_eq_getElem hlt] at hx
        injection hx with hx
        rw [hx, hq]
        omega)
       have hg : ∀ h : k < (ByteArray.mk d.toArray).size, (((ByteArray.mk d.toArray)[k]'h).toNat : Int) = (q : Int) + 48 := fun h => by
        rw [tx_getI d k x hx h, hq]
        omega
       have HLN := Lib.hid (dec_words (d := d) (k := k) HAL.out (by omega))
       have HMUL : Hid (∀ W u, Touch [] wr W → Words W u [10] → Calls Tryz.prog 177 #[.slice A n c, u] W fun r w' => ∃ v, r = .returned v ∧ Words w' v (wordsOf B32 (decVal (d.take k) * 10)) ∧ Touch [] W w') := Lib.hid (fun W u t hu => mulNat_any (.slice A n c) u (decVal (d.take k)) 10 W (HW.out.touch0 t) (by rw [words_ten]; exact hu) (by have := HLN.out; omega) (by rw [words_ten]; simp))
       have HADD : Hid (∀ W u u', Words W u (wordsOf B32 (decVal (d.take k) * 10)) → Words W u' (wordsOf B32 (nv B32 [q])) → Calls Tryz.prog 129 #[u, u'] W fun r w' => ∃ v, r = .returned v ∧ Words w' v (wordsOf B32 (decVal (d.take (k + 1)))) ∧ Touch [] W w') := Lib.hid (fun W u u' h1 h2 => by
        rw [HN.out]
        rw [nv_one] at h2
        have h3 : (wordsOf B32 (decVal (d.take (k + 1)))).length ≤ 155 := dec_words (d := d) (k := k + 1) HAL.out (by omega)
        rw [HN.out] at h3
        exact addNat_any u u' _ _ W h1 h2 (by have := words_le_mono (show decVal (d.take k) * 10 ≤ decVal (d.take k) * 10 + q by omega) h3; omega) (by have := words_le_mono (show q ≤ decVal (d.take k) * 10 + q by omega) h3; omega))
       have HT0W := Lib.hid ht
       have HTR := Lib.hid (fun W u (hu : Words W u [q]) => trim_any u [q] W hu)
       have hT := (Touch.refl [] wr).drew
       clear hx hxb hq HW
       go_wp2_with fail
       have HQ9 := Lib.hid hq9
       have hw8 : IntKind.u8.wrap (q : Int) = (q : Int) := by show (q : Int) % 256 = q; omega
       have hw32 : IntKind.u32.wrap (q : Int) = (q : Int) := by show (q : Int) % 4294967296 = q; omega
       clear hq9
       go_region_with (first
        | (go_at_call 177; with_reducible refine Calls.mono (HMUL.out _ _ ?_ ?_) ?_; (focus (first | exact ((Touch.refl [] wr).alloc _).drew | exact (((Touch.refl [] wr).alloc _).alloc _).drew | exact hT.alloc _ | exact (hT.alloc _).alloc _)); (focus (first | exact words_new _ 10 (by omega) | exact (words_new _ 10 (by omega)).touch0 ((Touch.refl [] _).drew) | exact (words_new _ 10 (by omega)).touch0 (((Touch.refl [] _).alloc _).drew) | exact (words_new _ 10 (by omega)).touch0 ((Touch.refl [] _).alloc _) | exact words_new1 _ _ 10 (by omega) | exact (words_new1 _ _ 10 (by omega)).touch0 ((Touch.refl [] _).drew) | exact (words_new1 _ _ 10 (by omega)).touch0 (((Touch.refl [] _).alloc _).drew) | exact (words_new1 _ _ 10 (by omega)).touch0 ((Touch.refl [] _).alloc _))); rintro r w5 ⟨v5, rfl, hw5, ht5⟩; (try dsimp only); have HM5 := Lib.hid hw5; have HT5 := Lib.hid ht5; obtain ⟨A5, n5, c5, rfl⟩ := hw5.form3; clear hw5 ht5)
        | (go_at_call 128; with_reducible refine Calls.mono (HTR.out _ _ ?_) ?_; (focus (have h9 := HQ9.out; first | exact words_new _ q (by omega) | exact (words_new _ q (by omega)).touch0 ((Touch.refl [] _).drew) | exact (words_new _ q (by omega)).touch0 (((Touch.refl [] _).alloc _).drew) | exact (words_new _ q (by omega)).touch0 ((Touch.refl [] _).alloc _) | exact (words_new _ q (by omega)).touch0 HT5.out | exact ((words_new _ q (by omega)).touch0 ((Touch.refl [] _).drew)).touch0 HT5.out | exact ((words_new _ q (by omega)).touch0 (((Touch.refl [] _).alloc _).drew)).touch0 HT5.out | exact ((words_new _ q (by omega)).touch0 ((Touch.refl [] _).alloc _)).touch0 HT5.out | exact words_new1 _ _ q (by omega) | exact (words_new1 _ _ q (by omega)).touch0 ((Touch.refl [] _).drew) | exact (words_new1 _ _ q (by omega)).touch0 (((Touch.refl [] _).alloc _).drew) | exact (words_new1 _ _ q (by omega)).touch0 ((Touch.refl [] _).alloc _) | exact (words_new1 _ _ q (by omega)).touch0 HT5.out | exact ((words_new1 _ _ q (by omega)).touch0 ((Touch.refl [] _).drew)).touch0 HT5.out | exact ((words_new1 _ _ q (by omega)).touch0 (((Touch.refl [] _).alloc _).drew)).touch0 HT5.out | exact ((words_new1 _ _ q (by omega)).touch0 ((Touch.refl [] _).alloc _)).touch0 HT5.out)); rintro r w6 ⟨v6, rfl, hw6, -, rfl⟩; (try dsimp only); have HM6 := Lib.hid hw6; obtain ⟨A6, n6, c6, rfl⟩ := hw6.form3; clear hw6)
        | (go_at_call 129; with_reducible refine Calls.mono (HADD.out _ _ _ ?_ ?_) ?_; (focus (first | exact HM5.out | exact HM5.out.touch0 ((Touch.refl [] _).alloc _))); (focus (first | exact HM6.out | exact HM6.out.touch0 HT5.out | exact (HM6.out.touch0 ((Touch.refl [] _).alloc _)).touch0 HT5.out)); rintro r w7 ⟨v7, rfl, hw7, ht7⟩; (try dsimp only); have HM7 := Lib.hid hw7; have HT7 := Lib.hid ht7; obtain ⟨A7, n7, c7, rfl⟩ := hw7.form3; clear hw7 ht7))
       all_goals
        have hT7 : Touch [] wr w7 := by
         first
          | exact ((((Touch.refl [] wr).alloc _).drew.then0 HT5.out).alloc _).then0 HT7.out
          | exact (((Touch.refl [] wr).alloc _).drew.then0 HT5.out).then0 HT7.out
          | exact ((((Touch.refl [] wr).alloc _).alloc _).drew.then0 HT5.out).then0 HT7.out
          | exact ((((Touch.refl [] wr).drew.alloc _).alloc _).then0 HT5.out).then0 HT7.out
        go_wp2_with fail
        exact ⟨⟨k + 1, n7, c7, A7, by omega, by go_num, rfl, HM7, HT0W.out.then0 hT7⟩, by simp [intOf]; omega⟩
      ·have hlt' : ¬ (k : Int) < (d.length : Int) := by omega
       have hk' : k = d.length := by omega
       have HWD : Hid (Words wr (.slice A n c) (wordsOf B32 (decVal d))) := Lib.hid (by
        have := HW.out
        rwa [hk', List.take_length] at this)
       have HBL : Hid ((wordsOf B32 (decVal d)).length ≤ 100000) := Lib.hid (by
        have := dec_words (d := d) (k := d.length) HAL.out (by omega)
        rw [List.take_length] at this
        omega)
       have HT := Lib.hid ht
       clear hk hk' HW ht
       go_wp2_with fail
       refine (build_any true (.slice A n c) (decVal d) _ HWD.out HBL.out).mono ?_
       rintro r w5 hb
       rcases hb with ⟨hT, A9, n9, c9, rfl, hd9, ht9, hfr⟩ | ⟨hT, rfl, ht9⟩
       ·rw [show sg true (decVal d) = true from HSG.out]
        have hb0 := (HB0.out.touch HT.out (by simp)).touch ht9 (by simp)
        have ht0 := (HT0.out.then0 HT.out).then0 ht9
        have HD9 := Lib.hid hd9
        have HTT := Lib.hid hT
        clear hd9 ht9 hfr hT
        have q0 := hb0.cell 0
        have q1 := hb0.cell 1
        have f0 := hb0.frozen 0
        have f1 := hb0.frozen 1
        simp at q0 q1
        have HB1 := Lib.hid hb0
        have HT1 := Lib.hid ht0
        clear hb0 ht0
        dsimp only
        go_wp2_with fail
        obtain ⟨k0, k1, k2⟩ := int_res' (w := w) true HB1.out (Nat.le_refl _) HT1.out HD9.out _ rfl
        obtain ⟨A1, n1, c1, e1, k3⟩ := k1
        refine bodyPost_ret (v := .tuple #[.agg #[.bool true, .slice A9 n9 c9], .int .i64 0]) (by simp [results, Tryz.results143, go_sem, k0.1, k0.2]) rfl ⟨k2, ?_⟩
        rw [HRES.out]
        refine .inl ⟨HTT.out, A9, n9, c9, rfl, ?_⟩
        have e2 : Value.slice A9 n9 c9 = .slice A1 n1 c1 := by simpa using e1
        rw [← e2] at k3
        exact k3
       ·have hb0 := (HB0.out.touch HT.out (by simp)).touch ht9 (by simp)
        have ht0 := (HT0.out.then0 HT.out).then0 ht9
        have HTT := Lib.hid hT
        clear ht9 hT
        have q0 := hb0.cell 0
        have q1 := hb0.cell 1
        have f0 := hb0.frozen 0
        have f1 := hb0.frozen 1
        simp at q0 q1
        have HB1 := Lib.hid hb0
        have HT1 := Lib.hid ht0
        clear hb0 ht0
        dsimp only
        go_wp2_with fail
        have hb0 := HB1.out
        have ht0 := HT1.out
        have k := hb0.int2 (.bool false) (.slice none 0 0)
        refine bodyPost_ret (v := .tuple #[.agg #[.bool false, .slice none 0 0], .int .i64 7]) (by simp [results, Tryz.results143, go_sem, k.1, k.2.1]) rfl ⟨ht0.step k.2.2 (fun m hm => .inr (by rw [List.mem_singleton] at hm; omega)), by rw [HRES.out]; exact .inr ⟨HTT.out, rfl⟩⟩
end Go.Proofs.YtedpaajpfaoffaaGreatDoor
