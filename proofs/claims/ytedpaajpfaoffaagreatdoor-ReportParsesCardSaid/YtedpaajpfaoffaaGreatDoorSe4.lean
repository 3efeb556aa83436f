/- bandplanref02.Read. -/
import Derived.Test.YtedpaajpfaoffaaGreatDoorSe3
import Derived.Test.YtedpaajpfaoffaaGreatDoorSb3
import Derived.Test.YtedpaajpfaoffaaGreatDoorSdB
set_option linter.all false
set_option maxHeartbeats 8000000
set_option maxRecDepth 100000
namespace Go.Proofs.YtedpaajpfaoffaaGreatDoor
open Go.RowKit
theorem cutL_none_all : ∀ {l : List UInt8} {k : Nat} {c : UInt8}, cutL l = none → l[k]? = some c → c ≠ 47
 | [], k, c, h, hc => by simp at hc
 | x :: t, k, c, h, hc => by
  unfold cutL at h
  split at h
  ·cases h
  ·rename_i hx
   cases ht : cutL t with
   | some z => rw [ht] at h; cases h
   | none =>
    cases k with
    | zero =>
     have : x = c := by simpa using hc
     rw [← this]
     exact hx
    | succ k => exact cutL_none_all ht (by simpa using hc)
theorem cutL_first : ∀ {l : List UInt8} {y : List UInt8 × List UInt8} {k : Nat} {c : UInt8}, cutL l = some y → k < y.1.length → l[k]? = some c → c ≠ 47
 | [], y, k, c, h, hk, hc => by simp at hc
 | x :: t, y, k, c, h, hk, hc => by
  unfold cutL at h
  split at h
  ·cases h; simp at hk
  ·rename_i hx
   cases ht : cutL t with
   | none => rw [ht] at h; cases h
   | some z =>
    rw [ht] at h
    cases h
    cases k with
    | zero =>
     have : x = c := by simpa using hc
     rw [← this]
     exact hx
    | succ k => exact cutL_first ht (by simpa using hk) (by simpa using hc)
theorem tx_take (a b : List UInt8) : (ByteArray.mk (a ++ b).toArray).extract 0 a.length = ByteArray.mk a.toArray := by
 apply ByteArray.ext
 simp
theorem tx_rest (a b : List UInt8) (c : UInt8) : (ByteArray.mk (a ++ c :: b).toArray).extract (a.length + 1) (a.length + (b.length + 1)) = ByteArray.mk b.toArray := by
 apply ByteArray.ext
 simp
 rw [show a.length + (b.length + 1) - (a.length + 1) = b.length from by omega, List.take_length]
theorem u8_ne {c d : UInt8} (h : c ≠ d) : ((c.toNat : Int) == (d.toNat : Int)) = false := by
 rw [beq_eq_false_iff_ne]
 exact fun e => h (UInt8.toNat_inj.1 (by omega))
theorem qRead_none (l : List UInt8) (w : World) (hl : l.length ≤ 65536) (hc : cutL l = none) : Calls Tryz.prog 108 #[.string ⟨l.toArray⟩] w (QpPost (ratOK l) w) := by
 have hok := ratOK_none hc
 have hb0 : Blk (w.alloc (.cells #[.bool false, .slice none 0 0, .bool false, .slice none 0 0] 34)) w.heap.size 34 #[.bool false, .slice none 0 0, .bool false, .slice none 0 0] := Blk.new _ _ _
 have ht0 : Touch [] w (w.alloc (.cells #[.bool false, .slice none 0 0, .bool false, .slice none 0 0] 34)) := (Touch.refl _ _).alloc _
 have hsz := tx_size l
 have HNO := Lib.hid (fun (k : Nat) (c : UInt8) (h : l[k]? = some c) => cutL_none_all hc h)
 have HFO := Lib.hid (fun W => rform_any l W hl)
 have HOK := Lib.hid hok
 clear hok hc
 go_enter Tryz.func108, Tryz.ntmps108
 go_wp2_with fail
 generalize (w.alloc (.cells #[.bool false, .slice none 0 0, .bool false, .slice none 0 0] 34)) = w0 at *
 have HB0 := Lib.hid hb0
 have HT0 := Lib.hid ht0
 clear hb0 ht0
 go_loopw [4, 5] (fun ta ti wr => ∃ k : Nat, k ≤ l.length ∧ ti = .int .i64 k ∧ ta = .int .i64 (-1) ∧ wr = w0) (fun _ ti _ => l.length - (intOf ti).toNat)
 case atStart => exact ⟨0, by omega, rfl, rfl, rfl⟩
 case round =>
  obtain ⟨k, hk, rfl, rfl, rfl⟩ := hrel
  by_cases hlt : k < l.length
  ·have hlt' : (k : Int) < (l.length : Int) := by omega
   obtain ⟨x, hx⟩ : ∃ x, l[k]? = some x := ⟨_, List.getElem?_eq_getElem hlt⟩
   have hg : ∀ h : k < (ByteArray.mk l.toArray).size, ((((ByteArray.mk l.toArray)[k]'h).toNat : Int) == 47) = false := fun h => by
    rw [tx_getI l k x hx h]
    exact u8_ne (d := 47) (HNO.out k x hx)
   clear hx
   go_wp2_with fail
   exact ⟨⟨k + 1, by omega, by go_num, rfl, by first | rfl | trivial⟩, by simp [intOf]; omega⟩
  ·have hlt' : ¬ (k : Int) < (l.length : Int) := by omega
   clear hk
   go_wp2_with fail
   with_reducible refine Calls.mono (HFO.out _) ?_
   rintro r w1 ⟨rfl, rfl⟩
   cases hf : formI l with
   | none =>
    have HOK2 : Hid (ratOK l = false) := Lib.hid (by have h := HOK.out; rw [hf] at h; exact h)
    rw [formOK_none hf]
    obtain ⟨p0, p1, p2, p3, pf0, pf1, pf2, pf3⟩ := HB0.out.four
    clear hf
    go_wp2_with fail
    obtain ⟨k0, k1, k2, k3, kt⟩ := HB0.out.int4 (.bool false) (.slice none 0 0) (.bool false) (.slice none 0 0)
    refine bodyPost_ret (v := .tuple #[.agg #[.bool false, .slice none 0 0, .bool false, .slice none 0 0], .int .i64 6]) (by simp [results, Tryz.results108, go_sem, k0, k1, k2, k3]) rfl ⟨false, none, 0, 0, false, none, 0, 0, 6, rfl, by rw [HOK2.out]; simp, HT0.out.step kt (fun m hm => .inr (by rw [List.mem_singleton] at hm; omega))⟩
   | some x =>
    obtain ⟨n, N⟩ := x
    have HRD := Lib.hid (fun W => rread_any l n N W hf hl)
    have HOK2 : Hid (ratOK l = decide (N < Top)) := Lib.hid (by have h := HOK.out; rw [hf] at h; exact h)
    rw [formOK_of hf]
    clear hf
    go_wp2_with fail
    refine (HRD.out _).mono ?_
    rintro r w2 ⟨x, rfl, hx, ht2⟩
    obtain ⟨A2, n2, c2, rfl, hd2⟩ := hx.ex
    go_wp2_with fail
    refine (rlim_any n (.slice A2 n2 c2) N _ hd2).mono ?_
    rintro r w3 ⟨nb, A3, k3, c3, e, rfl, hiff, ht3⟩
    dsimp only
    have HB3 := Lib.hid (((HB0.out.touch ht2 (by simp)).touch ht3 (by simp)).alloc (.cells #[.bool nb, .slice A3 k3 c3] 32))
    have HT3 := Lib.hid (((HT0.out.then0 ht2).then0 ht3).alloc (.cells #[.bool nb, .slice A3 k3 c3] 32))
    obtain ⟨p0, p1, p2, p3, pf0, pf1, pf2, pf3⟩ := HB3.out.four
    have HIF := Lib.hid hiff
    have HG0 := Lib.hid ((HB0.out.touch ht2 (by simp)).touch ht3 (by simp)).lt
    clear hx hd2 ht2 ht3 hiff
    by_cases he : e = 0
    ·subst he
     have HN := Lib.hid (HIF.out.1 rfl)
     go_wp2_with fail
     have HC6 := Lib.hid (fun W (t : Touch [] (w3.alloc (.cells #[.bool nb, .slice A3 k3 c3] 32)) W) => (Blk.new w3 32 #[.bool nb, .slice A3 k3 c3]).icell t)
     clear p0 p1 p2 p3 pf0 pf1 pf2 pf3
     generalize (w3.alloc (.cells #[.bool nb, .slice A3 k3 c3] 32)) = w4 at *
     have hne6 : w.heap.size ≠ w3.heap.size := by have hg0 := HG0.out; omega
     clear HG0
     generalize w3.heap.size = g6 at *
     have hT := (Touch.refl [] w4).drew
     go_region_held3 (fun W' => W'.cell? ⟨g6, 0, none⟩ = some (.bool nb) ∧ W'.cell? ⟨g6, 1, none⟩ = some (.slice A3 k3 c3)) (first | exact HC6.out _ hT | (have h6 := HC6.out _ hT; simp [World.cell?_setCell_far, hne6, h6.1, h6.2])) (first
      | (go_at_call 35; with_reducible refine (rOf1_any _).mono ?_; rintro r w6 ⟨x6, rfl, hx6, ht6⟩; obtain ⟨A6, m6, c6, e6, hd6⟩ := hx6.ex; subst e6; (try dsimp only); replace hT := hT.then0 ht6; obtain ⟨p0, p1, p2, p3, pf0, pf1, pf2, pf3⟩ := (HB3.out.touch hT (by simp)).four; clear ht6 hd6 hx6))
     all_goals
      go_wp2_with fail
      obtain ⟨k0, k1, k2, k3', kt⟩ := (HB3.out.touch hT (by simp)).int4 (.bool nb) (.slice A3 k3 c3) (.bool false) (.slice A6 m6 c6)
      refine bodyPost_ret (v := .tuple #[.agg #[.bool nb, .slice A3 k3 c3, .bool false, .slice A6 m6 c6], .int .i64 0]) (by simp [results, Tryz.results108, go_sem, k0, k1, k2, k3']) rfl ⟨nb, A3, k3, c3, false, A6, m6, c6, 0, rfl, by rw [HOK2.out, decide_eq_true HN.out]; simp, (HT3.out.then0 hT).step kt (fun m hm => .inr (by rw [List.mem_singleton] at hm; omega))⟩
    ·have heb : (e != 0) = true := by simpa using he
     have HN : Hid (decide (N < Top) = false) := Lib.hid (decide_eq_false (fun h => he (HIF.out.2 h)))
     have HE := Lib.hid he
     go_wp2_with fail
     obtain ⟨k0, k1, k2, k3', kt⟩ := HB3.out.int4 (.bool false) (.slice none 0 0) (.bool false) (.slice none 0 0)
     refine bodyPost_ret (v := .tuple #[.agg #[.bool false, .slice none 0 0, .bool false, .slice none 0 0], .int .i64 e]) (by simp [results, Tryz.results108, go_sem, k0, k1, k2, k3']) rfl ⟨false, none, 0, 0, false, none, 0, 0, e, rfl, by rw [HOK2.out, HN.out]; simp [HE.out], HT3.out.step kt (fun m hm => .inr (by rw [List.mem_singleton] at hm; omega))⟩
def R16 (w wr : World) (n : Bool) (N M : Nat) (s8 s9 : Value) (wx : World) : Prop := ∃ g8 g9 A B kn km c d, s8 = .pointer (some ⟨g8, 0, none⟩) ∧ s9 = .pointer (some ⟨g9, 0, none⟩) ∧ g8 ≠ w.heap.size ∧ g9 ≠ w.heap.size ∧ Blk wx g8 32 #[.bool n, .slice A kn c] ∧ Blk wx g9 32 #[.bool false, .slice B km d] ∧ Hid (Dgs wx (.slice A kn c) (dg N)) ∧ Hid (Dgs wx (.slice B km d) (dg M)) ∧ Hid (Touch [] wr wx)
theorem Blk.newAt {w : World} {n : Nat} (h : w.heap.size = n) (t : TypeId) (cs : Array Value) : Blk (w.alloc (.cells cs t)) n t cs := by subst h; exact Blk.new w t cs
theorem lt_of_blk {w : World} {g n : Nat} {t : TypeId} {cs : Array Value} (h : Blk w g t cs) (hn : w.heap.size = n) : g < n := hn ▸ h.lt
theorem ge_of_touch {w w' : World} {n : Nat} (h : Touch [] w w') (hn : w'.heap.size = n) : w.heap.size ≤ n := hn ▸ h.size
theorem r16_of {w wr X : World} {n : Bool} {N M g8 g9 : Nat} {A B : Option Addr} {kn km c d : Nat} (b8 : Blk X g8 32 #[.bool false, .slice none 0 0]) (b9 : Blk X g9 32 #[.bool false, .slice none 0 0]) (hne : g8 ≠ g9) (T : Touch [] wr X) (dn : Dgs X (.slice A kn c) (dg N)) (dm : Dgs X (.slice B km d) (dg M)) (hw : w.heap.size < wr.heap.size) (h8 : wr.heap.size ≤ g8) (h9 : wr.heap.size ≤ g9) :
  R16 w wr n N M (.pointer (some ⟨g8, 0, none⟩)) (.pointer (some ⟨g9, 0, none⟩)) ((((X.setCell ⟨g8, 0, none⟩ (.bool n)).setCell ⟨g8, 1, none⟩ (.slice A kn c)).setCell ⟨g9, 0, none⟩ (.bool false)).setCell ⟨g9, 1, none⟩ (.slice B km d)) := by
 obtain ⟨P8, t8⟩ := b8.put2 (.bool n) (.slice A kn c)
 obtain ⟨P9, t9⟩ := (b9.touch t8 (by simpa using hne.symm)).put2 (.bool false) (.slice B km d)
 have f1 := dn.far2 b8
 have f2 := dn.far2 b9
 have f3 := dm.far2 b8
 have f4 := dm.far2 b9
 have dn8 := dn.touch t8 (fun m hm hm2 => f1 m hm (by simpa using hm2))
 have dm8 := dm.touch t8 (fun m hm hm2 => f3 m hm (by simpa using hm2))
 refine ⟨g8, g9, A, B, kn, km, c, d, rfl, rfl, by omega, by omega, P8.touch t9 (by simpa using hne), P9, Lib.hid (dn8.touch t9 (fun m hm hm2 => f2 m hm (by simpa using hm2))), Lib.hid (dm8.touch t9 (fun m hm hm2 => f4 m hm (by simpa using hm2))), Lib.hid ((T.step t8 (fun m hm => .inr ?_)).step t9 (fun m hm => .inr ?_))⟩
 ·rw [List.mem_singleton] at hm; omega
 ·rw [List.mem_singleton] at hm; omega
theorem dec_one {y : List UInt8} (h : isDec y = true) (h0 : y ≠ [48]) (h1 : y ≠ [49]) : 1 < decVal y := by
 cases y with
 | nil => cases h
 | cons c t =>
  have hall := isDec_all h
  have hc := hall c (by simp)
  cases t with
  | nil =>
   have e1 : c.toNat ≠ 48 := fun e => h0 (by rw [show c = 48 from UInt8.toNat_inj.1 e])
   have e2 : c.toNat ≠ 49 := fun e => h1 (by rw [show c = 49 from UInt8.toNat_inj.1 e])
   simp only [decVal, List.foldl]
   omega
  | cons x t =>
   have hh := isDec_head h (by simp)
   have e1 : c.toNat ≠ 48 := fun e => hh (UInt8.toNat_inj.1 e)
   have := decVal_ge (c := c) (by omega) (t.length + 1) (x :: t) (by simp) (fun z hz => hall z (by simp [hz]))
   have h10 : 10 ≤ 10 ^ (t.length + 1) := by rw [Nat.pow_succ]; have := Nat.pow_pos (n := t.length) (show 0 < 10 by omega); omega
   omega
theorem qRead_some (l : List UInt8) (y : List UInt8 × List UInt8) (w : World) (hl : l.length ≤ 65536) (hc : cutL l = some y) : Calls Tryz.prog 108 #[.string ⟨l.toArray⟩] w (QpPost (ratOK l) w) := by
 have hok := ratOK_some hc
 have hb0 : Blk (w.alloc (.cells #[.bool false, .slice none 0 0, .bool false, .slice none 0 0] 34)) w.heap.size 34 #[.bool false, .slice none 0 0, .bool false, .slice none 0 0] := Blk.new _ _ _
 have ht0 : Touch [] w (w.alloc (.cells #[.bool false, .slice none 0 0, .bool false, .slice none 0 0] 34)) := (Touch.refl _ _).alloc _
 have hsz := tx_size l
 have HNO := Lib.hid (fun (k : Nat) (c : UInt8) (hk : k < y.1.length) (h : l[k]? = some c) => cutL_first hc hk h)
 have hle := cutL_eq hc
 have HAT : Hid (l[y.1.length]? = some 47) := Lib.hid (by rw [hle]; simp)
 have hlen : l.length = y.1.length + (y.2.length + 1) := by rw [hle]; simp
 have hx1 : (ByteArray.mk l.toArray).extract 0 y.1.length = ByteArray.mk y.1.toArray := by rw [hle]; exact tx_take _ _
 have hx2 : (ByteArray.mk l.toArray).extract (y.1.length + 1) (y.1.length + (y.2.length + 1)) = ByteArray.mk y.2.toArray := by rw [hle]; exact tx_rest _ _ _
 have HNX : ∀ c t, y.2 = c :: t → Hid (l[y.1.length + 1]? = some c) := fun c t h => Lib.hid (by rw [hle, h]; simp)
 obtain ⟨y1, y2⟩ := y
 dsimp only at *
 have HOK := Lib.hid hok
 clear hok hc hle
 go_enter Tryz.func108, Tryz.ntmps108
 go_wp2_with fail
 generalize (w.alloc (.cells #[.bool false, .slice none 0 0, .bool false, .slice none 0 0] 34)) = w0 at *
 have HB0 := Lib.hid hb0
 have HT0 := Lib.hid ht0
 clear hb0 ht0
 go_loopw [4, 5] (fun ta ti wr => ∃ k : Nat, k ≤ y1.length ∧ ti = .int .i64 k ∧ ta = .int .i64 (-1) ∧ wr = w0) (fun _ ti _ => y1.length - (intOf ti).toNat)
 case atStart => exact ⟨0, by omega, rfl, rfl, rfl⟩
 case round =>
  obtain ⟨k, hk, rfl, rfl, rfl⟩ := hrel
  have hlt' : (k : Int) < (l.length : Int) := by omega
  by_cases hlt : k < y1.length
  ·obtain ⟨x, hx⟩ : ∃ x, l[k]? = some x := ⟨_, List.getElem?_eq_getElem (by omega)⟩
   have hg : ∀ h : k < (ByteArray.mk l.toArray).size, ((((ByteArray.mk l.toArray)[k]'h).toNat : Int) == 47) = false := fun h => by
    rw [tx_getI l k x hx h]
    exact u8_ne (d := 47) (HNO.out k x hlt hx)
   clear hx
   go_wp2_with fail
   exact ⟨⟨k + 1, by omega, by go_num, rfl, by first | rfl | trivial⟩, by simp [intOf]; omega⟩
  ·obtain rfl : k = y1.length := by omega
   have hg : ∀ h : y1.length < (ByteArray.mk l.toArray).size, ((((ByteArray.mk l.toArray)[y1.length]'h).toNat : Int) == 47) = true := fun h => by
    rw [tx_getI l _ 47 HAT.out h]; rfl
   clear hk hlt
   cases hf : formI y1 with
   | none =>
    have HFO := Lib.hid (fun W => rform_any y1 W (by omega))
    rw [formOK_none hf] at HFO
    have HOK2 : Hid (ratOK l = false) := Lib.hid (by rw [HOK.out, hf])
    clear hf
    obtain ⟨p0, p1, p2, p3, pf0, pf1, pf2, pf3⟩ := HB0.out.four
    go_wp2_with fail
    with_reducible refine Calls.mono (HFO.out _) ?_
    rintro r w1 ⟨rfl, rfl⟩
    go_wp2_with fail
    obtain ⟨k0, k1, k2, k3, kt⟩ := HB0.out.int4 (.bool false) (.slice none 0 0) (.bool false) (.slice none 0 0)
    refine bodyPost_ret (v := .tuple #[.agg #[.bool false, .slice none 0 0, .bool false, .slice none 0 0], .int .i64 6]) (by simp [results, Tryz.results108, go_sem, k0, k1, k2, k3]) rfl ⟨false, none, 0, 0, false, none, 0, 0, 6, rfl, by rw [HOK2.out]; simp, HT0.out.step kt (fun m hm => .inr (by rw [List.mem_singleton] at hm; omega))⟩
   | some x =>
    obtain ⟨n, N⟩ := x
    have HR1 := Lib.hid (fun W => rread_any y1 n N W hf (by omega))
    have HFO := Lib.hid (fun W => rform_any y1 W (by omega))
    have HF2 := Lib.hid (fun W => rform_any y2 W (by omega))
    rw [formOK_of hf] at HFO
    cases hf2 : formI y2 with
    | none =>
     rw [formOK_none hf2] at HF2
     have HOK2 : Hid (ratOK l = false) := Lib.hid (by rw [HOK.out, hf, hf2])
     clear hf hf2 HOK
     obtain ⟨p0, p1, p2, p3, pf0, pf1, pf2, pf3⟩ := HB0.out.four
     go_wp2_with fail
     with_reducible refine Calls.mono (HFO.out _) ?_
     rintro r w1 ⟨rfl, rfl⟩
     go_wp2_with fail
     with_reducible refine Calls.mono (HF2.out _) ?_
     rintro r w1 ⟨rfl, rfl⟩
     go_wp2_with fail
     obtain ⟨k0, k1, k2, k3, kt⟩ := HB0.out.int4 (.bool false) (.slice none 0 0) (.bool false) (.slice none 0 0)
     refine bodyPost_ret (v := .tuple #[.agg #[.bool false, .slice none 0 0, .bool false, .slice none 0 0], .int .i64 6]) (by simp [results, Tryz.results108, go_sem, k0, k1, k2, k3]) rfl ⟨false, none, 0, 0, false, none, 0, 0, 6, rfl, by rw [HOK2.out]; simp, HT0.out.step kt (fun m hm => .inr (by rw [List.mem_singleton] at hm; omega))⟩
    | some z =>
     obtain ⟨n2, M⟩ := z
     have HR2 := Lib.hid (fun W => rread_any y2 n2 M W hf2 (by omega))
     rw [formOK_of hf2] at HF2
     obtain ⟨hd2, hn2, hM, -⟩ := formI_inv hf2
     have hok2 := HOK.out
     rw [hf, hf2] at hok2
     dsimp only at hok2
     have HOK2 := Lib.hid hok2
     clear hf hf2 HOK hok2
     obtain ⟨c, t, rfl⟩ : ∃ c t, y2 = c :: t := by
      cases y2 with
      | nil => exact absurd hd2 (by decide)
      | cons c t => exact ⟨c, t, rfl⟩
     simp only [List.length_cons] at hx2 hlen
     have HC : Hid (l[y1.length + 1]? = some c) := HNX c t rfl
     clear HNX
     by_cases hc45 : c = 45
     ·subst hc45
      have hn : n2 = true := by rw [hn2]; rfl
      subst hn
      have HOKF : Hid (ratOK l = false) := Lib.hid (by rw [HOK2.out]; simp)
      have hg2 : ∀ h : y1.length + 1 < (ByteArray.mk l.toArray).size, ((((ByteArray.mk l.toArray)[y1.length + 1]'h).toNat : Int) == 45) = true := fun h => by
       rw [tx_getI l _ 45 HC.out h]; rfl
      clear hd2 hn2 hM HOK2
      obtain ⟨p0, p1, p2, p3, pf0, pf1, pf2, pf3⟩ := HB0.out.four
      go_wp2_with fail
      with_reducible refine Calls.mono (HFO.out _) ?_
      rintro r w1 ⟨rfl, rfl⟩
      go_wp2_with fail
      with_reducible refine Calls.mono (HF2.out _) ?_
      rintro r w1 ⟨rfl, rfl⟩
      go_wp2_with fail
      obtain ⟨k0, k1, k2, k3, kt⟩ := HB0.out.int4 (.bool false) (.slice none 0 0) (.bool false) (.slice none 0 0)
      refine bodyPost_ret (v := .tuple #[.agg #[.bool false, .slice none 0 0, .bool false, .slice none 0 0], .int .i64 6]) (by simp [results, Tryz.results108, go_sem, k0, k1, k2, k3]) rfl ⟨false, none, 0, 0, false, none, 0, 0, 6, rfl, by rw [HOKF.out]; simp, HT0.out.step kt (fun m hm => .inr (by rw [List.mem_singleton] at hm; omega))⟩
     ·have hh : (c :: t).head? ≠ some 45 := by simpa using hc45
      have hu := unsigned_other hh
      rw [hu] at hd2 hM
      have hn : n2 = false := by rw [hn2]; exact decide_eq_false hh
      subst hn
      have hg2 : ∀ h : y1.length + 1 < (ByteArray.mk l.toArray).size, ((((ByteArray.mk l.toArray)[y1.length + 1]'h).toNat : Int) == 45) = false := fun h => by
       rw [tx_getI l _ c HC.out h]; exact u8_ne (d := 45) hc45
      clear hn2 hu hh hc45
      by_cases h48 : c :: t = [48]
      ·have HOKF : Hid (ratOK l = false) := Lib.hid (by rw [HOK2.out, show M = 0 from by rw [hM, h48]; rfl]; simp)
       obtain ⟨rfl, rfl⟩ : c = 48 ∧ t = [] := by simpa using h48
       have hx3 : (ByteArray.mk l.toArray).extract (y1.length + 1) (y1.length + 2) = ByteArray.mk #[48] := hx2
       have hlen3 : l.length = y1.length + 2 := hlen
       clear hx2 hlen
       clear hd2 hM HOK2 h48
       obtain ⟨p0, p1, p2, p3, pf0, pf1, pf2, pf3⟩ := HB0.out.four
       go_wp2_with fail
       with_reducible refine Calls.mono (HFO.out _) ?_
       rintro r w1 ⟨rfl, rfl⟩
       go_wp2_with fail
       with_reducible refine Calls.mono (HF2.out _) ?_
       rintro r w1 ⟨rfl, rfl⟩
       go_wp2_with fail
       obtain ⟨k0, k1, k2, k3, kt⟩ := HB0.out.int4 (.bool false) (.slice none 0 0) (.bool false) (.slice none 0 0)
       refine bodyPost_ret (v := .tuple #[.agg #[.bool false, .slice none 0 0, .bool false, .slice none 0 0], .int .i64 6]) (by simp [results, Tryz.results108, go_sem, k0, k1, k2, k3]) rfl ⟨false, none, 0, 0, false, none, 0, 0, 6, rfl, by rw [HOKF.out]; simp, HT0.out.step kt (fun m hm => .inr (by rw [List.mem_singleton] at hm; omega))⟩
      by_cases h49 : c :: t = [49]
      ·have HOKF : Hid (ratOK l = false) := Lib.hid (by rw [HOK2.out, show M = 1 from by rw [hM, h49]; rfl]; simp)
       obtain ⟨rfl, rfl⟩ : c = 49 ∧ t = [] := by simpa using h49
       have hx3 : (ByteArray.mk l.toArray).extract (y1.length + 1) (y1.length + 2) = ByteArray.mk #[49] := hx2
       have hlen3 : l.length = y1.length + 2 := hlen
       clear hx2 hlen
       clear hd2 hM HOK2 h48 h49
       obtain ⟨p0, p1, p2, p3, pf0, pf1, pf2, pf3⟩ := HB0.out.four
       go_wp2_with fail
       with_reducible refine Calls.mono (HFO.out _) ?_
       rintro r w1 ⟨rfl, rfl⟩
       go_wp2_with fail
       with_reducible refine Calls.mono (HF2.out _) ?_
       rintro r w1 ⟨rfl, rfl⟩
       go_wp2_with fail
       obtain ⟨k0, k1, k2, k3, kt⟩ := HB0.out.int4 (.bool false) (.slice none 0 0) (.bool false) (.slice none 0 0)
       refine bodyPost_ret (v := .tuple #[.agg #[.bool false, .slice none 0 0, .bool false, .slice none 0 0], .int .i64 6]) (by simp [results, Tryz.results108, go_sem, k0, k1, k2, k3]) rfl ⟨false, none, 0, 0, false, none, 0, 0, 6, rfl, by rw [HOKF.out]; simp, HT0.out.step kt (fun m hm => .inr (by rw [List.mem_singleton] at hm; omega))⟩
      have HM1 : Hid (1 < M) := Lib.hid (hM ▸ dec_one hd2 h48 h49)
      have h48b : (c :: t == [48]) = false := beq_false_of_ne h48
      have h49b : (c :: t == [49]) = false := beq_false_of_ne h49
      clear hd2 hM h48 h49
      go_wp2_with fail
      with_reducible refine Calls.mono (HFO.out _) ?_
      rintro r w1 ⟨rfl, rfl⟩
      go_wp2_with fail
      with_reducible refine Calls.mono (HF2.out _) ?_
      rintro r w1 ⟨rfl, rfl⟩
      go_wp2_with fail
      clear HNO HAT hg hg2
      have hwr : IntKind.i64.wrap ((y1.length : Int) + 1) = (y1.length : Int) + 1 := IntWalk.i64_in _ (by omega)
      have hn1 : ((y1.length : Int) + 1).toNat = y1.length + 1 := by omega
      have hn2 : (0 : Int) ≤ (y1.length : Int) + 1 := by omega
      have hn3 : (y1.length : Int) ≤ (y1.length : Int) + ((t.length : Int) + 1 + 1) := by omega
      have hn4 : (y1.length : Int) + 1 ≤ (y1.length : Int) + ((t.length : Int) + 1 + 1) := by omega
      go_cut [8, 9] from 10 (fun s8 s9 wx => R16 w w1 n N M s8 s9 wx)
      case first =>
       refine wp_region_held_drew (S := fun _ => True) (by kernel_rfl) trivial (fun hS => ?_)
       refine wpAnyH_take (i := 0) (v := ?_) rfl (by kernel_rfl) (by kernel_rfl) (by kernel_rfl) (fun _ _ _ h => h) (Or.inl ⟨by rfl, ?_⟩) hS ?_
       rotate_left
       ·(intro W hSW; go_simp <;> with_reducible rfl)
       simp only [nz]
       refine wpAnyH_take (i := 1) (v := ?_) rfl (by kernel_rfl) (by kernel_rfl) (by kernel_rfl) (fun _ _ _ h => h) (Or.inl ⟨by rfl, ?_⟩) hS ?_
       rotate_left
       ·(intro W hSW; go_simp <;> with_reducible rfl)
       simp only [nz]
       refine wpAnyH_take (i := 2) (v := ?_) rfl (by kernel_rfl) (by kernel_rfl) (by kernel_rfl) (fun _ _ _ h => h) (Or.inl ⟨by rfl, ?_⟩) hS ?_
       rotate_left
       ·(intro W hSW; go_simp <;> with_reducible rfl)
       simp only [nz]
       refine wpAnyH_take (i := 4) (v := ?_) rfl (by kernel_rfl) (by kernel_rfl) (by kernel_rfl) (fun _ _ _ h => h) (Or.inl ⟨by rfl, ?_⟩) hS ?_
       rotate_left
       ·(intro W hSW; go_simp <;> with_reducible rfl)
       simp only [nz]
       refine wpAnyH_take (i := 5) (v := ?_) rfl (by kernel_rfl) (by kernel_rfl) (by kernel_rfl) (fun _ _ _ h => h) (Or.inl ⟨by rfl, ?_⟩) hS ?_
       rotate_left
       ·(intro W hSW; go_simp <;> with_reducible rfl)
       simp only [nz]
       refine wpAnyH_take (i := 6) (v := ?_) rfl (by kernel_rfl) (by kernel_rfl) (by kernel_rfl) (fun _ _ _ h => h) (Or.inl ⟨by rfl, ?_⟩) hS ?_
       rotate_left
       ·(intro W hSW; go_simp <;> with_reducible rfl)
       simp only [nz]
       refine wpAnyH_take (i := 7) (v := ?_) rfl (by kernel_rfl) (by kernel_rfl) (by kernel_rfl) (fun _ _ _ h => h) (Or.inl ⟨by rfl, ?_⟩) hS ?_
       rotate_left
       ·(intro W hSW; go_simp <;> with_reducible rfl)
       simp only [nz]
       refine wpAnyH_ready (rs := [3, 9, 10]) (by kernel_rfl) (by simp) (AllReadyH.cons rfl (fun K hK => ?_) (AllReadyH.cons rfl (fun K hK => ?_) (AllReadyH.cons rfl (fun K hK => ?_) AllReadyH.nil)))
       ·go_simp
        with_reducible refine Calls.mono (HR1.out _) ?_
        rintro r w6 ⟨x6, rfl, hx6, ht6⟩
        obtain ⟨A6, m6, c6, rfl, hd6⟩ := hx6.ex
        have H6 := Lib.hid (And.intro hd6 ht6)
        clear hx6 hd6 ht6
        (try dsimp only)
        go_wp2_with fail
        refine hK.out _ _ hS (fun _ => ?_)
        clear hK K
        try simp only [nz]
        refine wpAnyH_ready (rs := [8, 9, 10]) (by kernel_rfl) (by simp) (AllReadyH.cons rfl (fun K hK => ?_) (AllReadyH.cons rfl (fun K hK => ?_) (AllReadyH.cons rfl (fun K hK => ?_) AllReadyH.nil)))
        ·go_simp
         with_reducible refine Calls.mono (HR2.out _) ?_
         rintro r w7 ⟨x7, rfl, hx7, ht7⟩
         obtain ⟨A7, m7, c7, rfl, hd7⟩ := hx7.ex
         have H7 := Lib.hid (And.intro hd7 ht7)
         clear hx7 hd7 ht7
         (try dsimp only)
         go_wp2_with fail
         refine hK.out _ _ hS (fun _ => ?_)
         clear hK K
         try simp only [nz]
         refine wpAnyH_ready (rs := [9, 10]) (by kernel_rfl) (by simp) (AllReadyH.cons rfl (fun K hK => ?_) (AllReadyH.cons rfl (fun K hK => ?_) AllReadyH.nil))
         ·go_simp
          refine hK.out _ _ hS (fun _ => ?_)
          clear hK K
          try simp only [nz]
          refine rdy1 10 rfl (fun K hK => ?_)
          go_simp
          refine hK.out _ _ hS (fun _ => ?_)
          clear hK K
          try simp only [nz]
          have HX8 := Lib.hid ((Blk.newAt (w := w7) (n := w7.heap.size) (by simp) 32 #[.bool false, .slice none 0 0]).alloc (.cells #[.bool false, .slice none 0 0] 32))
          have HX9 := Lib.hid (Blk.newAt (w := (w7).alloc (.cells #[.bool false, .slice none 0 0] 32)) (n := w7.heap.size + 1) (by simp) 32 #[.bool false, .slice none 0 0])
          have HTX := Lib.hid ((((((Touch.refl [] w1).drew).then0 H6.out.2).then0 H7.out.2).alloc (.cells #[.bool false, .slice none 0 0] 32)).alloc (.cells #[.bool false, .slice none 0 0] 32))
          have HDN := Lib.hid ((((H6.out.1).touch0 H7.out.2).touch0 ((Touch.refl [] (w7)).alloc (.cells #[.bool false, .slice none 0 0] 32))).touch0 ((Touch.refl [] ((w7).alloc (.cells #[.bool false, .slice none 0 0] 32))).alloc (.cells #[.bool false, .slice none 0 0] 32)))
          have HDM := Lib.hid (((H7.out.1).touch0 ((Touch.refl [] (w7)).alloc (.cells #[.bool false, .slice none 0 0] 32))).touch0 ((Touch.refl [] ((w7).alloc (.cells #[.bool false, .slice none 0 0] 32))).alloc (.cells #[.bool false, .slice none 0 0] 32)))
          have HG8 := Lib.hid (ge_of_touch ((((Touch.refl [] w1).drew).then0 H6.out.2).then0 H7.out.2) (show (w7).heap.size = w7.heap.size by simp))
          have HG9 := Lib.hid (ge_of_touch (((((Touch.refl [] w1).drew).then0 H6.out.2).then0 H7.out.2).alloc (.cells #[.bool false, .slice none 0 0] 32)) (show ((w7).alloc (.cells #[.bool false, .slice none 0 0] 32)).heap.size = w7.heap.size + 1 by simp))
          have hne : w7.heap.size ≠ w7.heap.size + 1 := Nat.ne_of_lt (lt_of_blk (Blk.newAt (w := w7) (n := w7.heap.size) (by simp) 32 #[.bool false, .slice none 0 0]) (show ((w7).alloc (.cells #[.bool false, .slice none 0 0] 32)).heap.size = w7.heap.size + 1 by simp))
          generalize (((w7).alloc (.cells #[.bool false, .slice none 0 0] 32)).alloc (.cells #[.bool false, .slice none 0 0] 32)) = X0 at *
          obtain ⟨p0, p1, pf0, pf1⟩ := HX8.out.two
          obtain ⟨p4, p5, pf4, pf5⟩ := HX9.out.two
          have hne' := hne.symm
          refine rdy1 11 rfl (fun K hK => ?_)
          go_simp
          refine hK.out _ _ hS (fun _ => ?_)
          clear hK K
          try simp only [nz]
          refine rdy1 12 rfl (fun K hK => ?_)
          go_simp
          refine hK.out _ _ hS (fun _ => ?_)
          clear hK K
          try simp only [nz]
          refine wpAnyH_done (by kernel_rfl) ?_ _
          go_wp2_with fail
          go_meet
          exact r16_of HX8.out HX9.out hne HTX.out HDN.out HDM.out HB0.out.lt HG8.out HG9.out
         ·go_simp
          refine hK.out _ _ hS (fun _ => ?_)
          clear hK K
          try simp only [nz]
          refine rdy1 9 rfl (fun K hK => ?_)
          go_simp
          refine hK.out _ _ hS (fun _ => ?_)
          clear hK K
          try simp only [nz]
          have HX8 := Lib.hid (Blk.newAt (w := (w7).alloc (.cells #[.bool false, .slice none 0 0] 32)) (n := w7.heap.size + 1) (by simp) 32 #[.bool false, .slice none 0 0])
          have HX9 := Lib.hid ((Blk.newAt (w := w7) (n := w7.heap.size) (by simp) 32 #[.bool false, .slice none 0 0]).alloc (.cells #[.bool false, .slice none 0 0] 32))
          have HTX := Lib.hid ((((((Touch.refl [] w1).drew).then0 H6.out.2).then0 H7.out.2).alloc (.cells #[.bool false, .slice none 0 0] 32)).alloc (.cells #[.bool false, .slice none 0 0] 32))
          have HDN := Lib.hid ((((H6.out.1).touch0 H7.out.2).touch0 ((Touch.refl [] (w7)).alloc (.cells #[.bool false, .slice none 0 0] 32))).touch0 ((Touch.refl [] ((w7).alloc (.cells #[.bool false, .slice none 0 0] 32))).alloc (.cells #[.bool false, .slice none 0 0] 32)))
          have HDM := Lib.hid (((H7.out.1).touch0 ((Touch.refl [] (w7)).alloc (.cells #[.bool false, .slice none 0 0] 32))).touch0 ((Touch.refl [] ((w7).alloc (.cells #[.bool false, .slice none 0 0] 32))).alloc (.cells #[.bool false, .slice none 0 0] 32)))
          have HG8 := Lib.hid (ge_of_touch (((((Touch.refl [] w1).drew).then0 H6.out.2).then0 H7.out.2).alloc (.cells #[.bool false, .slice none 0 0] 32)) (show ((w7).alloc (.cells #[.bool false, .slice none 0 0] 32)).heap.size = w7.heap.size + 1 by simp))
          have HG9 := Lib.hid (ge_of_touch ((((Touch.refl [] w1).drew).then0 H6.out.2).then0 H7.out.2) (show (w7).heap.size = w7.heap.size by simp))
          have hne : w7.heap.size + 1 ≠ w7.heap.size := Nat.ne_of_gt (lt_of_blk (Blk.newAt (w := w7) (n := w7.heap.size) (by simp) 32 #[.bool false, .slice none 0 0]) (show ((w7).alloc (.cells #[.bool false, .slice none 0 0] 32)).heap.size = w7.heap.size + 1 by simp))
          generalize (((w7).alloc (.cells #[.bool false, .slice none 0 0] 32)).alloc (.cells #[.bool false, .slice none 0 0] 32)) = X0 at *
          obtain ⟨p0, p1, pf0, pf1⟩ := HX8.out.two
          obtain ⟨p4, p5, pf4, pf5⟩ := HX9.out.two
          have hne' := hne.symm
          refine rdy1 11 rfl (fun K hK => ?_)
          go_simp
          refine hK.out _ _ hS (fun _ => ?_)
          clear hK K
          try simp only [nz]
          refine rdy1 12 rfl (fun K hK => ?_)
          go_simp
          refine hK.out _ _ hS (fun _ => ?_)
          clear hK K
          try simp only [nz]
          refine wpAnyH_done (by kernel_rfl) ?_ _
          go_wp2_with fail
          go_meet
          exact r16_of HX8.out HX9.out hne HTX.out HDN.out HDM.out HB0.out.lt HG8.out HG9.out
        ·go_simp
         refine hK.out _ _ hS (fun _ => ?_)
         clear hK K
         try simp only [nz]
         refine wpAnyH_ready (rs := [8, 10]) (by kernel_rfl) (by simp) (AllReadyH.cons rfl (fun K hK => ?_) (AllReadyH.cons rfl (fun K hK => ?_) AllReadyH.nil))
         ·go_simp
          with_reducible refine Calls.mono (HR2.out _) ?_
          rintro r w7 ⟨x7, rfl, hx7, ht7⟩
          obtain ⟨A7, m7, c7, rfl, hd7⟩ := hx7.ex
          have H7 := Lib.hid (And.intro hd7 ht7)
          clear hx7 hd7 ht7
          (try dsimp only)
          go_wp2_with fail
          refine hK.out _ _ hS (fun _ => ?_)
          clear hK K
          try simp only [nz]
          refine rdy1 10 rfl (fun K hK => ?_)
          go_simp
          refine hK.out _ _ hS (fun _ => ?_)
          clear hK K
          try simp only [nz]
          have HX8 := Lib.hid (((Blk.newAt (w := w6) (n := w6.heap.size) (by simp) 32 #[.bool false, .slice none 0 0]).touch H7.out.2 (by simp)).alloc (.cells #[.bool false, .slice none 0 0] 32))
          have HX9 := Lib.hid (Blk.newAt (w := w7) (n := w7.heap.size) (by simp) 32 #[.bool false, .slice none 0 0])
          have HTX := Lib.hid ((((((Touch.refl [] w1).drew).then0 H6.out.2).alloc (.cells #[.bool false, .slice none 0 0] 32)).then0 H7.out.2).alloc (.cells #[.bool false, .slice none 0 0] 32))
          have HDN := Lib.hid ((((H6.out.1).touch0 ((Touch.refl [] (w6)).alloc (.cells #[.bool false, .slice none 0 0] 32))).touch0 H7.out.2).touch0 ((Touch.refl [] (w7)).alloc (.cells #[.bool false, .slice none 0 0] 32)))
          have HDM := Lib.hid ((H7.out.1).touch0 ((Touch.refl [] (w7)).alloc (.cells #[.bool false, .slice none 0 0] 32)))
          have HG8 := Lib.hid (ge_of_touch (((Touch.refl [] w1).drew).then0 H6.out.2) (show (w6).heap.size = w6.heap.size by simp))
          have HG9 := Lib.hid (ge_of_touch (((((Touch.refl [] w1).drew).then0 H6.out.2).alloc (.cells #[.bool false, .slice none 0 0] 32)).then0 H7.out.2) (show (w7).heap.size = w7.heap.size by simp))
          have hne : w6.heap.size ≠ w7.heap.size := Nat.ne_of_lt (lt_of_blk ((Blk.newAt (w := w6) (n := w6.heap.size) (by simp) 32 #[.bool false, .slice none 0 0]).touch H7.out.2 (by simp)) (show (w7).heap.size = w7.heap.size by simp))
          generalize ((w7).alloc (.cells #[.bool false, .slice none 0 0] 32)) = X0 at *
          obtain ⟨p0, p1, pf0, pf1⟩ := HX8.out.two
          obtain ⟨p4, p5, pf4, pf5⟩ := HX9.out.two
          have hne' := hne.symm
          refine rdy1 11 rfl (fun K hK => ?_)
          go_simp
          refine hK.out _ _ hS (fun _ => ?_)
          clear hK K
          try simp only [nz]
          refine rdy1 12 rfl (fun K hK => ?_)
          go_simp
          refine hK.out _ _ hS (fun _ => ?_)
          clear hK K
          try simp only [nz]
          refine wpAnyH_done (by kernel_rfl) ?_ _
          go_wp2_with fail
          go_meet
          exact r16_of HX8.out HX9.out hne HTX.out HDN.out HDM.out HB0.out.lt HG8.out HG9.out
         ·go_simp
          refine hK.out _ _ hS (fun _ => ?_)
          clear hK K
          try simp only [nz]
          refine rdy1 8 rfl (fun K hK => ?_)
          go_simp
          with_reducible refine Calls.mono (HR2.out _) ?_
          rintro r w7 ⟨x7, rfl, hx7, ht7⟩
          obtain ⟨A7, m7, c7, rfl, hd7⟩ := hx7.ex
          have H7 := Lib.hid (And.intro hd7 ht7)
          clear hx7 hd7 ht7
          (try dsimp only)
          go_wp2_with fail
          refine hK.out _ _ hS (fun _ => ?_)
          clear hK K
          try simp only [nz]
          have HX8 := Lib.hid (((Blk.newAt (w := w6) (n := w6.heap.size) (by simp) 32 #[.bool false, .slice none 0 0]).alloc (.cells #[.bool false, .slice none 0 0] 32)).touch H7.out.2 (by simp))
          have HX9 := Lib.hid ((Blk.newAt (w := (w6).alloc (.cells #[.bool false, .slice none 0 0] 32)) (n := w6.heap.size + 1) (by simp) 32 #[.bool false, .slice none 0 0]).touch H7.out.2 (by simp))
          have HTX := Lib.hid ((((((Touch.refl [] w1).drew).then0 H6.out.2).alloc (.cells #[.bool false, .slice none 0 0] 32)).alloc (.cells #[.bool false, .slice none 0 0] 32)).then0 H7.out.2)
          have HDN := Lib.hid ((((H6.out.1).touch0 ((Touch.refl [] (w6)).alloc (.cells #[.bool false, .slice none 0 0] 32))).touch0 ((Touch.refl [] ((w6).alloc (.cells #[.bool false, .slice none 0 0] 32))).alloc (.cells #[.bool false, .slice none 0 0] 32))).touch0 H7.out.2)
          have HDM := Lib.hid (H7.out.1)
          have HG8 := Lib.hid (ge_of_touch (((Touch.refl [] w1).drew).then0 H6.out.2) (show (w6).heap.size = w6.heap.size by simp))
          have HG9 := Lib.hid (ge_of_touch ((((Touch.refl [] w1).drew).then0 H6.out.2).alloc (.cells #[.bool false, .slice none 0 0] 32)) (show ((w6).alloc (.cells #[.bool false, .slice none 0 0] 32)).heap.size = w6.heap.size + 1 by simp))
          have hne : w6.heap.size ≠ w6.heap.size + 1 := Nat.ne_of_lt (lt_of_blk (Blk.newAt (w := w6) (n := w6.heap.size) (by simp) 32 #[.bool false, .slice none 0 0]) (show ((w6).alloc (.cells #[.bool false, .slice none 0 0] 32)).heap.size = w6.heap.size + 1 by simp))
          generalize (w7) = X0 at *
          obtain ⟨p0, p1, pf0, pf1⟩ := HX8.out.two
          obtain ⟨p4, p5, pf4, pf5⟩ := HX9.out.two
          have hne' := hne.symm
          refine rdy1 11 rfl (fun K hK => ?_)
          go_simp
          refine hK.out _ _ hS (fun _ => ?_)
          clear hK K
          try simp only [nz]
          refine rdy1 12 rfl (fun K hK => ?_)
          go_simp
          refine hK.out _ _ hS (fun _ => ?_)
          clear hK K
          try simp only [nz]
          refine wpAnyH_done (by kernel_rfl) ?_ _
          go_wp2_with fail
          go_meet
          exact r16_of HX8.out HX9.out hne HTX.out HDN.out HDM.out HB0.out.lt HG8.out HG9.out
        ·go_simp
         refine hK.out _ _ hS (fun _ => ?_)
         clear hK K
         try simp only [nz]
         refine wpAnyH_ready (rs := [8, 9]) (by kernel_rfl) (by simp) (AllReadyH.cons rfl (fun K hK => ?_) (AllReadyH.cons rfl (fun K hK => ?_) AllReadyH.nil))
         ·go_simp
          with_reducible refine Calls.mono (HR2.out _) ?_
          rintro r w7 ⟨x7, rfl, hx7, ht7⟩
          obtain ⟨A7, m7, c7, rfl, hd7⟩ := hx7.ex
          have H7 := Lib.hid (And.intro hd7 ht7)
          clear hx7 hd7 ht7
          (try dsimp only)
          go_wp2_with fail
          refine hK.out _ _ hS (fun _ => ?_)
          clear hK K
          try simp only [nz]
          refine rdy1 9 rfl (fun K hK => ?_)
          go_simp
          refine hK.out _ _ hS (fun _ => ?_)
          clear hK K
          try simp only [nz]
          have HX8 := Lib.hid (Blk.newAt (w := w7) (n := w7.heap.size) (by simp) 32 #[.bool false, .slice none 0 0])
          have HX9 := Lib.hid (((Blk.newAt (w := w6) (n := w6.heap.size) (by simp) 32 #[.bool false, .slice none 0 0]).touch H7.out.2 (by simp)).alloc (.cells #[.bool false, .slice none 0 0] 32))
          have HTX := Lib.hid ((((((Touch.refl [] w1).drew).then0 H6.out.2).alloc (.cells #[.bool false, .slice none 0 0] 32)).then0 H7.out.2).alloc (.cells #[.bool false, .slice none 0 0] 32))
          have HDN := Lib.hid ((((H6.out.1).touch0 ((Touch.refl [] (w6)).alloc (.cells #[.bool false, .slice none 0 0] 32))).touch0 H7.out.2).touch0 ((Touch.refl [] (w7)).alloc (.cells #[.bool false, .slice none 0 0] 32)))
          have HDM := Lib.hid ((H7.out.1).touch0 ((Touch.refl [] (w7)).alloc (.cells #[.bool false, .slice none 0 0] 32)))
          have HG8 := Lib.hid (ge_of_touch (((((Touch.refl [] w1).drew).then0 H6.out.2).alloc (.cells #[.bool false, .slice none 0 0] 32)).then0 H7.out.2) (show (w7).heap.size = w7.heap.size by simp))
          have HG9 := Lib.hid (ge_of_touch (((Touch.refl [] w1).drew).then0 H6.out.2) (show (w6).heap.size = w6.heap.size by simp))
          have hne : w7.heap.size ≠ w6.heap.size := Nat.ne_of_gt (lt_of_blk ((Blk.newAt (w := w6) (n := w6.heap.size) (by simp) 32 #[.bool false, .slice none 0 0]).touch H7.out.2 (by simp)) (show (w7).heap.size = w7.heap.size by simp))
          generalize ((w7).alloc (.cells #[.bool false, .slice none 0 0] 32)) = X0 at *
          obtain ⟨p0, p1, pf0, pf1⟩ := HX8.out.two
          obtain ⟨p4, p5, pf4, pf5⟩ := HX9.out.two
          have hne' := hne.symm
          refine rdy1 11 rfl (fun K hK => ?_)
          go_simp
          refine hK.out _ _ hS (fun _ => ?_)
          clear hK K
          try simp only [nz]
          refine rdy1 12 rfl (fun K hK => ?_)
          go_simp
          refine hK.out _ _ hS (fun _ => ?_)
          clear hK K
          try simp only [nz]
          refine wpAnyH_done (by kernel_rfl) ?_ _
          go_wp2_with fail
          go_meet
          exact r16_of HX8.out HX9.out hne HTX.out HDN.out HDM.out HB0.out.lt HG8.out HG9.out
         ·go_simp
          refine hK.out _ _ hS (fun _ => ?_)
          clear hK K
          try simp only [nz]
          refine rdy1 8 rfl (fun K hK => ?_)
          go_simp
          with_reducible refine Calls.mono (HR2.out _) ?_
          rintro r w7 ⟨x7, rfl, hx7, ht7⟩
          obtain ⟨A7, m7, c7, rfl, hd7⟩ := hx7.ex
          have H7 := Lib.hid (And.intro hd7 ht7)
          clear hx7 hd7 ht7
          (try dsimp only)
          go_wp2_with fail
          refine hK.out _ _ hS (fun _ => ?_)
          clear hK K
          try simp only [nz]
          have HX8 := Lib.hid ((Blk.newAt (w := (w6).alloc (.cells #[.bool false, .slice none 0 0] 32)) (n := w6.heap.size + 1) (by simp) 32 #[.bool false, .slice none 0 0]).touch H7.out.2 (by simp))
          have HX9 := Lib.hid (((Blk.newAt (w := w6) (n := w6.heap.size) (by simp) 32 #[.bool false, .slice none 0 0]).alloc (.cells #[.bool false, .slice none 0 0] 32)).touch H7.out.2 (by simp))
          have HTX := Lib.hid ((((((Touch.refl [] w1).drew).then0 H6.out.2).alloc (.cells #[.bool false, .slice none 0 0] 32)).alloc (.cells #[.bool false, .slice none 0 0] 32)).then0 H7.out.2)
          have HDN := Lib.hid ((((H6.out.1).touch0 ((Touch.refl [] (w6)).alloc (.cells #[.bool false, .slice none 0 0] 32))).touch0 ((Touch.refl [] ((w6).alloc (.cells #[.bool false, .slice none 0 0] 32))).alloc (.cells #[.bool false, .slice none 0 0] 32))).touch0 H7.out.2)
          have HDM := Lib.hid (H7.out.1)
          have HG8 := Lib.hid (ge_of_touch ((((Touch.refl [] w1).drew).then0 H6.out.2).alloc (.cells #[.bool false, .slice none 0 0] 32)) (show ((w6).alloc (.cells #[.bool false, .slice none 0 0] 32)).heap.size = w6.heap.size + 1 by simp))
          have HG9 := Lib.hid (ge_of_touch (((Touch.refl [] w1).drew).then0 H6.out.2) (show (w6).heap.size = w6.heap.size by simp))
          have hne : w6.heap.size + 1 ≠ w6.heap.size := Nat.ne_of_gt (lt_of_blk (Blk.newAt (w := w6) (n := w6.heap.size) (by simp) 32 #[.bool false, .slice none 0 0]) (show ((w6).alloc (.cells #[.bool false, .slice none 0 0] 32)).heap.size = w6.heap.size + 1 by simp))
          generalize (w7) = X0 at *
          obtain ⟨p0, p1, pf0, pf1⟩ := HX8.out.two
          obtain ⟨p4, p5, pf4, pf5⟩ := HX9.out.two
          have hne' := hne.symm
          refine rdy1 11 rfl (fun K hK => ?_)
          go_simp
          refine hK.out _ _ hS (fun _ => ?_)
          clear hK K
          try simp only [nz]
          refine rdy1 12 rfl (fun K hK => ?_)
          go_simp
          refine hK.out _ _ hS (fun _ => ?_)
          clear hK K
          try simp only [nz]
          refine wpAnyH_done (by kernel_rfl) ?_ _
          go_wp2_with fail
          go_meet
          exact r16_of HX8.out HX9.out hne HTX.out HDN.out HDM.out HB0.out.lt HG8.out HG9.out
       ·go_simp
        refine hK.out _ _ hS (fun _ => ?_)
        clear hK K
        try simp only [nz]
        refine wpAnyH_ready (rs := [3, 10]) (by kernel_rfl) (by simp) (AllReadyH.cons rfl (fun K hK => ?_) (AllReadyH.cons rfl (fun K hK => ?_) AllReadyH.nil))
        ·go_simp
         with_reducible refine Calls.mono (HR1.out _) ?_
         rintro r w6 ⟨x6, rfl, hx6, ht6⟩
         obtain ⟨A6, m6, c6, rfl, hd6⟩ := hx6.ex
         have H6 := Lib.hid (And.intro hd6 ht6)
         clear hx6 hd6 ht6
         (try dsimp only)
         go_wp2_with fail
         refine hK.out _ _ hS (fun _ => ?_)
         clear hK K
         try simp only [nz]
         refine wpAnyH_ready (rs := [8, 10]) (by kernel_rfl) (by simp) (AllReadyH.cons rfl (fun K hK => ?_) (AllReadyH.cons rfl (fun K hK => ?_) AllReadyH.nil))
         ·go_simp
          with_reducible refine Calls.mono (HR2.out _) ?_
          rintro r w7 ⟨x7, rfl, hx7, ht7⟩
          obtain ⟨A7, m7, c7, rfl, hd7⟩ := hx7.ex
          have H7 := Lib.hid (And.intro hd7 ht7)
          clear hx7 hd7 ht7
          (try dsimp only)
          go_wp2_with fail
          refine hK.out _ _ hS (fun _ => ?_)
          clear hK K
          try simp only [nz]
          refine rdy1 10 rfl (fun K hK => ?_)
          go_simp
          refine hK.out _ _ hS (fun _ => ?_)
          clear hK K
          try simp only [nz]
          have HX8 := Lib.hid ((((Blk.newAt (w := w1.drew) (n := w1.heap.size) (by simp) 32 #[.bool false, .slice none 0 0]).touch H6.out.2 (by simp)).touch H7.out.2 (by simp)).alloc (.cells #[.bool false, .slice none 0 0] 32))
          have HX9 := Lib.hid (Blk.newAt (w := w7) (n := w7.heap.size) (by simp) 32 #[.bool false, .slice none 0 0])
          have HTX := Lib.hid ((((((Touch.refl [] w1).drew).alloc (.cells #[.bool false, .slice none 0 0] 32)).then0 H6.out.2).then0 H7.out.2).alloc (.cells #[.bool false, .slice none 0 0] 32))
          have HDN := Lib.hid (((H6.out.1).touch0 H7.out.2).touch0 ((Touch.refl [] (w7)).alloc (.cells #[.bool false, .slice none 0 0] 32)))
          have HDM := Lib.hid ((H7.out.1).touch0 ((Touch.refl [] (w7)).alloc (.cells #[.bool false, .slice none 0 0] 32)))
          have HG8 := Lib.hid (ge_of_touch ((Touch.refl [] w1).drew) (show (w1.drew).heap.size = w1.heap.size by simp))
          have HG9 := Lib.hid (ge_of_touch (((((Touch.refl [] w1).drew).alloc (.cells #[.bool false, .slice none 0 0] 32)).then0 H6.out.2).then0 H7.out.2) (show (w7).heap.size = w7.heap.size by simp))
          have hne : w1.heap.size ≠ w7.heap.size := Nat.ne_of_lt (lt_of_blk (((Blk.newAt (w := w1.drew) (n := w1.heap.size) (by simp) 32 #[.bool false, .slice none 0 0]).touch H6.out.2 (by simp)).touch H7.out.2 (by simp)) (show (w7).heap.size = w7.heap.size by simp))
          generalize ((w7).alloc (.cells #[.bool false, .slice none 0 0] 32)) = X0 at *
          obtain ⟨p0, p1, pf0, pf1⟩ := HX8.out.two
          obtain ⟨p4, p5, pf4, pf5⟩ := HX9.out.two
          have hne' := hne.symm
          refine rdy1 11 rfl (fun K hK => ?_)
          go_simp
          refine hK.out _ _ hS (fun _ => ?_)
          clear hK K
          try simp only [nz]
          refine rdy1 12 rfl (fun K hK => ?_)
          go_simp
          refine hK.out _ _ hS (fun _ => ?_)
          clear hK K
          try simp only [nz]
          refine wpAnyH_done (by kernel_rfl) ?_ _
          go_wp2_with fail
          go_meet
          exact r16_of HX8.out HX9.out hne HTX.out HDN.out HDM.out HB0.out.lt HG8.out HG9.out
         ·go_simp
          refine hK.out _ _ hS (fun _ => ?_)
          clear hK K
          try simp only [nz]
          refine rdy1 8 rfl (fun K hK => ?_)
          go_simp
          with_reducible refine Calls.mono (HR2.out _) ?_
          rintro r w7 ⟨x7, rfl, hx7, ht7⟩
          obtain ⟨A7, m7, c7, rfl, hd7⟩ := hx7.ex
          have H7 := Lib.hid (And.intro hd7 ht7)
          clear hx7 hd7 ht7
          (try dsimp only)
          go_wp2_with fail
          refine hK.out _ _ hS (fun _ => ?_)
          clear hK K
          try simp only [nz]
          have HX8 := Lib.hid ((((Blk.newAt (w := w1.drew) (n := w1.heap.size) (by simp) 32 #[.bool false, .slice none 0 0]).touch H6.out.2 (by simp)).alloc (.cells #[.bool false, .slice none 0 0] 32)).touch H7.out.2 (by simp))
          have HX9 := Lib.hid ((Blk.newAt (w := w6) (n := w6.heap.size) (by simp) 32 #[.bool false, .slice none 0 0]).touch H7.out.2 (by simp))
          have HTX := Lib.hid ((((((Touch.refl [] w1).drew).alloc (.cells #[.bool false, .slice none 0 0] 32)).then0 H6.out.2).alloc (.cells #[.bool false, .slice none 0 0] 32)).then0 H7.out.2)
          have HDN := Lib.hid (((H6.out.1).touch0 ((Touch.refl [] (w6)).alloc (.cells #[.bool false, .slice none 0 0] 32))).touch0 H7.out.2)
          have HDM := Lib.hid (H7.out.1)
          have HG8 := Lib.hid (ge_of_touch ((Touch.refl [] w1).drew) (show (w1.drew).heap.size = w1.heap.size by simp))
          have HG9 := Lib.hid (ge_of_touch ((((Touch.refl [] w1).drew).alloc (.cells #[.bool false, .slice none 0 0] 32)).then0 H6.out.2) (show (w6).heap.size = w6.heap.size by simp))
          have hne : w1.heap.size ≠ w6.heap.size := Nat.ne_of_lt (lt_of_blk ((Blk.newAt (w := w1.drew) (n := w1.heap.size) (by simp) 32 #[.bool false, .slice none 0 0]).touch H6.out.2 (by simp)) (show (w6).heap.size = w6.heap.size by simp))
          generalize (w7) = X0 at *
          obtain ⟨p0, p1, pf0, pf1⟩ := HX8.out.two
          obtain ⟨p4, p5, pf4, pf5⟩ := HX9.out.two
          have hne' := hne.symm
          refine rdy1 11 rfl (fun K hK => ?_)
          go_simp
          refine hK.out _ _ hS (fun _ => ?_)
          clear hK K
          try simp only [nz]
          refine rdy1 12 rfl (fun K hK => ?_)
          go_simp
          refine hK.out _ _ hS (fun _ => ?_)
          clear hK K
          try simp only [nz]
          refine wpAnyH_done (by kernel_rfl) ?_ _
          go_wp2_with fail
          go_meet
          exact r16_of HX8.out HX9.out hne HTX.out HDN.out HDM.out HB0.out.lt HG8.out HG9.out
        ·go_simp
         refine hK.out _ _ hS (fun _ => ?_)
         clear hK K
         try simp only [nz]
         refine rdy1 3 rfl (fun K hK => ?_)
         go_simp
         with_reducible refine Calls.mono (HR1.out _) ?_
         rintro r w6 ⟨x6, rfl, hx6, ht6⟩
         obtain ⟨A6, m6, c6, rfl, hd6⟩ := hx6.ex
         have H6 := Lib.hid (And.intro hd6 ht6)
         clear hx6 hd6 ht6
         (try dsimp only)
         go_wp2_with fail
         refine hK.out _ _ hS (fun _ => ?_)
         clear hK K
         try simp only [nz]
         refine rdy1 8 rfl (fun K hK => ?_)
         go_simp
         with_reducible refine Calls.mono (HR2.out _) ?_
         rintro r w7 ⟨x7, rfl, hx7, ht7⟩
         obtain ⟨A7, m7, c7, rfl, hd7⟩ := hx7.ex
         have H7 := Lib.hid (And.intro hd7 ht7)
         clear hx7 hd7 ht7
         (try dsimp only)
         go_wp2_with fail
         refine hK.out _ _ hS (fun _ => ?_)
         clear hK K
         try simp only [nz]
         have HX8 := Lib.hid ((((Blk.newAt (w := w1.drew) (n := w1.heap.size) (by simp) 32 #[.bool false, .slice none 0 0]).alloc (.cells #[.bool false, .slice none 0 0] 32)).touch H6.out.2 (by simp)).touch H7.out.2 (by simp))
         have HX9 := Lib.hid (((Blk.newAt (w := (w1.drew).alloc (.cells #[.bool false, .slice none 0 0] 32)) (n := w1.heap.size + 1) (by simp) 32 #[.bool false, .slice none 0 0]).touch H6.out.2 (by simp)).touch H7.out.2 (by simp))
         have HTX := Lib.hid ((((((Touch.refl [] w1).drew).alloc (.cells #[.bool false, .slice none 0 0] 32)).alloc (.cells #[.bool false, .slice none 0 0] 32)).then0 H6.out.2).then0 H7.out.2)
         have HDN := Lib.hid ((H6.out.1).touch0 H7.out.2)
         have HDM := Lib.hid (H7.out.1)
         have HG8 := Lib.hid (ge_of_touch ((Touch.refl [] w1).drew) (show (w1.drew).heap.size = w1.heap.size by simp))
         have HG9 := Lib.hid (ge_of_touch (((Touch.refl [] w1).drew).alloc (.cells #[.bool false, .slice none 0 0] 32)) (show ((w1.drew).alloc (.cells #[.bool false, .slice none 0 0] 32)).heap.size = w1.heap.size + 1 by simp))
         have hne : w1.heap.size ≠ w1.heap.size + 1 := Nat.ne_of_lt (lt_of_blk (Blk.newAt (w := w1.drew) (n := w1.heap.size) (by simp) 32 #[.bool false, .slice none 0 0]) (show ((w1.drew).alloc (.cells #[.bool false, .slice none 0 0] 32)).heap.size = w1.heap.size + 1 by simp))
         generalize (w7) = X0 at *
         obtain ⟨p0, p1, pf0, pf1⟩ := HX8.out.two
         obtain ⟨p4, p5, pf4, pf5⟩ := HX9.out.two
         have hne' := hne.symm
         refine rdy1 11 rfl (fun K hK => ?_)
         go_simp
         refine hK.out _ _ hS (fun _ => ?_)
         clear hK K
         try simp only [nz]
         refine rdy1 12 rfl (fun K hK => ?_)
         go_simp
         refine hK.out _ _ hS (fun _ => ?_)
         clear hK K
         try simp only [nz]
         refine wpAnyH_done (by kernel_rfl) ?_ _
         go_wp2_with fail
         go_meet
         exact r16_of HX8.out HX9.out hne HTX.out HDN.out HDM.out HB0.out.lt HG8.out HG9.out
       ·go_simp
        refine hK.out _ _ hS (fun _ => ?_)
        clear hK K
        try simp only [nz]
        refine wpAnyH_ready (rs := [3, 9]) (by kernel_rfl) (by simp) (AllReadyH.cons rfl (fun K hK => ?_) (AllReadyH.cons rfl (fun K hK => ?_) AllReadyH.nil))
        ·go_simp
         with_reducible refine Calls.mono (HR1.out _) ?_
         rintro r w6 ⟨x6, rfl, hx6, ht6⟩
         obtain ⟨A6, m6, c6, rfl, hd6⟩ := hx6.ex
         have H6 := Lib.hid (And.intro hd6 ht6)
         clear hx6 hd6 ht6
         (try dsimp only)
         go_wp2_with fail
         refine hK.out _ _ hS (fun _ => ?_)
         clear hK K
         try simp only [nz]
         refine wpAnyH_ready (rs := [8, 9]) (by kernel_rfl) (by simp) (AllReadyH.cons rfl (fun K hK => ?_) (AllReadyH.cons rfl (fun K hK => ?_) AllReadyH.nil))
         ·go_simp
          with_reducible refine Calls.mono (HR2.out _) ?_
          rintro r w7 ⟨x7, rfl, hx7, ht7⟩
          obtain ⟨A7, m7, c7, rfl, hd7⟩ := hx7.ex
          have H7 := Lib.hid (And.intro hd7 ht7)
          clear hx7 hd7 ht7
          (try dsimp only)
          go_wp2_with fail
          refine hK.out _ _ hS (fun _ => ?_)
          clear hK K
          try simp only [nz]
          refine rdy1 9 rfl (fun K hK => ?_)
          go_simp
          refine hK.out _ _ hS (fun _ => ?_)
          clear hK K
          try simp only [nz]
          have HX8 := Lib.hid (Blk.newAt (w := w7) (n := w7.heap.size) (by simp) 32 #[.bool false, .slice none 0 0])
          have HX9 := Lib.hid ((((Blk.newAt (w := w1.drew) (n := w1.heap.size) (by simp) 32 #[.bool false, .slice none 0 0]).touch H6.out.2 (by simp)).touch H7.out.2 (by simp)).alloc (.cells #[.bool false, .slice none 0 0] 32))
          have HTX := Lib.hid ((((((Touch.refl [] w1).drew).alloc (.cells #[.bool false, .slice none 0 0] 32)).then0 H6.out.2).then0 H7.out.2).alloc (.cells #[.bool false, .slice none 0 0] 32))
          have HDN := Lib.hid (((H6.out.1).touch0 H7.out.2).touch0 ((Touch.refl [] (w7)).alloc (.cells #[.bool false, .slice none 0 0] 32)))
          have HDM := Lib.hid ((H7.out.1).touch0 ((Touch.refl [] (w7)).alloc (.cells #[.bool false, .slice none 0 0] 32)))
          have HG8 := Lib.hid (ge_of_touch (((((Touch.refl [] w1).drew).alloc (.cells #[.bool false, .slice none 0 0] 32)).then0 H6.out.2).then0 H7.out.2) (show (w7).heap.size = w7.heap.size by simp))
          have HG9 := Lib.hid (ge_of_touch ((Touch.refl [] w1).drew) (show (w1.drew).heap.size = w1.heap.size by simp))
          have hne : w7.heap.size ≠ w1.heap.size := Nat.ne_of_gt (lt_of_blk (((Blk.newAt (w := w1.drew) (n := w1.heap.size) (by simp) 32 #[.bool false, .slice none 0 0]).touch H6.out.2 (by simp)).touch H7.out.2 (by simp)) (show (w7).heap.size = w7.heap.size by simp))
          generalize ((w7).alloc (.cells #[.bool false, .slice none 0 0] 32)) = X0 at *
          obtain ⟨p0, p1, pf0, pf1⟩ := HX8.out.two
          obtain ⟨p4, p5, pf4, pf5⟩ := HX9.out.two
          have hne' := hne.symm
          refine rdy1 11 rfl (fun K hK => ?_)
          go_simp
          refine hK.out _ _ hS (fun _ => ?_)
          clear hK K
          try simp only [nz]
          refine rdy1 12 rfl (fun K hK => ?_)
          go_simp
          refine hK.out _ _ hS (fun _ => ?_)
          clear hK K
          try simp only [nz]
          refine wpAnyH_done (by kernel_rfl) ?_ _
          go_wp2_with fail
          go_meet
          exact r16_of HX8.out HX9.out hne HTX.out HDN.out HDM.out HB0.out.lt HG8.out HG9.out
         ·go_simp
          refine hK.out _ _ hS (fun _ => ?_)
          clear hK K
          try simp only [nz]
          refine rdy1 8 rfl (fun K hK => ?_)
          go_simp
          with_reducible refine Calls.mono (HR2.out _) ?_
          rintro r w7 ⟨x7, rfl, hx7, ht7⟩
          obtain ⟨A7, m7, c7, rfl, hd7⟩ := hx7.ex
          have H7 := Lib.hid (And.intro hd7 ht7)
          clear hx7 hd7 ht7
          (try dsimp only)
          go_wp2_with fail
          refine hK.out _ _ hS (fun _ => ?_)
          clear hK K
          try simp only [nz]
          have HX8 := Lib.hid ((Blk.newAt (w := w6) (n := w6.heap.size) (by simp) 32 #[.bool false, .slice none 0 0]).touch H7.out.2 (by simp))
          have HX9 := Lib.hid ((((Blk.newAt (w := w1.drew) (n := w1.heap.size) (by simp) 32 #[.bool false, .slice none 0 0]).touch H6.out.2 (by simp)).alloc (.cells #[.bool false, .slice none 0 0] 32)).touch H7.out.2 (by simp))
          have HTX := Lib.hid ((((((Touch.refl [] w1).drew).alloc (.cells #[.bool false, .slice none 0 0] 32)).then0 H6.out.2).alloc (.cells #[.bool false, .slice none 0 0] 32)).then0 H7.out.2)
          have HDN := Lib.hid (((H6.out.1).touch0 ((Touch.refl [] (w6)).alloc (.cells #[.bool false, .slice none 0 0] 32))).touch0 H7.out.2)
          have HDM := Lib.hid (H7.out.1)
          have HG8 := Lib.hid (ge_of_touch ((((Touch.refl [] w1).drew).alloc (.cells #[.bool false, .slice none 0 0] 32)).then0 H6.out.2) (show (w6).heap.size = w6.heap.size by simp))
          have HG9 := Lib.hid (ge_of_touch ((Touch.refl [] w1).drew) (show (w1.drew).heap.size = w1.heap.size by simp))
          have hne : w6.heap.size ≠ w1.heap.size := Nat.ne_of_gt (lt_of_blk ((Blk.newAt (w := w1.drew) (n := w1.heap.size) (by simp) 32 #[.bool false, .slice none 0 0]).touch H6.out.2 (by simp)) (show (w6).heap.size = w6.heap.size by simp))
          generalize (w7) = X0 at *
          obtain ⟨p0, p1, pf0, pf1⟩ := HX8.out.two
          obtain ⟨p4, p5, pf4, pf5⟩ := HX9.out.two
          have hne' := hne.symm
          refine rdy1 11 rfl (fun K hK => ?_)
          go_simp
          refine hK.out _ _ hS (fun _ => ?_)
          clear hK K
          try simp only [nz]
          refine rdy1 12 rfl (fun K hK => ?_)
          go_simp
          refine hK.out _ _ hS (fun _ => ?_)
          clear hK K
          try simp only [nz]
          refine wpAnyH_done (by kernel_rfl) ?_ _
          go_wp2_with fail
          go_meet
          exact r16_of HX8.out HX9.out hne HTX.out HDN.out HDM.out HB0.out.lt HG8.out HG9.out
        ·go_simp
         refine hK.out _ _ hS (fun _ => ?_)
         clear hK K
         try simp only [nz]
         refine rdy1 3 rfl (fun K hK => ?_)
         go_simp
         with_reducible refine Calls.mono (HR1.out _) ?_
         rintro r w6 ⟨x6, rfl, hx6, ht6⟩
         obtain ⟨A6, m6, c6, rfl, hd6⟩ := hx6.ex
         have H6 := Lib.hid (And.intro hd6 ht6)
         clear hx6 hd6 ht6
         (try dsimp only)
         go_wp2_with fail
         refine hK.out _ _ hS (fun _ => ?_)
         clear hK K
         try simp only [nz]
         refine rdy1 8 rfl (fun K hK => ?_)
         go_simp
         with_reducible refine Calls.mono (HR2.out _) ?_
         rintro r w7 ⟨x7, rfl, hx7, ht7⟩
         obtain ⟨A7, m7, c7, rfl, hd7⟩ := hx7.ex
         have H7 := Lib.hid (And.intro hd7 ht7)
         clear hx7 hd7 ht7
         (try dsimp only)
         go_wp2_with fail
         refine hK.out _ _ hS (fun _ => ?_)
         clear hK K
         try simp only [nz]
         have HX8 := Lib.hid (((Blk.newAt (w := (w1.drew).alloc (.cells #[.bool false, .slice none 0 0] 32)) (n := w1.heap.size + 1) (by simp) 32 #[.bool false, .slice none 0 0]).touch H6.out.2 (by simp)).touch H7.out.2 (by simp))
         have HX9 := Lib.hid ((((Blk.newAt (w := w1.drew) (n := w1.heap.size) (by simp) 32 #[.bool false, .slice none 0 0]).alloc (.cells #[.bool false, .slice none 0 0] 32)).touch H6.out.2 (by simp)).touch H7.out.2 (by simp))
         have HTX := Lib.hid ((((((Touch.refl [] w1).drew).alloc (.cells #[.bool false, .slice none 0 0] 32)).alloc (.cells #[.bool false, .slice none 0 0] 32)).then0 H6.out.2).then0 H7.out.2)
         have HDN := Lib.hid ((H6.out.1).touch0 H7.out.2)
         have HDM := Lib.hid (H7.out.1)
         have HG8 := Lib.hid (ge_of_touch (((Touch.refl [] w1).drew).alloc (.cells #[.bool false, .slice none 0 0] 32)) (show ((w1.drew).alloc (.cells #[.bool false, .slice none 0 0] 32)).heap.size = w1.heap.size + 1 by simp))
         have HG9 := Lib.hid (ge_of_touch ((Touch.refl [] w1).drew) (show (w1.drew).heap.size = w1.heap.size by simp))
         have hne : w1.heap.size + 1 ≠ w1.heap.size := Nat.ne_of_gt (lt_of_blk (Blk.newAt (w := w1.drew) (n := w1.heap.size) (by simp) 32 #[.bool false, .slice none 0 0]) (show ((w1.drew).alloc (.cells #[.bool false, .slice none 0 0] 32)).heap.size = w1.heap.size + 1 by simp))
         generalize (w7) = X0 at *
         obtain ⟨p0, p1, pf0, pf1⟩ := HX8.out.two
         obtain ⟨p4, p5, pf4, pf5⟩ := HX9.out.two
         have hne' := hne.symm
         refine rdy1 11 rfl (fun K hK => ?_)
         go_simp
         refine hK.out _ _ hS (fun _ => ?_)
         clear hK K
         try simp only [nz]
         refine rdy1 12 rfl (fun K hK => ?_)
         go_simp
         refine hK.out _ _ hS (fun _ => ?_)
         clear hK K
         try simp only [nz]
         refine wpAnyH_done (by kernel_rfl) ?_ _
         go_wp2_with fail
         go_meet
         exact r16_of HX8.out HX9.out hne HTX.out HDN.out HDM.out HB0.out.lt HG8.out HG9.out
      case rest =>
       obtain ⟨g8, g9, A, B, kn, km, c1, d1, rfl, rfl, hg8, hg9, b8, b9, hdn, hdm, ht⟩ := hcut
       have HB := Lib.hid (HB0.out.touch ht.out (by simp))
       have HT := Lib.hid (HT0.out.then0 ht.out)
       have HC8 := Lib.hid (fun W (t : Touch [] wc W) => b8.icell t)
       have HC9 := Lib.hid (fun W (t : Touch [] wc W) => b9.icell t)
       have hkn : kn = (dg N).length := by obtain ⟨_, _, e⟩ := hdn.out.form; injection e
       have hkm : km = (dg M).length := by obtain ⟨_, _, e⟩ := hdm.out.form; injection e
       have hgt := HB0.out.lt
       have HGT : Hid (w.heap.size < w1.heap.size) := Lib.hid hgt
       obtain ⟨q0, q1, qf0, qf1⟩ := b8.two
       obtain ⟨q4, q5, qf4, qf5⟩ := b9.two
       obtain ⟨p0, p1, p2, p3, pf0, pf1, pf2, pf3⟩ := HB.out.four
       clear b8 b9 hgt hwr hn1 hn2 hn3 hn4 hx1 hx2 hlen hsz HB0 HT0 HR1 HR2 HFO HF2
       by_cases hN : N < Top
       ·have hlenN : ¬ (64 : Int) < (kn : Int) := by have := top_dg.2 hN; omega
        by_cases hM : M < Top
        ·have hlenM : ¬ (64 : Int) < (km : Int) := by have := top_dg.2 hM; omega
         have HCOM := Lib.hid (fun W (t : Touch [] wc W) => rCommon_any n false _ _ N M W (hdn.out.touch0 t) (hdm.out.touch0 t) hN hM)
         have HSM := Lib.hid (fun (W : World) (d1 d2 : Value) (h1 : Dgs W d1 (dg (Nat.gcd N M))) (h2 : Dgs W d2 (dg 1)) => rSame_any d1 d2 (Nat.gcd N M) 1 W h1 h2)
         clear hkn hkm
         by_cases hg : Nat.gcd N M = 1
         ·rw [decide_eq_true hg] at HSM
          have HOKT : Hid (ratOK l = true) := Lib.hid (by rw [HOK2.out]; have h1 : N < 256 ^ 64 := hN; have h2 : M < 256 ^ 64 := hM; simp only [Bool.and_eq_true, decide_eq_true_eq]; exact ⟨⟨⟨⟨h1, h2⟩, rfl⟩, HM1.out⟩, hg⟩)
          clear HOK2 HM1 hN hM hg hdn hdm
          go_wp2_with fail
          with_reducible refine Calls.mono (HCOM.out _ (Touch.refl [] wc)) ?_
          rintro r w5 ⟨x5, rfl, hx5, ht5⟩
          obtain ⟨A5, m5, c5, rfl, hd5⟩ := hx5.ex
          dsimp only
          have HD5 := Lib.hid hd5
          have hT := ht5
          clear hd5 hx5 ht5
          go_wp2_with fail
          with_reducible refine Calls.mono (rOf1_any _) ?_
          rintro r w6 ⟨x6, rfl, hx6, ht6⟩
          obtain ⟨A6, m6, c6, rfl, hd6⟩ := hx6.ex
          dsimp only
          have HD6 := Lib.hid hd6
          replace HD5 := Lib.hid (HD5.out.touch0 ht6)
          replace hT := hT.then0 ht6
          clear hd6 hx6 ht6
          go_wp2_with fail
          with_reducible refine Calls.mono (HSM.out _ _ _ HD5.out HD6.out) ?_
          rintro r w7 ⟨rfl, ht7⟩
          dsimp only
          replace hT := hT.then0 ht7
          clear ht7
          have HBZ := Lib.hid (HB.out.touch hT (by simp))
          obtain ⟨p0, p1, p2, p3, pf0, pf1, pf2, pf3⟩ := HBZ.out.four
          obtain ⟨r0, r1⟩ := HC8.out _ hT
          obtain ⟨r2, r3⟩ := HC9.out _ hT
          go_wp2_with fail
          obtain ⟨k0, k1, k2, k3, kt⟩ := HBZ.out.int4 (.bool n) (.slice A kn c1) (.bool false) (.slice B km d1)
          refine bodyPost_ret (v := .tuple #[.agg #[.bool n, .slice A kn c1, .bool false, .slice B km d1], .int .i64 0]) (by simp [results, Tryz.results108, go_sem, k0, k1, k2, k3]) rfl ⟨n, A, kn, c1, false, B, km, d1, 0, rfl, by rw [HOKT.out]; simp, (HT.out.then0 hT).step kt (fun m hm => .inr (by rw [List.mem_singleton] at hm; omega))⟩
         ·rw [decide_eq_false hg] at HSM
          have HOKF : Hid (ratOK l = false) := Lib.hid (by rw [HOK2.out]; simp [hg])
          clear HOK2 HM1 hN hM hg hdn hdm
          go_wp2_with fail
          with_reducible refine Calls.mono (HCOM.out _ (Touch.refl [] wc)) ?_
          rintro r w5 ⟨x5, rfl, hx5, ht5⟩
          obtain ⟨A5, m5, c5, rfl, hd5⟩ := hx5.ex
          dsimp only
          have HD5 := Lib.hid hd5
          have hT := ht5
          clear hd5 hx5 ht5
          go_wp2_with fail
          with_reducible refine Calls.mono (rOf1_any _) ?_
          rintro r w6 ⟨x6, rfl, hx6, ht6⟩
          obtain ⟨A6, m6, c6, rfl, hd6⟩ := hx6.ex
          dsimp only
          have HD6 := Lib.hid hd6
          replace HD5 := Lib.hid (HD5.out.touch0 ht6)
          replace hT := hT.then0 ht6
          clear hd6 hx6 ht6
          go_wp2_with fail
          with_reducible refine Calls.mono (HSM.out _ _ _ HD5.out HD6.out) ?_
          rintro r w7 ⟨rfl, ht7⟩
          dsimp only
          replace hT := hT.then0 ht7
          clear ht7
          have HBZ := Lib.hid (HB.out.touch hT (by simp))
          obtain ⟨p0, p1, p2, p3, pf0, pf1, pf2, pf3⟩ := HBZ.out.four
          go_wp2_with fail
          obtain ⟨k0, k1, k2, k3, kt⟩ := HBZ.out.int4 (.bool false) (.slice none 0 0) (.bool false) (.slice none 0 0)
          refine bodyPost_ret (v := .tuple #[.agg #[.bool false, .slice none 0 0, .bool false, .slice none 0 0], .int .i64 6]) (by simp [results, Tryz.results108, go_sem, k0, k1, k2, k3]) rfl ⟨false, none, 0, 0, false, none, 0, 0, 6, rfl, by rw [HOKF.out]; simp, (HT.out.then0 hT).step kt (fun m hm => .inr (by rw [List.mem_singleton] at hm; omega))⟩
        ·have hlenM : (64 : Int) < (km : Int) := by have := mt top_dg.1 hM; omega
         have HOKF : Hid (ratOK l = false) := Lib.hid (by rw [HOK2.out]; have h2 : ¬ M < 256 ^ 64 := hM; simp [h2])
         clear HOK2 HM1 hN hM hdn hdm hkn hkm
         go_wp2_with fail
         obtain ⟨k0, k1, k2, k3, kt⟩ := HB.out.int4 (.bool false) (.slice none 0 0) (.bool false) (.slice none 0 0)
         refine bodyPost_ret (v := .tuple #[.agg #[.bool false, .slice none 0 0, .bool false, .slice none 0 0], .int .i64 7]) (by simp [results, Tryz.results108, go_sem, k0, k1, k2, k3]) rfl ⟨false, none, 0, 0, false, none, 0, 0, 7, rfl, by rw [HOKF.out]; simp, HT.out.step kt (fun m hm => .inr (by rw [List.mem_singleton] at hm; omega))⟩
       ·have hlenN : (64 : Int) < (kn : Int) := by have := mt top_dg.1 hN; omega
        have HOKF : Hid (ratOK l = false) := Lib.hid (by rw [HOK2.out]; have h2 : ¬ N < 256 ^ 64 := hN; simp [h2])
        clear HOK2 HM1 hN hdn hdm hkn hkm
        go_wp2_with fail
        obtain ⟨k0, k1, k2, k3, kt⟩ := HB.out.int4 (.bool false) (.slice none 0 0) (.bool false) (.slice none 0 0)
        refine bodyPost_ret (v := .tuple #[.agg #[.bool false, .slice none 0 0, .bool false, .slice none 0 0], .int .i64 7]) (by simp [results, Tryz.results108, go_sem, k0, k1, k2, k3]) rfl ⟨false, none, 0, 0, false, none, 0, 0, 7, rfl, by rw [HOKF.out]; simp, HT.out.step kt (fun m hm => .inr (by rw [List.mem_singleton] at hm; omega))⟩
theorem qRead_any (l : List UInt8) (w : World) (hl : l.length ≤ 65536) : Calls Tryz.prog 108 #[.string ⟨l.toArray⟩] w (QpPost (ratOK l) w) := by
 cases h : cutL l with
 | none => exact qRead_none l w hl h
 | some y => exact qRead_some l y w hl h
end Go.Proofs.YtedpaajpfaoffaaGreatDoor
