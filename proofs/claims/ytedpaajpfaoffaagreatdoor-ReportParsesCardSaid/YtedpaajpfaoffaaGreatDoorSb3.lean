/- ratio.Parse: whether a string is the form of a ratio. -/
import Derived.Test.YtedpaajpfaoffaaGreatDoorSb2
import Derived.Test.YtedpaajpfaoffaaGreatDoorSaA
import Derived.Test.YtedpaajpfaoffaaGreatDoorSdA
import Derived.Deep.RegionHeld3
set_option linter.all false
set_option maxHeartbeats 8000000
set_option maxRecDepth 100000
namespace Go.Proofs.YtedpaajpfaoffaaGreatDoor
open Go.RowKit
theorem hasMinus_any (l : List UInt8) (w : World) (hl : l.length ≤ 65536) : Calls Tryz.prog 144 #[.string ⟨l.toArray⟩, .string ⟨#[45]⟩] w fun r w' => r = .returned (.bool (decide (l.head? = some 45))) ∧ w' = w := by
 cases l with
 | nil =>
  go_enter Tryz.func144, Tryz.ntmps144
  go_wp2
  go_ret
  exact ⟨rfl, rfl⟩
 | cons c t =>
  have hsz : (ByteArray.mk (c :: t).toArray).size = t.length + 1 := by simp [ByteArray.size]
  have hx := tx_at (c :: t) 0 c rfl
  by_cases hc : c = 45
  ·subst hc
   go_enter Tryz.func144, Tryz.ntmps144
   go_wp2
   go_ret
   exact ⟨rfl, rfl⟩
  ·have e2 : decide ((c :: t).head? = some 45) = false := by simpa using hc
   have hcb : (c == 45) = false := beq_false_of_ne hc
   rw [e2]
   clear hc e2
   go_enter Tryz.func144, Tryz.ntmps144
   go_wp2
   go_ret
   exact ⟨rfl, rfl⟩
theorem cut_some {l : List UInt8} {y : List UInt8 × List UInt8} (h : cutL l = some y) (w : World) (m : Int) (hl : l.length ≤ 65536) (hm : w.cell? ⟨6, 0, none⟩ = some (.int .i64 m)) : Calls Tryz.prog 142 #[.string ⟨l.toArray⟩, .string ⟨#[47]⟩] w fun r w' => r = .returned (.tuple #[.string ⟨y.1.toArray⟩, .string ⟨y.2.toArray⟩, .bool true]) ∧ Touch [] w w' := by
 refine (Tryz.strings_Cut ⟨l.toArray⟩ ⟨#[47]⟩ m w (by rw [tx_size]; omega) hm).mono ?_
 rintro r w' ⟨rfl, n, rfl⟩
 refine ⟨?_, (Touch.refl _ _).drewN n⟩
 have e : Lib.cut (ByteArray.mk l.toArray).data.toList (ByteArray.mk #[47]).data.toList = (y.1, y.2, true) := by
  have := cut_slash l
  rw [h] at this
  simpa using this
 rw [e]
theorem cut_none {l : List UInt8} (h : cutL l = none) (w : World) (m : Int) (hl : l.length ≤ 65536) (hm : w.cell? ⟨6, 0, none⟩ = some (.int .i64 m)) : Calls Tryz.prog 142 #[.string ⟨l.toArray⟩, .string ⟨#[47]⟩] w fun r w' => r = .returned (.tuple #[.string ⟨l.toArray⟩, .string ⟨#[]⟩, .bool false]) ∧ Touch [] w w' := by
 refine (Tryz.strings_Cut ⟨l.toArray⟩ ⟨#[47]⟩ m w (by rw [tx_size]; omega) hm).mono ?_
 rintro r w' ⟨rfl, n, rfl⟩
 refine ⟨?_, (Touch.refl _ _).drewN n⟩
 have e : Lib.cut (ByteArray.mk l.toArray).data.toList (ByteArray.mk #[47]).data.toList = (l, [], false) := by
  have := cut_slash l
  rw [h] at this
  simpa using this
 rw [e]
theorem np_none {l : List UInt8} (h : formI l = none) (w : World) (hl : l.length ≤ 65536) : Calls Tryz.prog 143 #[.string ⟨l.toArray⟩] w fun r w' => r = .returned (.tuple #[.agg #[.bool false, .slice none 0 0], .int .i64 6]) ∧ Touch [] w w' := by
 have := nParse_any l w hl
 rw [h] at this
 exact this.mono fun r w' hr => ⟨hr.2, hr.1⟩
theorem np_some {l : List UInt8} {n : Bool} {N : Nat} (h : formI l = some (n, N)) (w : World) (hl : l.length ≤ 65536) : Calls Tryz.prog 143 #[.string ⟨l.toArray⟩] w fun r w' => ∃ nb A k c e, r = .returned (.tuple #[.agg #[.bool nb, .slice A k c], .int .i64 e]) ∧ (N < Top → e = 0 ∧ nb = n ∧ Dgs w' (.slice A k c) (dg N)) ∧ (¬ N < Top → e = 7) ∧ Touch [] w w' := by
 have := nParse_any l w hl
 rw [h] at this
 refine this.mono fun r w' hr => ?_
 obtain ⟨ht, hr⟩ := hr
 rcases hr with ⟨h1, A, k, c, h2, h3⟩ | ⟨h1, h2⟩
 ·exact ⟨n, A, k, c, 0, h2, fun _ => ⟨rfl, rfl, h3⟩, fun h => absurd h1 h, ht⟩
 ·exact ⟨false, none, 0, 0, 7, h2, fun h => absurd h h1, fun _ => rfl, ht⟩
theorem np_weak (l : List UInt8) (w : World) (hl : l.length ≤ 65536) : Calls Tryz.prog 143 #[.string ⟨l.toArray⟩] w fun r w' => ∃ nb A k c e, r = .returned (.tuple #[.agg #[.bool nb, .slice A k c], .int .i64 e]) ∧ Touch [] w w' := by
 cases h : formI l with
 | none => exact (np_none h w hl).mono fun r w' hr => ⟨false, none, 0, 0, 6, hr.1, hr.2⟩
 | some x =>
  obtain ⟨n, N⟩ := x
  exact (np_some h w hl).mono fun r w' hr => by
   obtain ⟨nb, A, k, c, e, h1, -, -, h4⟩ := hr
   exact ⟨nb, A, k, c, e, h1, h4⟩
def QpPost (ok : Bool) (w : World) (r : Ending) (w' : World) : Prop := ∃ n1 A1 k1 c1 n2 A2 k2 c2 e, r = .returned (.tuple #[.agg #[.bool n1, .slice A1 k1 c1, .bool n2, .slice A2 k2 c2], .int .i64 e]) ∧ (e = 0 ↔ ok = true) ∧ Touch [] w w'
theorem Blk.four {w : World} {g : Nat} {t : TypeId} {x0 x1 x2 x3 : Value} (h : Blk w g t #[x0, x1, x2, x3]) : w.cell? ⟨g, 0, none⟩ = some x0 ∧ w.cell? ⟨g, 1, none⟩ = some x1 ∧ w.cell? ⟨g, 2, none⟩ = some x2 ∧ w.cell? ⟨g, 3, none⟩ = some x3 ∧ w.frozen? ⟨g, 0, none⟩ = false ∧ w.frozen? ⟨g, 1, none⟩ = false ∧ w.frozen? ⟨g, 2, none⟩ = false ∧ w.frozen? ⟨g, 3, none⟩ = false :=
 ⟨(h.cell 0).trans rfl, (h.cell 1).trans rfl, (h.cell 2).trans rfl, (h.cell 3).trans rfl, h.frozen 0, h.frozen 1, h.frozen 2, h.frozen 3⟩
theorem Blk.int4 {w : World} {g : Nat} {t : TypeId} {x0 x1 x2 x3 : Value} (h : Blk w g t #[x0, x1, x2, x3]) (u0 u1 u2 u3 : Value) :
  ((((w.setCell ⟨g, 0, none⟩ u0).setCell ⟨g, 1, none⟩ u1).setCell ⟨g, 2, none⟩ u2).setCell ⟨g, 3, none⟩ u3).cell? ⟨g, 0, none⟩ = some u0 ∧ ((((w.setCell ⟨g, 0, none⟩ u0).setCell ⟨g, 1, none⟩ u1).setCell ⟨g, 2, none⟩ u2).setCell ⟨g, 3, none⟩ u3).cell? ⟨g, 1, none⟩ = some u1 ∧ ((((w.setCell ⟨g, 0, none⟩ u0).setCell ⟨g, 1, none⟩ u1).setCell ⟨g, 2, none⟩ u2).setCell ⟨g, 3, none⟩ u3).cell? ⟨g, 2, none⟩ = some u2 ∧ ((((w.setCell ⟨g, 0, none⟩ u0).setCell ⟨g, 1, none⟩ u1).setCell ⟨g, 2, none⟩ u2).setCell ⟨g, 3, none⟩ u3).cell? ⟨g, 3, none⟩ = some u3 ∧ Touch [g] w ((((w.setCell ⟨g, 0, none⟩ u0).setCell ⟨g, 1, none⟩ u1).setCell ⟨g, 2, none⟩ u2).setCell ⟨g, 3, none⟩ u3) := by
 have b := (((h.set_ 0 u0).set_ 1 u1).set_ 2 u2).set_ 3 u3
 exact ⟨(b.cell 0).trans rfl, (b.cell 1).trans rfl, (b.cell 2).trans rfl, (b.cell 3).trans rfl, ((((Touch.refl _ _).setCell (.inl (by simp)) _).setCell (.inl (by simp)) _).setCell (.inl (by simp)) _).setCell (.inl (by simp)) _⟩
theorem ratOK_none {l : List UInt8} (h : cutL l = none) : ratOK l = match formI l with | some x => decide (x.2 < 256 ^ 64) | none => false := by unfold ratOK; rw [h]; rfl
theorem ratOK_some {l : List UInt8} {y : List UInt8 × List UInt8} (h : cutL l = some y) : ratOK l = match formI y.1, formI y.2 with
  | some x, some z => decide (x.2 < 256 ^ 64) && decide (z.2 < 256 ^ 64) && !z.1 && decide (1 < z.2) && decide (Nat.gcd x.2 z.2 = 1)
  | _, _ => false := by unfold ratOK; rw [h]; rfl
theorem qParse_none (l : List UInt8) (w : World) (m : Int) (hl : l.length ≤ 65536) (hm : w.cell? ⟨6, 0, none⟩ = some (.int .i64 m)) (hc : cutL l = none) : Calls Tryz.prog 100 #[.string ⟨l.toArray⟩] w (QpPost (ratOK l) w) := by
 have HC := Lib.hid (fun W (t : Touch [] w W) => cut_none hc W m hl (cell_touch hm t))
 have hok := ratOK_none hc
 have hb0 : Blk (w.alloc (.cells #[.bool false, .slice none 0 0, .bool false, .slice none 0 0] 34)) w.heap.size 34 #[.bool false, .slice none 0 0, .bool false, .slice none 0 0] := Blk.new _ _ _
 have ht0 : Touch [] w (w.alloc (.cells #[.bool false, .slice none 0 0, .bool false, .slice none 0 0] 34)) := (Touch.refl _ _).alloc _
 clear hm hc
 cases hf : formI l with
 | none =>
  rw [hf] at hok
  rw [hok]
  have HP := Lib.hid (fun W => np_none hf W hl)
  go_enter Tryz.func100, Tryz.ntmps100
  go_wp2_with fail
  generalize (w.alloc (.cells #[.bool false, .slice none 0 0, .bool false, .slice none 0 0] 34)) = w0 at *
  with_reducible refine Calls.mono (HC.out w0 ht0) ?_
  rintro r w1 ⟨rfl, ht1⟩
  dsimp only
  go_wp2_with fail
  with_reducible refine Calls.mono (HP.out w1) ?_
  rintro r w2 ⟨rfl, ht2⟩
  dsimp only
  have HBZ := Lib.hid (((hb0.touch ht1 (by simp)).touch ht2 (by simp)).alloc (.cells #[.bool false, .slice none 0 0] 32))
  obtain ⟨p0, p1, p2, p3, pf0, pf1, pf2, pf3⟩ := HBZ.out.four
  go_wp2_with fail
  obtain ⟨k0, k1, k2, k3, kt⟩ := HBZ.out.int4 (.bool false) (.slice none 0 0) (.bool false) (.slice none 0 0)
  refine bodyPost_ret (v := .tuple #[.agg #[.bool false, .slice none 0 0, .bool false, .slice none 0 0], .int .i64 6]) (by simp [results, Tryz.results100, go_sem, k0, k1, k2, k3]) rfl ⟨false, none, 0, 0, false, none, 0, 0, 6, rfl, by simp, (Touch.step (((ht0.then0 ht1).then0 ht2).alloc _) kt (fun m hm => .inr (by rw [List.mem_singleton] at hm; omega)))⟩
 | some x =>
  obtain ⟨n, N⟩ := x
  rw [hf] at hok
  have hpos := (formI_inv hf).2.2.2
  have HP := Lib.hid (fun W => np_some hf W hl)
  by_cases hN : N < Top
  ·have HOK : Hid (ratOK l = true) := Lib.hid (by rw [hok]; exact decide_eq_true hN)
   have HPOS := Lib.hid hpos
   have HN := Lib.hid hN
   rw [HOK.out]
   clear hok hpos hN
   go_enter Tryz.func100, Tryz.ntmps100
   go_wp2_with fail
   generalize (w.alloc (.cells #[.bool false, .slice none 0 0, .bool false, .slice none 0 0] 34)) = w0 at *
   with_reducible refine Calls.mono (HC.out w0 ht0) ?_
   rintro r w1 ⟨rfl, ht1⟩
   dsimp only
   go_wp2_with fail
   with_reducible refine Calls.mono (HP.out w1) ?_
   rintro r w2 ⟨nb, A, k, c, e, rfl, h1, -, ht2⟩
   dsimp only
   obtain ⟨rfl, rfl, hD⟩ := h1 HN.out
   have HD := Lib.hid hD
   clear h1 hD
   go_wp2_with fail
   have HB2 := Lib.hid (((hb0.touch ht1 (by simp)).touch ht2 (by simp)).alloc (.cells #[.bool nb, .slice A k c] 32))
   have HT2 := Lib.hid (((ht0.then0 ht1).then0 ht2).alloc (.cells #[.bool nb, .slice A k c] 32))
   refine (qFrom_any nb (.slice A k c) N _ (HD.out.touch0 ((Touch.refl _ _).alloc _)) HN.out HPOS.out).mono ?_
   rintro r w3 ⟨x, rfl, hx, ht3⟩
   obtain ⟨A1, k1, c1, A2, k2, c2, rfl, -, -⟩ := hx.ex
   dsimp only
   have HB3 := Lib.hid (HB2.out.touch ht3 (by simp))
   obtain ⟨p0, p1, p2, p3, pf0, pf1, pf2, pf3⟩ := HB3.out.four
   clear hb0 ht0 ht1 ht2
   go_wp2_with fail
   obtain ⟨k0, k1', k2', k3, kt⟩ := HB3.out.int4 (.bool nb) (.slice A1 k1 c1) (.bool false) (.slice A2 k2 c2)
   refine bodyPost_ret (v := .tuple #[.agg #[.bool nb, .slice A1 k1 c1, .bool false, .slice A2 k2 c2], .int .i64 0]) (by simp [results, Tryz.results100, go_sem, k0, k1', k2', k3]) rfl ⟨nb, A1, k1, c1, false, A2, k2, c2, 0, rfl, by simp, (HT2.out.then0 ht3).step kt (fun m hm => .inr (by rw [List.mem_singleton] at hm; omega))⟩
  ·have HOK : Hid (ratOK l = false) := Lib.hid (by rw [hok]; exact decide_eq_false hN)
   have HN := Lib.hid hN
   rw [HOK.out]
   clear hok hpos hN
   go_enter Tryz.func100, Tryz.ntmps100
   go_wp2_with fail
   generalize (w.alloc (.cells #[.bool false, .slice none 0 0, .bool false, .slice none 0 0] 34)) = w0 at *
   with_reducible refine Calls.mono (HC.out w0 ht0) ?_
   rintro r w1 ⟨rfl, ht1⟩
   dsimp only
   go_wp2_with fail
   with_reducible refine Calls.mono (HP.out w1) ?_
   rintro r w2 ⟨nb, A, k, c, e, rfl, -, h1, ht2⟩
   dsimp only
   obtain rfl := h1 HN.out
   clear h1
   have HBZ := Lib.hid (((hb0.touch ht1 (by simp)).touch ht2 (by simp)).alloc (.cells #[.bool nb, .slice A k c] 32))
   obtain ⟨p0, p1, p2, p3, pf0, pf1, pf2, pf3⟩ := HBZ.out.four
   go_wp2_with fail
   obtain ⟨k0, k1, k2, k3, kt⟩ := HBZ.out.int4 (.bool false) (.slice none 0 0) (.bool false) (.slice none 0 0)
   refine bodyPost_ret (v := .tuple #[.agg #[.bool false, .slice none 0 0, .bool false, .slice none 0 0], .int .i64 7]) (by simp [results, Tryz.results100, go_sem, k0, k1, k2, k3]) rfl ⟨false, none, 0, 0, false, none, 0, 0, 7, rfl, by simp, (Touch.step (((ht0.then0 ht1).then0 ht2).alloc _) kt (fun m hm => .inr (by rw [List.mem_singleton] at hm; omega)))⟩
theorem qParse_some (l : List UInt8) (y : List UInt8 × List UInt8) (w : World) (m : Int) (hl : l.length ≤ 65536) (hm : w.cell? ⟨6, 0, none⟩ = some (.int .i64 m)) (hc : cutL l = some y) : Calls Tryz.prog 100 #[.string ⟨l.toArray⟩] w (QpPost (ratOK l) w) := by
 have HC := Lib.hid (fun W (t : Touch [] w W) => cut_some hc W m hl (cell_touch hm t))
 have hok := ratOK_some hc
 have hlen := cutL_len hc
 obtain ⟨y1, y2⟩ := y
 dsimp only at hok hlen HC
 have hl1 : y1.length ≤ 65536 := by omega
 have hl2 : y2.length ≤ 65536 := by omega
 have hb0 : Blk (w.alloc (.cells #[.bool false, .slice none 0 0, .bool false, .slice none 0 0] 34)) w.heap.size 34 #[.bool false, .slice none 0 0, .bool false, .slice none 0 0] := Blk.new _ _ _
 have ht0 : Touch [] w (w.alloc (.cells #[.bool false, .slice none 0 0, .bool false, .slice none 0 0] 34)) := (Touch.refl _ _).alloc _
 have HH := Lib.hid (fun W => hasMinus_any y2 W hl2)
 clear hm hc hlen
 cases hf : formI y1 with
 | none =>
  have HOK : Hid (ratOK l = false) := Lib.hid (by rw [hok, hf])
  rw [HOK.out]
  have HP := Lib.hid (fun W => np_none hf W hl1)
  have HQ := Lib.hid (fun W => np_weak y2 W hl2)
  clear hok hf
  go_enter Tryz.func100, Tryz.ntmps100
  go_wp2_with fail
  generalize (w.alloc (.cells #[.bool false, .slice none 0 0, .bool false, .slice none 0 0] 34)) = w0 at *
  with_reducible refine Calls.mono (HC.out w0 ht0) ?_
  rintro r w1 ⟨rfl, ht1⟩
  dsimp only
  go_wp2_with fail
  with_reducible refine Calls.mono (HP.out w1) ?_
  rintro r w2 ⟨rfl, ht2⟩
  dsimp only
  go_wp2_with fail
  with_reducible refine Calls.mono (HQ.out _) ?_
  rintro r w3 ⟨nd, B, k5, c5, e5, rfl, ht3⟩
  dsimp only
  have HBZ := Lib.hid (((((hb0.touch ht1 (by simp)).touch ht2 (by simp)).alloc (.cells #[.bool false, .slice none 0 0] 32)).touch ht3 (by simp)).alloc (.cells #[.bool nd, .slice B k5 c5] 32))
  obtain ⟨p0, p1, p2, p3, pf0, pf1, pf2, pf3⟩ := HBZ.out.four
  go_wp2_with fail
  obtain ⟨k0, k1, k2, k3, kt⟩ := HBZ.out.int4 (.bool false) (.slice none 0 0) (.bool false) (.slice none 0 0)
  refine bodyPost_ret (v := .tuple #[.agg #[.bool false, .slice none 0 0, .bool false, .slice none 0 0], .int .i64 6]) (by simp [results, Tryz.results100, go_sem, k0, k1, k2, k3]) rfl ⟨false, none, 0, 0, false, none, 0, 0, 6, rfl, by simp, (Touch.step ((((((ht0.then0 ht1).then0 ht2).alloc (.cells #[.bool false, .slice none 0 0] 32)).then0 ht3)).alloc _) kt (fun m hm => .inr (by rw [List.mem_singleton] at hm; omega)))⟩
 | some x =>
  obtain ⟨n, N⟩ := x
  have hpos := (formI_inv hf).2.2.2
  have HP := Lib.hid (fun W => np_some hf W hl1)
  cases hg : formI y2 with
  | none =>
   have HOK : Hid (ratOK l = false) := Lib.hid (by rw [hok, hf, hg])
   rw [HOK.out]
   have HQ := Lib.hid (fun W => np_none hg W hl2)
   clear hok hf hg hpos
   go_enter Tryz.func100, Tryz.ntmps100
   go_wp2_with fail
   generalize (w.alloc (.cells #[.bool false, .slice none 0 0, .bool false, .slice none 0 0] 34)) = w0 at *
   with_reducible refine Calls.mono (HC.out w0 ht0) ?_
   rintro r w1 ⟨rfl, ht1⟩
   dsimp only
   go_wp2_with fail
   with_reducible refine Calls.mono (HP.out w1) ?_
   rintro r w2 ⟨nb, A, k, c, e, rfl, h1, h2, ht2⟩
   dsimp only
   go_wp2_with fail
   with_reducible refine Calls.mono (HQ.out _) ?_
   rintro r w3 ⟨rfl, ht3⟩
   dsimp only
   have he6 : (e == 6) = false := by
    by_cases hN : N < Top
    ·rw [(h1 hN).1]; rfl
    ·rw [h2 hN]; rfl
   clear h1 h2
   have HBZ := Lib.hid (((((hb0.touch ht1 (by simp)).touch ht2 (by simp)).alloc (.cells #[.bool nb, .slice A k c] 32)).touch ht3 (by simp)).alloc (.cells #[.bool false, .slice none 0 0] 32))
   obtain ⟨p0, p1, p2, p3, pf0, pf1, pf2, pf3⟩ := HBZ.out.four
   go_wp2_with fail
   obtain ⟨k0, k1, k2, k3, kt⟩ := HBZ.out.int4 (.bool false) (.slice none 0 0) (.bool false) (.slice none 0 0)
   refine bodyPost_ret (v := .tuple #[.agg #[.bool false, .slice none 0 0, .bool false, .slice none 0 0], .int .i64 6]) (by simp [results, Tryz.results100, go_sem, k0, k1, k2, k3]) rfl ⟨false, none, 0, 0, false, none, 0, 0, 6, rfl, by simp, (Touch.step ((((((ht0.then0 ht1).then0 ht2).alloc (.cells #[.bool nb, .slice A k c] 32)).then0 ht3)).alloc _) kt (fun m hm => .inr (by rw [List.mem_singleton] at hm; omega)))⟩
  | some x =>
   obtain ⟨n2, M⟩ := x
   obtain ⟨-, hn2, -, hpos2⟩ := formI_inv hg
   have HQ := Lib.hid (fun W => np_some hg W hl2)
   rw [hf, hg] at hok
   dsimp only at hok
   rw [← hn2] at HH
   clear hf hg hn2
   cases n2 with
   | true =>
    have HOK : Hid (ratOK l = false) := Lib.hid (by rw [hok]; simp)
    rw [HOK.out]
    clear hok hpos hpos2
    go_enter Tryz.func100, Tryz.ntmps100
    go_wp2_with fail
    generalize (w.alloc (.cells #[.bool false, .slice none 0 0, .bool false, .slice none 0 0] 34)) = w0 at *
    with_reducible refine Calls.mono (HC.out w0 ht0) ?_
    rintro r w1 ⟨rfl, ht1⟩
    dsimp only
    go_wp2_with fail
    with_reducible refine Calls.mono (HP.out w1) ?_
    rintro r w2 ⟨nb, A, k, c, e, rfl, h1, h2, ht2⟩
    dsimp only
    go_wp2_with fail
    with_reducible refine Calls.mono (HQ.out _) ?_
    rintro r w3 ⟨nd, B, k5, c5, e5, rfl, h3, h4, ht3⟩
    dsimp only
    have he6 : (e == 6) = false := by
     by_cases hN : N < Top
     ·rw [(h1 hN).1]; rfl
     ·rw [h2 hN]; rfl
    have hd6 : (e5 == 6) = false := by
     by_cases hN : M < Top
     ·rw [(h3 hN).1]; rfl
     ·rw [h4 hN]; rfl
    clear h1 h2 h3 h4
    go_wp2_with fail
    with_reducible refine Calls.mono (HH.out _) ?_
    rintro r w4 ⟨rfl, rfl⟩
    dsimp only
    have HBZ := Lib.hid (((((hb0.touch ht1 (by simp)).touch ht2 (by simp)).alloc (.cells #[.bool nb, .slice A k c] 32)).touch ht3 (by simp)).alloc (.cells #[.bool nd, .slice B k5 c5] 32))
    obtain ⟨p0, p1, p2, p3, pf0, pf1, pf2, pf3⟩ := HBZ.out.four
    go_wp2_with fail
    obtain ⟨k0, k1, k2, k3, kt⟩ := HBZ.out.int4 (.bool false) (.slice none 0 0) (.bool false) (.slice none 0 0)
    refine bodyPost_ret (v := .tuple #[.agg #[.bool false, .slice none 0 0, .bool false, .slice none 0 0], .int .i64 6]) (by simp [results, Tryz.results100, go_sem, k0, k1, k2, k3]) rfl ⟨false, none, 0, 0, false, none, 0, 0, 6, rfl, by simp, (Touch.step ((((((ht0.then0 ht1).then0 ht2).alloc (.cells #[.bool nb, .slice A k c] 32)).then0 ht3)).alloc _) kt (fun m hm => .inr (by rw [List.mem_singleton] at hm; omega)))⟩
   | false =>
    by_cases hM : M < Top
    ·by_cases hM1 : 1 < M
     ·by_cases hN : N < Top
      ·by_cases hgc : Nat.gcd N M = 1
       ·have HOK : Hid (ratOK l = true) := Lib.hid (by rw [hok]; simp only [Bool.and_eq_true, decide_eq_true_eq]; exact ⟨⟨⟨⟨hN, hM⟩, rfl⟩, hM1⟩, hgc⟩)
        have HVB : Hid (okQ n (dg N) false (dg M) = true) := Lib.hid (okQ_dg hN hM (by omega) hpos hgc)
        rw [HOK.out]
        have HN := Lib.hid hN
        have HM := Lib.hid hM
        have HCI : Hid (cmpI M 1 = 1) := Lib.hid (cmp_gt hM1)
        clear hok hpos hpos2 hgc hN hM
        go_enter Tryz.func100, Tryz.ntmps100
        go_wp2_with fail
        generalize (w.alloc (.cells #[.bool false, .slice none 0 0, .bool false, .slice none 0 0] 34)) = w0 at *
        with_reducible refine Calls.mono (HC.out w0 ht0) ?_
        rintro r w1 ⟨rfl, ht1⟩
        dsimp only
        go_wp2_with fail
        with_reducible refine Calls.mono (HP.out w1) ?_
        rintro r w2 ⟨nb, A, k, c, e, rfl, h1, h2, ht2⟩
        dsimp only
        go_wp2_with fail
        with_reducible refine Calls.mono (HQ.out _) ?_
        rintro r w3 ⟨nd, B, k5, c5, e5, rfl, h3, h4, ht3⟩
        dsimp only
        obtain ⟨rfl, rfl, hD⟩ := h3 HM.out
        have HDM := Lib.hid hD
        clear hD
        obtain ⟨rfl, rfl, hD⟩ := h1 HN.out
        have HDN := Lib.hid hD
        clear hD
        clear h1 h2 h3 h4
        go_wp2_with fail
        with_reducible refine Calls.mono (HH.out _) ?_
        rintro r w4 ⟨rfl, rfl⟩
        dsimp only
        go_wp2_with fail
        have HB3 := Lib.hid (((((hb0.touch ht1 (by simp)).touch ht2 (by simp)).alloc (.cells #[.bool nb, .slice A k c] 32)).touch ht3 (by simp)).alloc (.cells #[.bool false, .slice B k5 c5] 32))
        have HT3 := Lib.hid ((((((ht0.then0 ht1).then0 ht2).alloc (.cells #[.bool nb, .slice A k c] 32)).then0 ht3)).alloc (.cells #[.bool false, .slice B k5 c5] 32))
        have HC9 := Lib.hid (fun W (t : Touch [] (w3.alloc (.cells #[.bool false, .slice B k5 c5] 32)) W) => (Blk.new w3 32 #[.bool false, .slice B k5 c5]).icell t)
        have HC7 := Lib.hid (fun W (t : Touch [] (w3.alloc (.cells #[.bool false, .slice B k5 c5] 32)) W) => (Blk.new w2 32 #[.bool nb, .slice A k c]).icell ((ht3.alloc _).then0 t))
        have HDN3 := Lib.hid (HDN.out.touch0 ((((Touch.refl _ _).alloc (.cells #[.bool nb, .slice A k c] 32)).then0 ht3).alloc (.cells #[.bool false, .slice B k5 c5] 32)))
        have HDM3 := Lib.hid (HDM.out.touch0 ((Touch.refl _ _).alloc (.cells #[.bool false, .slice B k5 c5] 32)))
        generalize (w3.alloc (.cells #[.bool false, .slice B k5 c5] 32)) = w4 at *
        have HCM : Hid (∀ W d2, Touch [] w4 W → Dgs W d2 (dg 1) → Calls Tryz.prog 78 #[.agg #[.bool false, .slice B k5 c5], .agg #[.bool false, d2]] W fun r w' => r = .returned (.int .i64 (cmpI M 1)) ∧ Touch [] W w') := Lib.hid (fun W d2 t h => nCmp_any _ _ M 1 W (HDM3.out.touch0 t) h HM.out (show 1 < Top by unfold Top; exact Nat.one_lt_pow (by omega) (by omega)))
        rw [HCI.out] at HCM
        generalize w3.heap.size = g9 at *
        have hT := (Touch.refl [] w4).drew
        clear hb0 ht0 ht1 ht2 ht3
        go_region_held3 (fun W' => W'.cell? ⟨g9, 0, none⟩ = some (.bool false) ∧ W'.cell? ⟨g9, 1, none⟩ = some (.slice B k5 c5)) (exact HC9.out _ hT) (first
         | (go_at_call 79; with_reducible refine (nOf1_any _).mono ?_; rintro r w6 ⟨x6, rfl, hx6, ht6⟩; obtain ⟨A6, m6, c6, e6, hd6⟩ := hx6.ex; subst e6; (try dsimp only); have HD6 := Lib.hid hd6; replace hT := hT.then0 ht6; clear ht6 hd6 hx6)
         | (go_at_call 78; with_reducible refine (HCM.out _ _ hT HD6.out).mono ?_; rintro r w7 ⟨rfl, ht7⟩; (try dsimp only); replace hT := hT.then0 ht7; clear ht7))
        all_goals
         obtain ⟨n0, n1⟩ := HC7.out _ hT
         obtain ⟨m0, m1⟩ := HC9.out _ hT
         go_wp2_with fail
         refine (qValid_any nb false (.slice A k c) (.slice B k5 c5) (dg N) (dg M) _ (HDN3.out.touch0 (hT.alloc _)) (HDM3.out.touch0 (hT.alloc _))).mono ?_
         rintro r w8 ⟨rfl, ht8⟩
         rw [HVB.out]
         clear n0 n1 m0 m1
         have HB8 := Lib.hid (((HB3.out.touch hT (by simp)).alloc (.cells #[.bool nb, .slice A k c, .bool false, .slice B k5 c5] 34)).touch ht8 (by simp))
         obtain ⟨p0, p1, p2, p3, pf0, pf1, pf2, pf3⟩ := HB8.out.four
         obtain ⟨r0, r1, r2, r3, -⟩ := (Blk.touch (Blk.new w7 34 #[.bool nb, .slice A k c, .bool false, .slice B k5 c5]) ht8 (by simp)).four
         have HT8 := Lib.hid (((HT3.out.then0 hT).alloc (.cells #[.bool nb, .slice A k c, .bool false, .slice B k5 c5] 34)).then0 ht8)
         clear hT ht8
         go_wp2_with fail
         obtain ⟨k0, k1, k2, k3, kt⟩ := HB8.out.int4 (.bool nb) (.slice A k c) (.bool false) (.slice B k5 c5)
         refine bodyPost_ret (v := .tuple #[.agg #[.bool nb, .slice A k c, .bool false, .slice B k5 c5], .int .i64 0]) (by simp [results, Tryz.results100, go_sem, k0, k1, k2, k3]) rfl ⟨nb, A, k, c, false, B, k5, c5, 0, rfl, by simp, HT8.out.step kt (fun m hm => .inr (by rw [List.mem_singleton] at hm; omega))⟩
       ·have HOK : Hid (ratOK l = false) := Lib.hid (by rw [hok]; simp [hgc])
        have HVB : Hid (okQ n (dg N) false (dg M) = false) := Lib.hid (by
         cases h : okQ n (dg N) false (dg M) with
         | false => rfl
         | true =>
          obtain ⟨A', B', e1, e2, -, -, -, -, -, e3⟩ := okQ_inv (dg_below N) (dg_below M) h
          have e4 := congrArg dv e1
          have e5 := congrArg dv e2
          rw [dv_dg, dv_dg] at e4 e5
          rw [← e4, ← e5] at e3
          exact absurd e3 hgc)
        rw [HOK.out]
        have HN := Lib.hid hN
        have HM := Lib.hid hM
        have HCI : Hid (cmpI M 1 = 1) := Lib.hid (cmp_gt hM1)
        clear hok hpos hpos2 hgc hN hM
        go_enter Tryz.func100, Tryz.ntmps100
        go_wp2_with fail
        generalize (w.alloc (.cells #[.bool false, .slice none 0 0, .bool false, .slice none 0 0] 34)) = w0 at *
        with_reducible refine Calls.mono (HC.out w0 ht0) ?_
        rintro r w1 ⟨rfl, ht1⟩
        dsimp only
        go_wp2_with fail
        with_reducible refine Calls.mono (HP.out w1) ?_
        rintro r w2 ⟨nb, A, k, c, e, rfl, h1, h2, ht2⟩
        dsimp only
        go_wp2_with fail
        with_reducible refine Calls.mono (HQ.out _) ?_
        rintro r w3 ⟨nd, B, k5, c5, e5, rfl, h3, h4, ht3⟩
        dsimp only
        obtain ⟨rfl, rfl, hD⟩ := h3 HM.out
        have HDM := Lib.hid hD
        clear hD
        obtain ⟨rfl, rfl, hD⟩ := h1 HN.out
        have HDN := Lib.hid hD
        clear hD
        clear h1 h2 h3 h4
        go_wp2_with fail
        with_reducible refine Calls.mono (HH.out _) ?_
        rintro r w4 ⟨rfl, rfl⟩
        dsimp only
        go_wp2_with fail
        have HB3 := Lib.hid (((((hb0.touch ht1 (by simp)).touch ht2 (by simp)).alloc (.cells #[.bool nb, .slice A k c] 32)).touch ht3 (by simp)).alloc (.cells #[.bool false, .slice B k5 c5] 32))
        have HT3 := Lib.hid ((((((ht0.then0 ht1).then0 ht2).alloc (.cells #[.bool nb, .slice A k c] 32)).then0 ht3)).alloc (.cells #[.bool false, .slice B k5 c5] 32))
        have HC9 := Lib.hid (fun W (t : Touch [] (w3.alloc (.cells #[.bool false, .slice B k5 c5] 32)) W) => (Blk.new w3 32 #[.bool false, .slice B k5 c5]).icell t)
        have HC7 := Lib.hid (fun W (t : Touch [] (w3.alloc (.cells #[.bool false, .slice B k5 c5] 32)) W) => (Blk.new w2 32 #[.bool nb, .slice A k c]).icell ((ht3.alloc _).then0 t))
        have HDN3 := Lib.hid (HDN.out.touch0 ((((Touch.refl _ _).alloc (.cells #[.bool nb, .slice A k c] 32)).then0 ht3).alloc (.cells #[.bool false, .slice B k5 c5] 32)))
        have HDM3 := Lib.hid (HDM.out.touch0 ((Touch.refl _ _).alloc (.cells #[.bool false, .slice B k5 c5] 32)))
        generalize (w3.alloc (.cells #[.bool false, .slice B k5 c5] 32)) = w4 at *
        have HCM : Hid (∀ W d2, Touch [] w4 W → Dgs W d2 (dg 1) → Calls Tryz.prog 78 #[.agg #[.bool false, .slice B k5 c5], .agg #[.bool false, d2]] W fun r w' => r = .returned (.int .i64 (cmpI M 1)) ∧ Touch [] W w') := Lib.hid (fun W d2 t h => nCmp_any _ _ M 1 W (HDM3.out.touch0 t) h HM.out (show 1 < Top by unfold Top; exact Nat.one_lt_pow (by omega) (by omega)))
        rw [HCI.out] at HCM
        generalize w3.heap.size = g9 at *
        have hT := (Touch.refl [] w4).drew
        clear hb0 ht0 ht1 ht2 ht3
        go_region_held3 (fun W' => W'.cell? ⟨g9, 0, none⟩ = some (.bool false) ∧ W'.cell? ⟨g9, 1, none⟩ = some (.slice B k5 c5)) (exact HC9.out _ hT) (first
         | (go_at_call 79; with_reducible refine (nOf1_any _).mono ?_; rintro r w6 ⟨x6, rfl, hx6, ht6⟩; obtain ⟨A6, m6, c6, e6, hd6⟩ := hx6.ex; subst e6; (try dsimp only); have HD6 := Lib.hid hd6; replace hT := hT.then0 ht6; clear ht6 hd6 hx6)
         | (go_at_call 78; with_reducible refine (HCM.out _ _ hT HD6.out).mono ?_; rintro r w7 ⟨rfl, ht7⟩; (try dsimp only); replace hT := hT.then0 ht7; clear ht7))
        all_goals
         obtain ⟨n0, n1⟩ := HC7.out _ hT
         obtain ⟨m0, m1⟩ := HC9.out _ hT
         go_wp2_with fail
         refine (qValid_any nb false (.slice A k c) (.slice B k5 c5) (dg N) (dg M) _ (HDN3.out.touch0 (hT.alloc _)) (HDM3.out.touch0 (hT.alloc _))).mono ?_
         rintro r w8 ⟨rfl, ht8⟩
         rw [HVB.out]
         clear n0 n1 m0 m1
         have HBZ := Lib.hid (((HB3.out.touch hT (by simp)).alloc (.cells #[.bool nb, .slice A k c, .bool false, .slice B k5 c5] 34)).touch ht8 (by simp))
         obtain ⟨p0, p1, p2, p3, pf0, pf1, pf2, pf3⟩ := HBZ.out.four
         go_wp2_with fail
         obtain ⟨k0, k1, k2, k3, kt⟩ := HBZ.out.int4 (.bool false) (.slice none 0 0) (.bool false) (.slice none 0 0)
         refine bodyPost_ret (v := .tuple #[.agg #[.bool false, .slice none 0 0, .bool false, .slice none 0 0], .int .i64 6]) (by simp [results, Tryz.results100, go_sem, k0, k1, k2, k3]) rfl ⟨false, none, 0, 0, false, none, 0, 0, 6, rfl, by simp, (Touch.step (((HT3.out.then0 hT).alloc (.cells #[.bool nb, .slice A k c, .bool false, .slice B k5 c5] 34)).then0 ht8) kt (fun m hm => .inr (by rw [List.mem_singleton] at hm; omega)))⟩
      ·have HOK : Hid (ratOK l = false) := Lib.hid (by rw [hok]; have : ¬ N < 256 ^ 64 := hN; simp [this])
       rw [HOK.out]
       have HN := Lib.hid hN
       have HM := Lib.hid hM
       have HCI : Hid (cmpI M 1 = 1) := Lib.hid (cmp_gt hM1)
       clear hok hpos hpos2 hN hM
       go_enter Tryz.func100, Tryz.ntmps100
       go_wp2_with fail
       generalize (w.alloc (.cells #[.bool false, .slice none 0 0, .bool false, .slice none 0 0] 34)) = w0 at *
       with_reducible refine Calls.mono (HC.out w0 ht0) ?_
       rintro r w1 ⟨rfl, ht1⟩
       dsimp only
       go_wp2_with fail
       with_reducible refine Calls.mono (HP.out w1) ?_
       rintro r w2 ⟨nb, A, k, c, e, rfl, h1, h2, ht2⟩
       dsimp only
       go_wp2_with fail
       with_reducible refine Calls.mono (HQ.out _) ?_
       rintro r w3 ⟨nd, B, k5, c5, e5, rfl, h3, h4, ht3⟩
       dsimp only
       obtain ⟨rfl, rfl, hD⟩ := h3 HM.out
       have HDM := Lib.hid hD
       clear hD
       obtain rfl := h2 HN.out
       clear h1 h2 h3 h4
       go_wp2_with fail
       with_reducible refine Calls.mono (HH.out _) ?_
       rintro r w4 ⟨rfl, rfl⟩
       dsimp only
       go_wp2_with fail
       have HB3 := Lib.hid (((((hb0.touch ht1 (by simp)).touch ht2 (by simp)).alloc (.cells #[.bool nb, .slice A k c] 32)).touch ht3 (by simp)).alloc (.cells #[.bool false, .slice B k5 c5] 32))
       have HT3 := Lib.hid ((((((ht0.then0 ht1).then0 ht2).alloc (.cells #[.bool nb, .slice A k c] 32)).then0 ht3)).alloc (.cells #[.bool false, .slice B k5 c5] 32))
       have HC9 := Lib.hid (fun W (t : Touch [] (w3.alloc (.cells #[.bool false, .slice B k5 c5] 32)) W) => (Blk.new w3 32 #[.bool false, .slice B k5 c5]).icell t)
       have HDM3 := Lib.hid (HDM.out.touch0 ((Touch.refl _ _).alloc (.cells #[.bool false, .slice B k5 c5] 32)))
       generalize (w3.alloc (.cells #[.bool false, .slice B k5 c5] 32)) = w4 at *
       have HCM : Hid (∀ W d2, Touch [] w4 W → Dgs W d2 (dg 1) → Calls Tryz.prog 78 #[.agg #[.bool false, .slice B k5 c5], .agg #[.bool false, d2]] W fun r w' => r = .returned (.int .i64 (cmpI M 1)) ∧ Touch [] W w') := Lib.hid (fun W d2 t h => nCmp_any _ _ M 1 W (HDM3.out.touch0 t) h HM.out (show 1 < Top by unfold Top; exact Nat.one_lt_pow (by omega) (by omega)))
       rw [HCI.out] at HCM
       generalize w3.heap.size = g9 at *
       have hT := (Touch.refl [] w4).drew
       clear hb0 ht0 ht1 ht2 ht3
       go_region_held3 (fun W' => W'.cell? ⟨g9, 0, none⟩ = some (.bool false) ∧ W'.cell? ⟨g9, 1, none⟩ = some (.slice B k5 c5)) (exact HC9.out _ hT) (first
        | (go_at_call 79; with_reducible refine (nOf1_any _).mono ?_; rintro r w6 ⟨x6, rfl, hx6, ht6⟩; obtain ⟨A6, m6, c6, e6, hd6⟩ := hx6.ex; subst e6; (try dsimp only); have HD6 := Lib.hid hd6; replace hT := hT.then0 ht6; clear ht6 hd6 hx6)
        | (go_at_call 78; with_reducible refine (HCM.out _ _ hT HD6.out).mono ?_; rintro r w7 ⟨rfl, ht7⟩; (try dsimp only); replace hT := hT.then0 ht7; clear ht7))
       all_goals
        have HBZ := Lib.hid (HB3.out.touch hT (by simp))
        obtain ⟨p0, p1, p2, p3, pf0, pf1, pf2, pf3⟩ := HBZ.out.four
        go_wp2_with fail
        obtain ⟨k0, k1, k2, k3, kt⟩ := HBZ.out.int4 (.bool false) (.slice none 0 0) (.bool false) (.slice none 0 0)
        refine bodyPost_ret (v := .tuple #[.agg #[.bool false, .slice none 0 0, .bool false, .slice none 0 0], .int .i64 7]) (by simp [results, Tryz.results100, go_sem, k0, k1, k2, k3]) rfl ⟨false, none, 0, 0, false, none, 0, 0, 7, rfl, by simp, (Touch.step (HT3.out.then0 hT) kt (fun m hm => .inr (by rw [List.mem_singleton] at hm; omega)))⟩
     ·have HOK : Hid (ratOK l = false) := Lib.hid (by rw [hok]; simp [hM1])
      rw [HOK.out]
      have HM := Lib.hid hM
      obtain ⟨cv, hcv, hcl⟩ : ∃ cv, cmpI M 1 = cv ∧ (cv ≤ 0) = True := ⟨_, rfl, eq_true (by
       rcases Nat.lt_or_ge M 1 with h | h
       ·rw [cmp_lt h]; omega
       ·rw [cmp_eq (show M = 1 by omega)]; omega)⟩
      have HCI := Lib.hid hcv
      clear hok hpos hpos2 hM hcv
      go_enter Tryz.func100, Tryz.ntmps100
      go_wp2_with fail
      generalize (w.alloc (.cells #[.bool false, .slice none 0 0, .bool false, .slice none 0 0] 34)) = w0 at *
      with_reducible refine Calls.mono (HC.out w0 ht0) ?_
      rintro r w1 ⟨rfl, ht1⟩
      dsimp only
      go_wp2_with fail
      with_reducible refine Calls.mono (HP.out w1) ?_
      rintro r w2 ⟨nb, A, k, c, e, rfl, h1, h2, ht2⟩
      dsimp only
      go_wp2_with fail
      with_reducible refine Calls.mono (HQ.out _) ?_
      rintro r w3 ⟨nd, B, k5, c5, e5, rfl, h3, h4, ht3⟩
      dsimp only
      have he6 : (e == 6) = false := by
       by_cases hN : N < Top
       ·rw [(h1 hN).1]; rfl
       ·rw [h2 hN]; rfl
      obtain ⟨rfl, rfl, hD⟩ := h3 HM.out
      have HDM := Lib.hid hD
      clear hD
      clear h1 h2 h3 h4
      go_wp2_with fail
      with_reducible refine Calls.mono (HH.out _) ?_
      rintro r w4 ⟨rfl, rfl⟩
      dsimp only
      go_wp2_with fail
      have HB3 := Lib.hid (((((hb0.touch ht1 (by simp)).touch ht2 (by simp)).alloc (.cells #[.bool nb, .slice A k c] 32)).touch ht3 (by simp)).alloc (.cells #[.bool false, .slice B k5 c5] 32))
      have HT3 := Lib.hid ((((((ht0.then0 ht1).then0 ht2).alloc (.cells #[.bool nb, .slice A k c] 32)).then0 ht3)).alloc (.cells #[.bool false, .slice B k5 c5] 32))
      have HC9 := Lib.hid (fun W (t : Touch [] (w3.alloc (.cells #[.bool false, .slice B k5 c5] 32)) W) => (Blk.new w3 32 #[.bool false, .slice B k5 c5]).icell t)
      have HDM3 := Lib.hid (HDM.out.touch0 ((Touch.refl _ _).alloc (.cells #[.bool false, .slice B k5 c5] 32)))
      generalize (w3.alloc (.cells #[.bool false, .slice B k5 c5] 32)) = w4 at *
      have HCM : Hid (∀ W d2, Touch [] w4 W → Dgs W d2 (dg 1) → Calls Tryz.prog 78 #[.agg #[.bool false, .slice B k5 c5], .agg #[.bool false, d2]] W fun r w' => r = .returned (.int .i64 (cmpI M 1)) ∧ Touch [] W w') := Lib.hid (fun W d2 t h => nCmp_any _ _ M 1 W (HDM3.out.touch0 t) h HM.out (show 1 < Top by unfold Top; exact Nat.one_lt_pow (by omega) (by omega)))
      rw [HCI.out] at HCM
      generalize w3.heap.size = g9 at *
      have hT := (Touch.refl [] w4).drew
      clear hb0 ht0 ht1 ht2 ht3
      go_region_held3 (fun W' => W'.cell? ⟨g9, 0, none⟩ = some (.bool false) ∧ W'.cell? ⟨g9, 1, none⟩ = some (.slice B k5 c5)) (exact HC9.out _ hT) (first
       | (go_at_call 79; with_reducible refine (nOf1_any _).mono ?_; rintro r w6 ⟨x6, rfl, hx6, ht6⟩; obtain ⟨A6, m6, c6, e6, hd6⟩ := hx6.ex; subst e6; (try dsimp only); have HD6 := Lib.hid hd6; replace hT := hT.then0 ht6; clear ht6 hd6 hx6)
       | (go_at_call 78; with_reducible refine (HCM.out _ _ hT HD6.out).mono ?_; rintro r w7 ⟨rfl, ht7⟩; (try dsimp only); replace hT := hT.then0 ht7; clear ht7))
      all_goals
       have HBZ := Lib.hid (HB3.out.touch hT (by simp))
       obtain ⟨p0, p1, p2, p3, pf0, pf1, pf2, pf3⟩ := HBZ.out.four
       go_wp2_with fail
       obtain ⟨k0, k1, k2, k3, kt⟩ := HBZ.out.int4 (.bool false) (.slice none 0 0) (.bool false) (.slice none 0 0)
       refine bodyPost_ret (v := .tuple #[.agg #[.bool false, .slice none 0 0, .bool false, .slice none 0 0], .int .i64 6]) (by simp [results, Tryz.results100, go_sem, k0, k1, k2, k3]) rfl ⟨false, none, 0, 0, false, none, 0, 0, 6, rfl, by simp, (Touch.step (HT3.out.then0 hT) kt (fun m hm => .inr (by rw [List.mem_singleton] at hm; omega)))⟩
    ·have HOK : Hid (ratOK l = false) := Lib.hid (by rw [hok]; have : ¬ M < 256 ^ 64 := hM; simp [this])
     rw [HOK.out]
     have HM := Lib.hid hM
     clear hok hpos hpos2 hM
     by_cases hN : N < Top
     ·have HN := Lib.hid hN
      clear hN
      go_enter Tryz.func100, Tryz.ntmps100
      go_wp2_with fail
      generalize (w.alloc (.cells #[.bool false, .slice none 0 0, .bool false, .slice none 0 0] 34)) = w0 at *
      with_reducible refine Calls.mono (HC.out w0 ht0) ?_
      rintro r w1 ⟨rfl, ht1⟩
      dsimp only
      go_wp2_with fail
      with_reducible refine Calls.mono (HP.out w1) ?_
      rintro r w2 ⟨nb, A, k, c, e, rfl, h1, h2, ht2⟩
      dsimp only
      go_wp2_with fail
      with_reducible refine Calls.mono (HQ.out _) ?_
      rintro r w3 ⟨nd, B, k5, c5, e5, rfl, h3, h4, ht3⟩
      dsimp only
      obtain rfl := h4 HM.out
      obtain ⟨rfl, rfl, hD⟩ := h1 HN.out
      have HDN := Lib.hid hD
      clear hD
      clear h1 h2 h3 h4
      go_wp2_with fail
      with_reducible refine Calls.mono (HH.out _) ?_
      rintro r w4 ⟨rfl, rfl⟩
      dsimp only
      go_wp2_with fail
      have HB3 := Lib.hid (((((hb0.touch ht1 (by simp)).touch ht2 (by simp)).alloc (.cells #[.bool nb, .slice A k c] 32)).touch ht3 (by simp)).alloc (.cells #[.bool nd, .slice B k5 c5] 32))
      have HT3 := Lib.hid ((((((ht0.then0 ht1).then0 ht2).alloc (.cells #[.bool nb, .slice A k c] 32)).then0 ht3)).alloc (.cells #[.bool nd, .slice B k5 c5] 32))
      generalize (w3.alloc (.cells #[.bool nd, .slice B k5 c5] 32)) = w4 at *
      clear hb0 ht0 ht1 ht2 ht3
      have hT := (Touch.refl [] w4).drew
      refine wp_region_held_drew (S := fun _ => True) (by kernel_rfl) trivial (fun hS => ?_)
      refine wpAnyH_take (i := 0) (v := ?_) rfl (by kernel_rfl) (by kernel_rfl) (by kernel_rfl) (fun _ _ _ h => h) (Or.inl ⟨by rfl, ?_⟩) hS ?_
      rotate_left
      ·(intro W hSW; go_simp <;> with_reducible rfl)
      simp only [nz]
      refine wpAnyH_take (i := 1) (v := ?_) rfl (by kernel_rfl) (by kernel_rfl) (by kernel_rfl) (fun _ _ _ h => h) (Or.inl ⟨by rfl, ?_⟩) hS ?_
      rotate_left
      ·(intro W hSW; go_simp <;> with_reducible rfl)
      simp only [nz]
      refine wpAnyH_take (i := 2) (v := ?_) rfl (by kernel_rfl) (by kernel_rfl) (by kernel_rfl) (fun _ _ _ h => h) (Or.inl ⟨by rfl, ?_⟩) hS ?_
      rotate_left
      ·(intro W hSW; go_simp <;> with_reducible rfl)
      simp only [nz]
      refine wpAnyH_take (i := 3) (v := undef) rfl (by kernel_rfl) (by kernel_rfl) (by kernel_rfl) (fun _ _ _ h => h) (Or.inr ⟨by rfl, rfl⟩) hS ?_
      simp only [nz]
      refine wpAnyH_take (i := 4) (v := undef) rfl (by kernel_rfl) (by kernel_rfl) (by kernel_rfl) (fun _ _ _ h => h) (Or.inr ⟨by rfl, rfl⟩) hS ?_
      simp only [nz]
      refine wpAnyH_take (i := 5) (v := undef) rfl (by kernel_rfl) (by kernel_rfl) (by kernel_rfl) (fun _ _ _ h => h) (Or.inr ⟨by rfl, rfl⟩) hS ?_
      simp only [nz]
      refine wpAnyH_take (i := 6) (v := undef) rfl (by kernel_rfl) (by kernel_rfl) (by kernel_rfl) (fun _ _ _ h => h) (Or.inr ⟨by rfl, rfl⟩) hS ?_
      simp only [nz]
      refine wpAnyH_take (i := 7) (v := ?_) rfl (by kernel_rfl) (by kernel_rfl) (by kernel_rfl) (fun _ _ _ h => h) (Or.inl ⟨by rfl, ?_⟩) hS ?_
      rotate_left
      ·(intro W hSW; go_simp <;> with_reducible rfl)
      simp only [nz]
      refine wpAnyH_take (i := 8) (v := ?_) rfl (by kernel_rfl) (by kernel_rfl) (by kernel_rfl) (fun _ _ _ h => h) (Or.inl ⟨by rfl, ?_⟩) hS ?_
      rotate_left
      ·(intro W hSW; go_simp <;> with_reducible rfl)
      simp only [nz]
      refine wpAnyH_done (by kernel_rfl) ?_ _
      have HBZ := Lib.hid (HB3.out)
      obtain ⟨p0, p1, p2, p3, pf0, pf1, pf2, pf3⟩ := HBZ.out.four
      go_wp2_with fail
      obtain ⟨k0, k1, k2, k3, kt⟩ := HBZ.out.int4 (.bool false) (.slice none 0 0) (.bool false) (.slice none 0 0)
      refine bodyPost_ret (v := .tuple #[.agg #[.bool false, .slice none 0 0, .bool false, .slice none 0 0], .int .i64 7]) (by simp [results, Tryz.results100, go_sem, k0, k1, k2, k3]) rfl ⟨false, none, 0, 0, false, none, 0, 0, 7, rfl, by simp, (Touch.step (HT3.out) kt (fun m hm => .inr (by rw [List.mem_singleton] at hm; omega))).drew⟩
     ·have HN := Lib.hid hN
      clear hN
      go_enter Tryz.func100, Tryz.ntmps100
      go_wp2_with fail
      generalize (w.alloc (.cells #[.bool false, .slice none 0 0, .bool false, .slice none 0 0] 34)) = w0 at *
      with_reducible refine Calls.mono (HC.out w0 ht0) ?_
      rintro r w1 ⟨rfl, ht1⟩
      dsimp only
      go_wp2_with fail
      with_reducible refine Calls.mono (HP.out w1) ?_
      rintro r w2 ⟨nb, A, k, c, e, rfl, h1, h2, ht2⟩
      dsimp only
      go_wp2_with fail
      with_reducible refine Calls.mono (HQ.out _) ?_
      rintro r w3 ⟨nd, B, k5, c5, e5, rfl, h3, h4, ht3⟩
      dsimp only
      obtain rfl := h4 HM.out
      obtain rfl := h2 HN.out
      clear h1 h2 h3 h4
      go_wp2_with fail
      with_reducible refine Calls.mono (HH.out _) ?_
      rintro r w4 ⟨rfl, rfl⟩
      dsimp only
      go_wp2_with fail
      have HB3 := Lib.hid (((((hb0.touch ht1 (by simp)).touch ht2 (by simp)).alloc (.cells #[.bool nb, .slice A k c] 32)).touch ht3 (by simp)).alloc (.cells #[.bool nd, .slice B k5 c5] 32))
      have HT3 := Lib.hid ((((((ht0.then0 ht1).then0 ht2).alloc (.cells #[.bool nb, .slice A k c] 32)).then0 ht3)).alloc (.cells #[.bool nd, .slice B k5 c5] 32))
      generalize (w3.alloc (.cells #[.bool nd, .slice B k5 c5] 32)) = w4 at *
      clear hb0 ht0 ht1 ht2 ht3
      have hT := (Touch.refl [] w4).drew
      refine wp_region_held_drew (S := fun _ => True) (by kernel_rfl) trivial (fun hS => ?_)
      refine wpAnyH_take (i := 0) (v := ?_) rfl (by kernel_rfl) (by kernel_rfl) (by kernel_rfl) (fun _ _ _ h => h) (Or.inl ⟨by rfl, ?_⟩) hS ?_
      rotate_left
      ·(intro W hSW; go_simp <;> with_reducible rfl)
      simp only [nz]
      refine wpAnyH_take (i := 1) (v := ?_) rfl (by kernel_rfl) (by kernel_rfl) (by kernel_rfl) (fun _ _ _ h => h) (Or.inl ⟨by rfl, ?_⟩) hS ?_
      rotate_left
      ·(intro W hSW; go_simp <;> with_reducible rfl)
      simp only [nz]
      refine wpAnyH_take (i := 2) (v := ?_) rfl (by kernel_rfl) (by kernel_rfl) (by kernel_rfl) (fun _ _ _ h => h) (Or.inl ⟨by rfl, ?_⟩) hS ?_
      rotate_left
      ·(intro W hSW; go_simp <;> with_reducible rfl)
      simp only [nz]
      refine wpAnyH_take (i := 3) (v := undef) rfl (by kernel_rfl) (by kernel_rfl) (by kernel_rfl) (fun _ _ _ h => h) (Or.inr ⟨by rfl, rfl⟩) hS ?_
      simp only [nz]
      refine wpAnyH_take (i := 4) (v := undef) rfl (by kernel_rfl) (by kernel_rfl) (by kernel_rfl) (fun _ _ _ h => h) (Or.inr ⟨by rfl, rfl⟩) hS ?_
      simp only [nz]
      refine wpAnyH_take (i := 5) (v := undef) rfl (by kernel_rfl) (by kernel_rfl) (by kernel_rfl) (fun _ _ _ h => h) (Or.inr ⟨by rfl, rfl⟩) hS ?_
      simp only [nz]
      refine wpAnyH_take (i := 6) (v := undef) rfl (by kernel_rfl) (by kernel_rfl) (by kernel_rfl) (fun _ _ _ h => h) (Or.inr ⟨by rfl, rfl⟩) hS ?_
      simp only [nz]
      refine wpAnyH_take (i := 7) (v := ?_) rfl (by kernel_rfl) (by kernel_rfl) (by kernel_rfl) (fun _ _ _ h => h) (Or.inl ⟨by rfl, ?_⟩) hS ?_
      rotate_left
      ·(intro W hSW; go_simp <;> with_reducible rfl)
      simp only [nz]
      refine wpAnyH_take (i := 8) (v := ?_) rfl (by kernel_rfl) (by kernel_rfl) (by kernel_rfl) (fun _ _ _ h => h) (Or.inl ⟨by rfl, ?_⟩) hS ?_
      rotate_left
      ·(intro W hSW; go_simp <;> with_reducible rfl)
      simp only [nz]
      refine wpAnyH_done (by kernel_rfl) ?_ _
      have HBZ := Lib.hid (HB3.out)
      obtain ⟨p0, p1, p2, p3, pf0, pf1, pf2, pf3⟩ := HBZ.out.four
      go_wp2_with fail
      obtain ⟨k0, k1, k2, k3, kt⟩ := HBZ.out.int4 (.bool false) (.slice none 0 0) (.bool false) (.slice none 0 0)
      refine bodyPost_ret (v := .tuple #[.agg #[.bool false, .slice none 0 0, .bool false, .slice none 0 0], .int .i64 7]) (by simp [results, Tryz.results100, go_sem, k0, k1, k2, k3]) rfl ⟨false, none, 0, 0, false, none, 0, 0, 7, rfl, by simp, (Touch.step (HT3.out) kt (fun m hm => .inr (by rw [List.mem_singleton] at hm; omega))).drew⟩
theorem qParse_any (l : List UInt8) (w : World) (m : Int) (hl : l.length ≤ 65536) (hm : w.cell? ⟨6, 0, none⟩ = some (.int .i64 m)) : Calls Tryz.prog 100 #[.string ⟨l.toArray⟩] w (QpPost (ratOK l) w) := by
 cases h : cutL l with
 | none => exact qParse_none l w m hl hm h
 | some y => exact qParse_some l y w m hl hm h
end Go.Proofs.YtedpaajpfaoffaaGreatDoor
