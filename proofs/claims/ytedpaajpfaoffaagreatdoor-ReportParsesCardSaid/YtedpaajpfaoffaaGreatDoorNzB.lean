/- number: DivMod (by a number above 0; of a number below 0 where nothing is left). -/
import Derived.Test.YtedpaajpfaoffaaGreatDoorNzA
import Derived.BigRegion
import Derived.Laws.BitsAllLaws
import Derived.Test.YtedpaajpfaoffaaGreatDoorMgA
set_option linter.all false
set_option maxHeartbeats 4000000
set_option maxRecDepth 100000
namespace Go.Proofs.YtedpaajpfaoffaaGreatDoor
open Go.RowKit
theorem box2rr (w : World) (n1 n2 : Bool) (d1 d2 : Value) : Touch [] w (((W2I w n1 d1 n2 d2).alloc (.cells #[.bool false, .slice none 0 0] 32)).alloc (.cells #[.bool false, .slice none 0 0] 32)) ∧ ∀ W, Touch [] (((W2I w n1 d1 n2 d2).alloc (.cells #[.bool false, .slice none 0 0] 32)).alloc (.cells #[.bool false, .slice none 0 0] 32)) W → ICell W w.heap.size n1 d1 ∧ ICell W (w.heap.size + 1) n2 d2 ∧ Blk W (w.heap.size + 1 + 1) 32 #[.bool false, .slice none 0 0] ∧ Blk W (w.heap.size + 1 + 1 + 1) 32 #[.bool false, .slice none 0 0] := by
 obtain ⟨t0, h0⟩ := box2r w n1 n2 d1 d2
 have b4 : Blk (((W2I w n1 d1 n2 d2).alloc (.cells #[.bool false, .slice none 0 0] 32)).alloc (.cells #[.bool false, .slice none 0 0] 32)) (w.heap.size + 1 + 1 + 1) 32 #[.bool false, .slice none 0 0] := by
  have := Blk.new ((W2I w n1 d1 n2 d2).alloc (.cells #[.bool false, .slice none 0 0] 32)) 32 #[.bool false, .slice none 0 0]
  simpa using this
 refine ⟨t0.alloc _, fun W t => ?_⟩
 obtain ⟨h1, h2, h3⟩ := h0 W (((Touch.refl _ _).alloc _).then0 t)
 exact ⟨h1, h2, h3, b4.touch t (by simp)⟩
theorem int_res2 {w w3 : World} {g g' N n c N' n' c' : Nat} {t t' : TypeId} {A A' : Option Addr} {x0 x1 y0 y1 : Value} (nb nb' : Bool) (b : Blk w3 g t #[x0, x1]) (b' : Blk w3 g' t' #[y0, y1]) (hgg : g < g') (hg : w.heap.size ≤ g) (ht : Touch [] w w3) (HD : Dgs w3 (.slice A n c) (dg N)) (HD' : Dgs w3 (.slice A' n' c') (dg N')) (hfr : ∀ k ∈ rb (.slice A n c), g' < k) (hfr' : ∀ k ∈ rb (.slice A' n' c'), g' < k)
  (W : World) (hW : W = ((((w3.setCell ⟨g, 0, none⟩ (.bool nb)).setCell ⟨g, 1, none⟩ (.slice A n c)).setCell ⟨g', 0, none⟩ (.bool nb')).setCell ⟨g', 1, none⟩ (.slice A' n' c')).drew) :
  (W.cell? ⟨g, 0, none⟩ = some (.bool nb) ∧ W.cell? ⟨g, 1, none⟩ = some (.slice A n c) ∧ W.cell? ⟨g', 0, none⟩ = some (.bool nb') ∧ W.cell? ⟨g', 1, none⟩ = some (.slice A' n' c')) ∧ IntAt W nb N (.agg #[.bool nb, .slice A n c]) ∧ IntAt W nb' N' (.agg #[.bool nb', .slice A' n' c']) ∧ Touch [] w W := by
 subst hW
 have c1 := ((((b.set_ 0 (.bool nb)).set_ 1 (.slice A n c)).far (p := ⟨g', 0, none⟩) (by show g ≠ g'; omega) (.bool nb')).far (p := ⟨g', 1, none⟩) (by show g ≠ g'; omega) (.slice A' n' c')).drew
 have c2 := ((((b'.far (p := ⟨g, 0, none⟩) (by show g' ≠ g; omega) (.bool nb)).far (p := ⟨g, 1, none⟩) (by show g' ≠ g; omega) (.slice A n c)).set_ 0 (.bool nb')).set_ 1 (.slice A' n' c')).drew
 have kt : Touch [g, g'] w3 ((((w3.setCell ⟨g, 0, none⟩ (.bool nb)).setCell ⟨g, 1, none⟩ (.slice A n c)).setCell ⟨g', 0, none⟩ (.bool nb')).setCell ⟨g', 1, none⟩ (.slice A' n' c')).drew := (((((Touch.refl _ _).setCell (p := ⟨g, 0, none⟩) (.inl (by simp)) _).setCell (p := ⟨g, 1, none⟩) (.inl (by simp)) _).setCell (p := ⟨g', 0, none⟩) (.inl (by simp)) _).setCell (p := ⟨g', 1, none⟩) (.inl (by simp)) _).drew
 refine ⟨⟨(c1.cell 0).trans (by simp), (c1.cell 1).trans (by simp), (c2.cell 0).trans (by simp), (c2.cell 1).trans (by simp)⟩, ⟨A, n, c, rfl, HD.touch kt (fun k hk hm => ?_)⟩, ⟨A', n', c', rfl, HD'.touch kt (fun k hk hm => ?_)⟩, ht.step kt (fun m hm => .inr ?_)⟩
 ·have h1 := hfr k hk
  simp at hm
  omega
 ·have h1 := hfr' k hk
  simp at hm
  omega
 ·simp at hm
  omega
theorem div_top {A B : Nat} (h : A < Top) : A / B < Top := Nat.lt_of_le_of_lt (Nat.div_le_self _ _) h
theorem nDivMod_any (n1 : Bool) (d1 d2 : Value) (A B : Nat) (w : World) (h1 : Dgs w d1 (dg A)) (h2 : Dgs w d2 (dg B)) (hA : A < Top) (hB : B < Top) (s1 : n1 = true → 0 < A) (hB0 : 0 < B) (hr : n1 = true → A % B = 0) :
  Calls Tryz.prog 82 #[.agg #[.bool n1, d1], .agg #[.bool false, d2]] w fun r w' => ∃ x y, r = .returned (.tuple #[x, y, .int .i64 0]) ∧ IntAt w' (sg n1 (A / B)) (A / B) x ∧ IntAt w' false (A % B) y ∧ Touch [] w w' := by
 have HV1 := Lib.hid (fun W (t : Touch [] w W) => okI_dg (n := n1) hA s1 ▸ nValid_any n1 d1 _ W (h1.touch0 t))
 have HV2 := Lib.hid (fun W (t : Touch [] w W) => okI_dg (n := false) hB (by simp) ▸ nValid_any false d2 _ W (h2.touch0 t))
 have HN1 := Lib.hid (fun W (t : Touch [] w W) => natOf_dg d1 A W (h1.touch0 t) hA)
 have HN2 := Lib.hid (fun W (t : Touch [] w W) => natOf_dg d2 B W (h2.touch0 t) hB)
 have HAB := Lib.hid (And.intro hA (And.intro hB hB0))
 have HR0 := Lib.hid hr
 have hl2 := dg_len_pos.2 hB0
 obtain ⟨A1, m1, c1, rfl⟩ := h1.form3
 obtain ⟨A2, c2, rfl⟩ := h2.form
 generalize (dg B).length = m2 at *
 have hm2 : ((m2 : Int) == 0) = false := by simp; omega
 obtain ⟨ht0, hcc⟩ := box2rr w n1 false (.slice A1 m1 c1) (.slice A2 m2 c2)
 unfold W2I at ht0 hcc
 have HC := Lib.hid hcc
 clear h1 h2 hA hB s1 hcc hB0 hr hl2
 go_enter Tryz.func82, Tryz.ntmps82
 go_wp2_with fail
 generalize ((((w.alloc (.cells #[.bool n1, .slice A1 m1 c1] 32)).alloc (.cells #[.bool false, .slice A2 m2 c2] 32)).alloc (.cells #[.bool false, .slice none 0 0] 32)).alloc (.cells #[.bool false, .slice none 0 0] 32)) = w0 at *
 with_reducible refine (HV1.out w0 ht0).mono ?_
 rintro r w1 ⟨rfl, ht1⟩
 obtain ⟨⟨p0, p1⟩, ⟨p2, p3⟩, _⟩ := HC.out w1 ht1
 dsimp only
 go_wp2_with fail
 with_reducible refine (HV2.out w1 (ht0.then0 ht1)).mono ?_
 rintro r w2 ⟨rfl, ht2⟩
 replace ht2 := ht1.then0 ht2
 clear p0 p1 p2 p3 ht1
 dsimp only
 have HT0 := Lib.hid ht0
 clear ht0
 obtain ⟨⟨p0, p1⟩, ⟨p2, p3⟩, _⟩ := HC.out w2 ht2
 go_wp2_with fail
 with_reducible refine (HN2.out _ (HT0.out.then0 ht2)).mono ?_
 rintro r w3 ⟨v3, rfl, hy, ht3⟩
 dsimp only
 replace ht3 := ht2.then0 ht3
 have HY := Lib.hid hy
 obtain ⟨Ay, ny, cy, rfl⟩ := hy.form3
 clear p0 p1 p2 p3 ht2 hy
 obtain ⟨⟨p0, p1⟩, ⟨p2, p3⟩, _⟩ := HC.out w3 ht3
 go_wp2_with fail
 with_reducible refine (HN1.out _ (HT0.out.then0 ht3)).mono ?_
 rintro r w4 ⟨v4, rfl, hx, ht4⟩
 dsimp only
 have HD := Lib.hid (divNat_top v4 (.slice Ay ny cy) A B w4 hx (HY.out.touch0 ht4) HAB.out.1 HAB.out.2.1 HAB.out.2.2)
 obtain ⟨Ax, nx, cx, rfl⟩ := hx.form3
 replace ht4 := ht3.then0 ht4
 clear p0 p1 p2 p3 ht3 hx
 go_wp2_with fail
 with_reducible refine HD.out.mono ?_
 rintro r w5 ⟨q, r', rfl, hq, hr, ht5⟩
 dsimp only
 replace ht5 := ht4.then0 ht5
 have HQ := Lib.hid hq
 have HRR := Lib.hid hr
 obtain ⟨Aq, nq, cq, rfl⟩ := hq.form3
 obtain ⟨Ar, cr, rfl⟩ := hr.form
 clear hq hr ht4
 have hlr : n1 = true → (wordsOf B32 (A % B)).length = 0 := fun h => by rw [HR0.out h]; rfl
 generalize (wordsOf B32 (A % B)).length = nr at *
 have HBQ := Lib.hid (fun nb W (t : Touch [] w5 W) => build_any nb (.slice Aq nq cq) (A / B) W (HQ.out.touch0 t) (len_b32 (div_top HAB.out.1)))
 have HBR := Lib.hid (fun W (t : Touch [] w5 W) => build_any false (.slice Ar nr cr) (A % B) W (HRR.out.touch0 t) (len_b32 (Nat.lt_of_le_of_lt (Nat.mod_le _ _) HAB.out.1)))
 obtain ⟨⟨p0, p1⟩, ⟨p2, p3⟩, _⟩ := HC.out w5 ht5
 cases n1 with
 | false =>
  clear hlr
  go_wp2_with fail
  with_reducible refine (HBQ.out _ w5 (Touch.refl _ _)).mono ?_
  rintro r w6 hpost
  obtain ⟨_, A3, n3, c3, rfl, hd, ht6, hfr⟩ | ⟨h, _⟩ := hpost
  case inr => exact absurd (div_top HAB.out.1) h
  dsimp only
  have HD3 := Lib.hid hd
  have HF3 := Lib.hid hfr
  have HT5 := Lib.hid ht5
  have hta : Touch [] w5 (w6.alloc (.cells #[.bool (sg false (A / B)), .slice A3 n3 c3] 32)) := ht6.alloc _
  have b10 : Blk (w6.alloc (.cells #[.bool (sg false (A / B)), .slice A3 n3 c3] 32)) w6.heap.size 32 #[.bool (sg false (A / B)), .slice A3 n3 c3] := Blk.new _ _ _
  have HTA := Lib.hid (ht5.then0 hta)
  have HS6 := Lib.hid ht6.size
  have HS5 := Lib.hid (And.intro ht5.size HT0.out.size)
  have hs65 : w5.heap.size ≤ w6.heap.size := ht6.size
  clear hd hfr ht5 ht6 p0 p1 p2 p3
  obtain ⟨⟨p0, p1⟩, ⟨p2, p3⟩, _⟩ := HC.out _ HTA.out
  have HBR2 := Lib.hid (HBR.out _ hta)
  have HDA := Lib.hid (HD3.out.touch0 ((Touch.refl [] w6).alloc (.cells #[.bool (sg false (A / B)), .slice A3 n3 c3] 32)))
  clear hta
  go_wp2_with fail
  generalize hwa : (w6.alloc (.cells #[.bool (sg false (A / B)), .slice A3 n3 c3] 32)) = wa at *
  have HWA : Hid (wa.heap.size = w6.heap.size + 1) := Lib.hid (by rw [← hwa]; simp)
  clear hwa
  with_reducible refine HBR2.out.mono ?_
  rintro r w7 hpost
  obtain ⟨_, A4, n4, c4, rfl, hd, ht7, hfr⟩ | ⟨h, _⟩ := hpost
  case inr => exact absurd (Nat.lt_of_le_of_lt (Nat.mod_le _ _) HAB.out.1) h
  dsimp only
  have HD4 := Lib.hid hd
  have HF4 := Lib.hid hfr
  have b10' := b10.touch ht7 (by simp)
  have hs7 : w6.heap.size < w7.heap.size := b10'.lt
  have hT := HTA.out.then0 ht7
  obtain ⟨_, _, b4, b5⟩ := HC.out _ hT
  have b12 : Blk (w7.alloc (.cells #[.bool (sg false (A % B)), .slice A4 n4 c4] 32)) w7.heap.size 32 #[.bool (sg false (A % B)), .slice A4 n4 c4] := Blk.new _ _ _
  replace b10 := b10'.alloc (.cells #[.bool (sg false (A % B)), .slice A4 n4 c4] 32)
  replace b4 := b4.alloc (.cells #[.bool (sg false (A % B)), .slice A4 n4 c4] 32)
  replace b5 := b5.alloc (.cells #[.bool (sg false (A % B)), .slice A4 n4 c4] 32)
  have HD3' := Lib.hid (HDA.out.touch0 (ht7.alloc (.cells #[.bool (sg false (A % B)), .slice A4 n4 c4] 32)))
  have HD4' := Lib.hid (HD4.out.touch0 ((Touch.refl [] w7).alloc (.cells #[.bool (sg false (A % B)), .slice A4 n4 c4] 32)))
  have HTT := Lib.hid ((HT0.out.then0 hT).alloc (.cells #[.bool (sg false (A % B)), .slice A4 n4 c4] 32))
  have hne : w.heap.size + 1 + 1 + 1 < w6.heap.size := by
   have h1 := (HC.out _ HT5.out).2.2.2.lt
   omega
  have HSZ : Hid (w.heap.size + 1 + 1 + 1 < w5.heap.size ∧ w5.heap.size ≤ wa.heap.size) := Lib.hid ⟨(HC.out _ HT5.out).2.2.2.lt, by have := HWA.out; omega⟩
  clear hd hfr ht7 b10' p0 p1 p2 p3 hT
  go_wp2_with fail
  generalize (w7.alloc (.cells #[.bool (sg false (A % B)), .slice A4 n4 c4] 32)) = w8 at *
  have q0 := b10.cell 0
  have q1 := b10.cell 1
  have s0 := b12.cell 0
  have s1 := b12.cell 1
  have r2 := b4.frozen 0
  have r3 := b4.frozen 1
  have r6 := b5.frozen 0
  have r7 := b5.frozen 1
  have r0 := b4.cell 0
  have r1 := b4.cell 1
  have r4 := b5.cell 0
  have r5 := b5.cell 1
  simp at q0 q1 s0 s1 r0 r1 r4 r5
  have HB4 := Lib.hid b4
  have HB5 := Lib.hid b5
  clear b4 b5 b10 b12
  generalize w7.heap.size = g7 at *
  generalize w6.heap.size = g6 at *
  go_region
  all_goals
   go_wp2_with fail
   obtain ⟨⟨k0, k1, k2, k3⟩, k4, k5, k6⟩ := int_res2 (N := A / B) (N' := A % B) (sg false (A / B)) (sg false (A % B)) HB4.out HB5.out (by omega) (by have := HS5.out; have := HT0.out.size; omega) HTT.out HD3'.out HD4'.out (fun g hg => by have := HF3.out g hg; have := HSZ.out; omega) (fun g hg => by have := HF4.out g hg; have := HSZ.out; omega) _ rfl
   refine bodyPost_ret (v := .tuple #[.agg #[.bool (sg false (A / B)), .slice A3 n3 c3], .agg #[.bool (sg false (A % B)), .slice A4 n4 c4], .int .i64 0]) (by simp [results, Tryz.results82, go_sem, k0, k1, k2, k3]) rfl ⟨_, _, rfl, k4, ?_, k6⟩
   simpa [sg] using k5
 | true =>
  have hnr := hlr rfl
  subst hnr
  clear hlr
  go_wp2_with fail
  with_reducible refine (HBQ.out _ w5 (Touch.refl _ _)).mono ?_
  rintro r w6 hpost
  obtain ⟨_, A3, n3, c3, rfl, hd, ht6, hfr⟩ | ⟨h, _⟩ := hpost
  case inr => exact absurd (div_top HAB.out.1) h
  dsimp only
  have HD3 := Lib.hid hd
  have HF3 := Lib.hid hfr
  have HT5 := Lib.hid ht5
  have hta : Touch [] w5 (w6.alloc (.cells #[.bool (sg true (A / B)), .slice A3 n3 c3] 32)) := ht6.alloc _
  have b10 : Blk (w6.alloc (.cells #[.bool (sg true (A / B)), .slice A3 n3 c3] 32)) w6.heap.size 32 #[.bool (sg true (A / B)), .slice A3 n3 c3] := Blk.new _ _ _
  have HTA := Lib.hid (ht5.then0 hta)
  have HS6 := Lib.hid ht6.size
  have HS5 := Lib.hid (And.intro ht5.size HT0.out.size)
  have hs65 : w5.heap.size ≤ w6.heap.size := ht6.size
  clear hd hfr ht5 ht6 p0 p1 p2 p3
  obtain ⟨⟨p0, p1⟩, ⟨p2, p3⟩, _⟩ := HC.out _ HTA.out
  have HBR2 := Lib.hid (HBR.out _ hta)
  have HDA := Lib.hid (HD3.out.touch0 ((Touch.refl [] w6).alloc (.cells #[.bool (sg true (A / B)), .slice A3 n3 c3] 32)))
  clear hta
  go_wp2_with fail
  generalize hwa : (w6.alloc (.cells #[.bool (sg true (A / B)), .slice A3 n3 c3] 32)) = wa at *
  have HWA : Hid (wa.heap.size = w6.heap.size + 1) := Lib.hid (by rw [← hwa]; simp)
  clear hwa
  with_reducible refine HBR2.out.mono ?_
  rintro r w7 hpost
  obtain ⟨_, A4, n4, c4, rfl, hd, ht7, hfr⟩ | ⟨h, _⟩ := hpost
  case inr => exact absurd (Nat.lt_of_le_of_lt (Nat.mod_le _ _) HAB.out.1) h
  dsimp only
  have HD4 := Lib.hid hd
  have HF4 := Lib.hid hfr
  have b10' := b10.touch ht7 (by simp)
  have hs7 : w6.heap.size < w7.heap.size := b10'.lt
  have hT := HTA.out.then0 ht7
  obtain ⟨_, _, b4, b5⟩ := HC.out _ hT
  have b12 : Blk (w7.alloc (.cells #[.bool (sg false (A % B)), .slice A4 n4 c4] 32)) w7.heap.size 32 #[.bool (sg false (A % B)), .slice A4 n4 c4] := Blk.new _ _ _
  replace b10 := b10'.alloc (.cells #[.bool (sg false (A % B)), .slice A4 n4 c4] 32)
  replace b4 := b4.alloc (.cells #[.bool (sg false (A % B)), .slice A4 n4 c4] 32)
  replace b5 := b5.alloc (.cells #[.bool (sg false (A % B)), .slice A4 n4 c4] 32)
  have HD3' := Lib.hid (HDA.out.touch0 (ht7.alloc (.cells #[.bool (sg false (A % B)), .slice A4 n4 c4] 32)))
  have HD4' := Lib.hid (HD4.out.touch0 ((Touch.refl [] w7).alloc (.cells #[.bool (sg false (A % B)), .slice A4 n4 c4] 32)))
  have HTT := Lib.hid ((HT0.out.then0 hT).alloc (.cells #[.bool (sg false (A % B)), .slice A4 n4 c4] 32))
  have hne : w.heap.size + 1 + 1 + 1 < w6.heap.size := by
   have h1 := (HC.out _ HT5.out).2.2.2.lt
   omega
  have HSZ : Hid (w.heap.size + 1 + 1 + 1 < w5.heap.size ∧ w5.heap.size ≤ wa.heap.size) := Lib.hid ⟨(HC.out _ HT5.out).2.2.2.lt, by have := HWA.out; omega⟩
  clear hd hfr ht7 b10' p0 p1 p2 p3 hT
  go_wp2_with fail
  generalize (w7.alloc (.cells #[.bool (sg false (A % B)), .slice A4 n4 c4] 32)) = w8 at *
  have q0 := b10.cell 0
  have q1 := b10.cell 1
  have s0 := b12.cell 0
  have s1 := b12.cell 1
  have r2 := b4.frozen 0
  have r3 := b4.frozen 1
  have r6 := b5.frozen 0
  have r7 := b5.frozen 1
  have r0 := b4.cell 0
  have r1 := b4.cell 1
  have r4 := b5.cell 0
  have r5 := b5.cell 1
  simp at q0 q1 s0 s1 r0 r1 r4 r5
  have HB4 := Lib.hid b4
  have HB5 := Lib.hid b5
  clear b4 b5 b10 b12
  generalize w7.heap.size = g7 at *
  generalize w6.heap.size = g6 at *
  go_region
  all_goals
   go_wp2_with fail
   obtain ⟨⟨k0, k1, k2, k3⟩, k4, k5, k6⟩ := int_res2 (N := A / B) (N' := A % B) (sg true (A / B)) (sg false (A % B)) HB4.out HB5.out (by omega) (by have := HS5.out; have := HT0.out.size; omega) HTT.out HD3'.out HD4'.out (fun g hg => by have := HF3.out g hg; have := HSZ.out; omega) (fun g hg => by have := HF4.out g hg; have := HSZ.out; omega) _ rfl
   refine bodyPost_ret (v := .tuple #[.agg #[.bool (sg true (A / B)), .slice A3 n3 c3], .agg #[.bool (sg false (A % B)), .slice A4 n4 c4], .int .i64 0]) (by simp [results, Tryz.results82, go_sem, k0, k1, k2, k3]) rfl ⟨_, _, rfl, k4, ?_, k6⟩
   simpa [sg] using k5
end Go.Proofs.YtedpaajpfaoffaaGreatDoor
namespace Go.Proofs.YtedpaajpfaoffaaGreatDoor
open Go.RowKit
theorem box2s (w : World) (n1 n2 : Bool) (d1 d2 : Value) : ∀ W, Touch [] ((W2I w n1 d1 n2 d2).alloc (.cells #[.bool false, .slice none 0 0] 32)) W → ∀ x y, ((W.setCell ⟨w.heap.size + 1 + 1, 0, none⟩ x).setCell ⟨w.heap.size + 1 + 1, 1, none⟩ y).cell? ⟨w.heap.size, 0, none⟩ = some (.bool n1) ∧ ((W.setCell ⟨w.heap.size + 1 + 1, 0, none⟩ x).setCell ⟨w.heap.size + 1 + 1, 1, none⟩ y).cell? ⟨w.heap.size, 1, none⟩ = some d1 ∧ ((W.setCell ⟨w.heap.size + 1 + 1, 0, none⟩ x).setCell ⟨w.heap.size + 1 + 1, 1, none⟩ y).cell? ⟨w.heap.size + 1, 0, none⟩ = some (.bool n2) ∧ ((W.setCell ⟨w.heap.size + 1 + 1, 0, none⟩ x).setCell ⟨w.heap.size + 1 + 1, 1, none⟩ y).cell? ⟨w.heap.size + 1, 1, none⟩ = some d2 := by
 have b1 : Blk (W1I w n1 d1) w.heap.size 32 #[.bool n1, d1] := Blk.new _ _ _
 have b2 : Blk (W2I w n1 d1 n2 d2) (w.heap.size + 1) 32 #[.bool n2, d2] := by
  have := Blk.new (W1I w n1 d1) 32 #[.bool n2, d2]
  simpa using this
 intro W t x y
 have k1 := ((((b1.alloc _).alloc _).touch t (by simp)).far (p := ⟨w.heap.size + 1 + 1, 0, none⟩) (by simp; omega) x).far (p := ⟨w.heap.size + 1 + 1, 1, none⟩) (by simp; omega) y
 have k2 := (((b2.alloc _).touch t (by simp)).far (p := ⟨w.heap.size + 1 + 1, 0, none⟩) (by simp) x).far (p := ⟨w.heap.size + 1 + 1, 1, none⟩) (by simp) y
 exact ⟨(k1.cell 0).trans rfl, (k1.cell 1).trans rfl, (k2.cell 0).trans rfl, (k2.cell 1).trans rfl⟩
theorem build_room {neg : Bool} {N : Nat} {w w' : World} {r : Ending} (h : BuildPost neg N w r w') (hN : N < Top) : ∃ A n c, r = .returned (.tuple #[.agg #[.bool (sg neg N), .slice A n c], .int .i64 0]) ∧ Dgs w' (.slice A n c) (dg N) ∧ Touch [] w w' ∧ ∀ g ∈ rb (.slice A n c), w.heap.size ≤ g := by
 rcases h with ⟨_, h⟩ | ⟨h, _⟩
 ·exact h
 ·exact absurd hN h
theorem mulNat_top (v u : Value) (a b : Nat) (w : World) (hv : Words w v (wordsOf B32 a)) (hu : Words w u (wordsOf B32 b)) (ha : a < Top) (hb : b < Top) : Calls Tryz.prog 177 #[v, u] w fun r w' => ∃ v, r = .returned v ∧ Words w' v (wordsOf B32 (a * b)) ∧ Touch [] w w' := mulNat_any v u a b w hv hu (by have := len_b32 ha; omega) (by have := len_b32 hb; omega)
theorem subNat_top (v u : Value) (a b : Nat) (w : World) (hv : Words w v (wordsOf B32 a)) (hu : Words w u (wordsOf B32 b)) (ha : a < Top) (hb : b ≤ a) : Calls Tryz.prog 130 #[v, u] w fun r w' => ∃ v, r = .returned v ∧ Words w' v (wordsOf B32 (a - b)) ∧ Touch [] w w' := subNat_any v u a b w hv hu hb (by have := len_b32 ha; omega)
theorem build_top (neg : Bool) (v : Value) (N : Nat) (w : World) (hv : Words w v (wordsOf B32 N)) (hN : N < Top) : Calls Tryz.prog 126 #[.bool neg, v] w fun r w' => ∃ A n c, r = .returned (.tuple #[.agg #[.bool (sg neg N), .slice A n c], .int .i64 0]) ∧ Dgs w' (.slice A n c) (dg N) ∧ Touch [] w w' ∧ ∀ g ∈ rb (.slice A n c), w.heap.size ≤ g := (build_any neg v N w hv (len_b32 hN)).mono fun _ _ h => build_room h hN
theorem nMul_any (d1 d2 : Value) (A B : Nat) (w : World) (h1 : Dgs w d1 (dg A)) (h2 : Dgs w d2 (dg B)) (hA : A < Top) (hB : B < Top) (hX : A * B < Top) : Calls Tryz.prog 131 #[.agg #[.bool false, d1], .agg #[.bool false, d2]] w fun r w' => ∃ x, r = .returned (.tuple #[x, .int .i64 0]) ∧ IntAt w' false (A * B) x ∧ Touch [] w w' := by
 have HV1 := Lib.hid (fun W (t : Touch [] w W) => okI_dg (n := false) hA (by simp) ▸ nValid_any false d1 _ W (h1.touch0 t))
 have HV2 := Lib.hid (fun W (t : Touch [] w W) => okI_dg (n := false) hB (by simp) ▸ nValid_any false d2 _ W (h2.touch0 t))
 have HN1 := Lib.hid (fun W (t : Touch [] w W) => natOf_dg d1 A W (h1.touch0 t) hA)
 have HN2 := Lib.hid (fun W (t : Touch [] w W) => natOf_dg d2 B W (h2.touch0 t) hB)
 have HAB := Lib.hid (And.intro hA (And.intro hB hX))
 obtain ⟨A1, m1, c1, rfl⟩ := h1.form3
 obtain ⟨A2, m2, c2, rfl⟩ := h2.form3
 obtain ⟨ht0, hcc⟩ := box2r w false false (.slice A1 m1 c1) (.slice A2 m2 c2)
 have hcs := box2s w false false (.slice A1 m1 c1) (.slice A2 m2 c2)
 unfold W2I at ht0 hcc hcs
 have HC := Lib.hid hcc
 have HCS := Lib.hid hcs
 clear h1 h2 hA hB hcc hcs hX
 go_enter Tryz.func131, Tryz.ntmps131
 go_wp2_with fail
 generalize (((w.alloc (.cells #[.bool false, .slice A1 m1 c1] 32)).alloc (.cells #[.bool false, .slice A2 m2 c2] 32)).alloc (.cells #[.bool false, .slice none 0 0] 32)) = w0 at *
 with_reducible refine (HV1.out w0 ht0).mono ?_
 rintro r w1 ⟨rfl, ht1⟩
 obtain ⟨⟨p0, p1⟩, ⟨p2, p3⟩, _⟩ := HC.out w1 ht1
 dsimp only
 go_wp2_with fail
 with_reducible refine (HV2.out w1 (ht0.then0 ht1)).mono ?_
 rintro r w2 ⟨rfl, ht2⟩
 replace ht2 := ht1.then0 ht2
 clear p0 p1 p2 p3 ht1
 dsimp only
 go_wp2_with fail
 have hT := ht2.drew
 have HT0 := Lib.hid ht0
 clear ht0 ht2
 go_region_held3 (fun W' => W'.cell? ⟨w.heap.size, 0, none⟩ = some (.bool false) ∧ W'.cell? ⟨w.heap.size, 1, none⟩ = some (.slice A1 m1 c1) ∧ W'.cell? ⟨w.heap.size + 1, 0, none⟩ = some (.bool false) ∧ W'.cell? ⟨w.heap.size + 1, 1, none⟩ = some (.slice A2 m2 c2)) (first | exact ⟨(HC.out _ hT).1.1, (HC.out _ hT).1.2, (HC.out _ hT).2.1.1, (HC.out _ hT).2.1.2⟩ | exact HCS.out _ hT _ _) (first
  | (go_at_call 124; (first
    | (with_reducible refine (HN1.out _ (HT0.out.then0 hT)).mono ?_; rintro r w6 ⟨v6, rfl, hw6, ht6⟩; (try dsimp only); have HA := Lib.hid hw6; obtain ⟨A6, n6, c6, e6⟩ := hw6.form3; subst e6; (try replace HB := Lib.hid (HB.out.touch0 ht6)))
    | (with_reducible refine (HN2.out _ (HT0.out.then0 hT)).mono ?_; rintro r w6 ⟨v6, rfl, hw6, ht6⟩; (try dsimp only); have HB := Lib.hid hw6; obtain ⟨A7, n7, c7, e7⟩ := hw6.form3; subst e7; (try replace HA := Lib.hid (HA.out.touch0 ht6)))); replace hT := hT.then0 ht6; clear ht6 hw6)
  | (go_at_call 177; with_reducible refine (mulNat_top _ _ A B _ HA.out HB.out HAB.out.1 HAB.out.2.1).mono ?_; rintro r w6 ⟨v6, rfl, hw6, ht6⟩; (try dsimp only); have HM := Lib.hid hw6; obtain ⟨A8, n8, c8, e8⟩ := hw6.form3; subst e8; replace hT := hT.then0 ht6; clear ht6 hw6)
  | (go_at_call 126; with_reducible refine (build_top false _ (A * B) _ HM.out HAB.out.2.2).mono ?_; rintro r w6 ⟨A9, n9, c9, rfl, hd, ht6, hfr⟩; (try dsimp only); have HLT := Lib.hid (HC.out _ hT).2.2.lt; replace hT := hT.then0 ht6; have HD := Lib.hid hd; have HFR := Lib.hid hfr; have b2 := (HC.out _ hT).2.2; have q0 := b2.cell 0; have q1 := b2.cell 1; have f0 := b2.frozen 0; have f1 := b2.frozen 1; simp at q0 q1; have HB2 := Lib.hid b2; clear b2 hd hfr ht6))
 all_goals
  go_wp2_with fail
  obtain ⟨k0, k1, k2, k3⟩ := int_res (w := w) (sg false (A * B)) HB2.out (by have := HT0.out.size; omega) (HT0.out.then0 hT) HD.out (fun g hg => by have := HFR.out g hg; have := HLT.out; omega)
  refine bodyPost_ret (v := .tuple #[.agg #[.bool (sg false (A * B)), .slice A9 n9 c9], .int .i64 0]) (by simp [results, Tryz.results131, go_sem, k0, k1]) rfl ⟨_, rfl, ?_, k3⟩
  simpa [sg] using k2
theorem cmp_ge {a b : Nat} (h : b ≤ a) : (0 ≤ cmpI a b) = True := by
 unfold cmpI
 rw [if_neg (by omega)]
 split <;> simp
theorem addSigned_sub (v u : Value) (A B : Nat) (w : World) (hv : Words w v (wordsOf B32 A)) (hu : Words w u (wordsOf B32 B)) (hA : A < Top) (hB : B ≤ A) : Calls Tryz.prog 178 #[.bool false, v, .bool true, u] w fun r w' => ∃ A9 n c, r = .returned (.tuple #[.agg #[.bool false, .slice A9 n c], .int .i64 0]) ∧ Dgs w' (.slice A9 n c) (dg (A - B)) ∧ Touch [] w w' ∧ ∀ g ∈ rb (.slice A9 n c), w.heap.size < g := by
 have hge := cmp_ge hB
 have HCM := Lib.hid (fun W (t : Touch [] w W) => compareNat_any v u A B W (hv.touch0 t) (hu.touch0 t))
 have HSU := Lib.hid (fun W (t : Touch [] w W) => subNat_top v u A B W (hv.touch0 t) (hu.touch0 t) hA hB)
 have HAB := Lib.hid (show A - B < Top by omega)
 obtain ⟨A1, m1, c1, rfl⟩ := hv.form3
 obtain ⟨A2, m2, c2, rfl⟩ := hu.form3
 generalize cmpI A B = cm at *
 have b0 : Blk (w.alloc (.cells #[.bool false, .slice none 0 0] 32)) w.heap.size 32 #[.bool false, .slice none 0 0] := Blk.new _ _ _
 have ht0 : Touch [] w (w.alloc (.cells #[.bool false, .slice none 0 0] 32)) := (Touch.refl _ _).alloc _
 clear hv hu hA hB
 go_enter Tryz.func178, Tryz.ntmps178
 go_wp2_with fail
 generalize (w.alloc (.cells #[.bool false, .slice none 0 0] 32)) = w0 at *
 with_reducible refine (HCM.out w0 ht0).mono ?_
 rintro r w1 ⟨rfl, ht1⟩
 dsimp only
 have b1 := b0.touch ht1 (by simp)
 replace ht1 := ht0.then0 ht1
 go_wp2_with fail
 with_reducible refine (HSU.out w1 ht1).mono ?_
 rintro r w2 ⟨v2, rfl, hw2, ht2⟩
 dsimp only
 have b2 := b1.touch ht2 (by simp)
 replace ht2 := ht1.then0 ht2
 have HBU := Lib.hid (build_top false v2 (A - B) w2 hw2 HAB.out)
 have HLT := Lib.hid b2.lt
 obtain ⟨A3, m3, c3, rfl⟩ := hw2.form3
 clear b0 b1 ht0 ht1 hw2
 go_wp2_with fail
 with_reducible refine HBU.out.mono ?_
 rintro r w6 ⟨A9, n9, c9, rfl, hd, ht6, hfr⟩
 dsimp only
 have b3 := b2.touch ht6 (by simp)
 have q0 := b3.cell 0
 have q1 := b3.cell 1
 have f0 := b3.frozen 0
 have f1 := b3.frozen 1
 simp at q0 q1
 have HB2 := Lib.hid b3
 have HT := Lib.hid (ht2.then0 ht6)
 have HD := Lib.hid hd
 have HFR := Lib.hid hfr
 clear b2 b3 hd hfr ht2 ht6
 go_wp2_with fail
 obtain ⟨k0, k1, k2, k3⟩ := int_res (w := w) (sg false (A - B)) HB2.out (Nat.le_refl _) HT.out HD.out (fun g hg => by have := HFR.out g hg; have := HLT.out; omega)
 refine bodyPost_ret (v := .tuple #[.agg #[.bool (sg false (A - B)), .slice A9 n9 c9], .int .i64 0]) (by simp [results, Tryz.results178, go_sem, k0, k1]) rfl ⟨A9, n9, c9, by simp [sg], ?_, k3, fun g hg => by have := HFR.out g hg; have := HLT.out; omega⟩
 obtain ⟨A', n', c', e, h⟩ := k2
 injection e with e
 injection e with e
 injection e with _ e
 injection e with e
 rw [← e] at h
 exact h
theorem nSub_any (d1 d2 : Value) (A B : Nat) (w : World) (h1 : Dgs w d1 (dg A)) (h2 : Dgs w d2 (dg B)) (hA : A < Top) (hB : B < Top) (hX : B ≤ A) : Calls Tryz.prog 133 #[.agg #[.bool false, d1], .agg #[.bool false, d2]] w fun r w' => ∃ x, r = .returned (.tuple #[x, .int .i64 0]) ∧ IntAt w' false (A - B) x ∧ Touch [] w w' := by
 have HV1 := Lib.hid (fun W (t : Touch [] w W) => okI_dg (n := false) hA (by simp) ▸ nValid_any false d1 _ W (h1.touch0 t))
 have HV2 := Lib.hid (fun W (t : Touch [] w W) => okI_dg (n := false) hB (by simp) ▸ nValid_any false d2 _ W (h2.touch0 t))
 have HN1 := Lib.hid (fun W (t : Touch [] w W) => natOf_dg d1 A W (h1.touch0 t) hA)
 have HN2 := Lib.hid (fun W (t : Touch [] w W) => natOf_dg d2 B W (h2.touch0 t) hB)
 have HAB := Lib.hid (And.intro hA (And.intro hB hX))
 obtain ⟨A1, m1, c1, rfl⟩ := h1.form3
 obtain ⟨A2, m2, c2, rfl⟩ := h2.form3
 obtain ⟨ht0, hcc⟩ := box2r w false false (.slice A1 m1 c1) (.slice A2 m2 c2)
 have hcs := box2s w false false (.slice A1 m1 c1) (.slice A2 m2 c2)
 unfold W2I at ht0 hcc hcs
 have HC := Lib.hid hcc
 have HCS := Lib.hid hcs
 clear h1 h2 hA hB hcc hcs hX
 go_enter Tryz.func133, Tryz.ntmps133
 go_wp2_with fail
 generalize (((w.alloc (.cells #[.bool false, .slice A1 m1 c1] 32)).alloc (.cells #[.bool false, .slice A2 m2 c2] 32)).alloc (.cells #[.bool false, .slice none 0 0] 32)) = w0 at *
 with_reducible refine (HV1.out w0 ht0).mono ?_
 rintro r w1 ⟨rfl, ht1⟩
 obtain ⟨⟨p0, p1⟩, ⟨p2, p3⟩, _⟩ := HC.out w1 ht1
 dsimp only
 go_wp2_with fail
 with_reducible refine (HV2.out w1 (ht0.then0 ht1)).mono ?_
 rintro r w2 ⟨rfl, ht2⟩
 replace ht2 := ht1.then0 ht2
 clear p0 p1 p2 p3 ht1
 dsimp only
 go_wp2_with fail
 have hT := ht2.drew
 have HT0 := Lib.hid ht0
 clear ht0 ht2
 go_region_held3 (fun W' => W'.cell? ⟨w.heap.size, 0, none⟩ = some (.bool false) ∧ W'.cell? ⟨w.heap.size, 1, none⟩ = some (.slice A1 m1 c1) ∧ W'.cell? ⟨w.heap.size + 1, 0, none⟩ = some (.bool false) ∧ W'.cell? ⟨w.heap.size + 1, 1, none⟩ = some (.slice A2 m2 c2)) (first | exact ⟨(HC.out _ hT).1.1, (HC.out _ hT).1.2, (HC.out _ hT).2.1.1, (HC.out _ hT).2.1.2⟩ | exact HCS.out _ hT _ _) (first
  | (go_at_call 124; (first
    | (with_reducible refine (HN1.out _ (HT0.out.then0 hT)).mono ?_; rintro r w6 ⟨v6, rfl, hw6, ht6⟩; (try dsimp only); have HA := Lib.hid hw6; obtain ⟨A6, n6, c6, e6⟩ := hw6.form3; subst e6; (try replace HB := Lib.hid (HB.out.touch0 ht6)))
    | (with_reducible refine (HN2.out _ (HT0.out.then0 hT)).mono ?_; rintro r w6 ⟨v6, rfl, hw6, ht6⟩; (try dsimp only); have HB := Lib.hid hw6; obtain ⟨A7, n7, c7, e7⟩ := hw6.form3; subst e7; (try replace HA := Lib.hid (HA.out.touch0 ht6)))); replace hT := hT.then0 ht6; clear ht6 hw6)
  | (go_at_call 178; with_reducible refine (addSigned_sub _ _ A B _ HA.out HB.out HAB.out.1 HAB.out.2.2).mono ?_; rintro r w6 ⟨A9, n9, c9, rfl, hd, ht6, hfr⟩; (try dsimp only); have HLT := Lib.hid (HC.out _ hT).2.2.lt; replace hT := hT.then0 ht6; have HD := Lib.hid hd; have HFR := Lib.hid hfr; have b2 := (HC.out _ hT).2.2; have q0 := b2.cell 0; have q1 := b2.cell 1; have f0 := b2.frozen 0; have f1 := b2.frozen 1; simp at q0 q1; have HB2 := Lib.hid b2; clear b2 hd hfr ht6))
 all_goals
  go_wp2_with fail
  obtain ⟨k0, k1, k2, k3⟩ := int_res (w := w) false HB2.out (by have := HT0.out.size; omega) (HT0.out.then0 hT) HD.out (fun g hg => by have := HFR.out g hg; have := HLT.out; omega)
  refine bodyPost_ret (v := .tuple #[.agg #[.bool false, .slice A9 n9 c9], .int .i64 0]) (by simp [results, Tryz.results133, go_sem, k0, k1]) rfl ⟨_, rfl, ?_, k3⟩
  exact k2
end Go.Proofs.YtedpaajpfaoffaaGreatDoor
namespace Go.Proofs.YtedpaajpfaoffaaGreatDoor
open Go.RowKit
theorem box1r (w : World) (n1 : Bool) (d1 : Value) : Touch [] w ((W1I w n1 d1).alloc (.cells #[.bool false, .slice none 0 0] 32)) ∧ ∀ W, Touch [] ((W1I w n1 d1).alloc (.cells #[.bool false, .slice none 0 0] 32)) W → (ICell W w.heap.size n1 d1 ∧ Blk W (w.heap.size + 1) 32 #[.bool false, .slice none 0 0]) ∧
  ∀ x y, ((W.setCell ⟨w.heap.size + 1, 0, none⟩ x).setCell ⟨w.heap.size + 1, 1, none⟩ y).cell? ⟨w.heap.size, 0, none⟩ = some (.bool n1) ∧ ((W.setCell ⟨w.heap.size + 1, 0, none⟩ x).setCell ⟨w.heap.size + 1, 1, none⟩ y).cell? ⟨w.heap.size, 1, none⟩ = some d1 := by
 have b1 : Blk (W1I w n1 d1) w.heap.size 32 #[.bool n1, d1] := Blk.new _ _ _
 have b2 : Blk ((W1I w n1 d1).alloc (.cells #[.bool false, .slice none 0 0] 32)) (w.heap.size + 1) 32 #[.bool false, .slice none 0 0] := by
  have := Blk.new (W1I w n1 d1) 32 #[.bool false, .slice none 0 0]
  simpa using this
 refine ⟨((Touch.refl _ _).alloc _).alloc _, fun W t => ⟨⟨(b1.alloc _).icell t, b2.touch t (by simp)⟩, fun x y => ?_⟩⟩
 have k1 := (((b1.alloc _).touch t (by simp)).far (p := ⟨w.heap.size + 1, 0, none⟩) (by simp) x).far (p := ⟨w.heap.size + 1, 1, none⟩) (by simp) y
 exact ⟨(k1.cell 0).trans rfl, (k1.cell 1).trans rfl⟩
theorem nNeg_any (d1 : Value) (A : Nat) (w : World) (h1 : Dgs w d1 (dg A)) (hA : A < Top) (hA0 : 0 < A) : Calls Tryz.prog 80 #[.agg #[.bool true, d1]] w fun r w' => ∃ x, r = .returned (.tuple #[x, .int .i64 0]) ∧ IntAt w' false A x ∧ Touch [] w w' := by
 have HV1 := Lib.hid (fun W (t : Touch [] w W) => okI_dg (n := true) hA (fun _ => hA0) ▸ nValid_any true d1 _ W (h1.touch0 t))
 have HN1 := Lib.hid (fun W (t : Touch [] w W) => natOf_dg d1 A W (h1.touch0 t) hA)
 have HAB := Lib.hid hA
 obtain ⟨A1, m1, c1, rfl⟩ := h1.form3
 obtain ⟨ht0, hcc⟩ := box1r w true (.slice A1 m1 c1)
 unfold W1I at ht0 hcc
 have HC := Lib.hid (fun W t => (hcc W t).1)
 have HCS := Lib.hid (fun W t => (hcc W t).2)
 clear h1 hA hA0 hcc
 go_enter Tryz.func80, Tryz.ntmps80
 go_wp2_with fail
 generalize ((w.alloc (.cells #[.bool true, .slice A1 m1 c1] 32)).alloc (.cells #[.bool false, .slice none 0 0] 32)) = w0 at *
 with_reducible refine (HV1.out w0 ht0).mono ?_
 rintro r w1 ⟨rfl, ht1⟩
 dsimp only
 go_wp2_with fail
 have hT := ht1.drew
 have HT0 := Lib.hid ht0
 clear ht0 ht1
 go_region_held3 (fun W' => W'.cell? ⟨w.heap.size, 0, none⟩ = some (.bool true) ∧ W'.cell? ⟨w.heap.size, 1, none⟩ = some (.slice A1 m1 c1)) (first | exact (HC.out _ hT).1 | exact HCS.out _ hT _ _) (first
  | (go_at_call 124; with_reducible refine (HN1.out _ (HT0.out.then0 hT)).mono ?_; rintro r w6 ⟨v6, rfl, hw6, ht6⟩; (try dsimp only); have HM := Lib.hid hw6; obtain ⟨A6, n6, c6, e6⟩ := hw6.form3; subst e6; replace hT := hT.then0 ht6; clear ht6 hw6)
  | (go_at_call 126; with_reducible refine (build_top false _ A _ HM.out HAB.out).mono ?_; rintro r w6 ⟨A9, n9, c9, rfl, hd, ht6, hfr⟩; (try dsimp only); have HLT := Lib.hid (HC.out _ hT).2.lt; replace hT := hT.then0 ht6; have HD := Lib.hid hd; have HFR := Lib.hid hfr; have b2 := (HC.out _ hT).2; have q0 := b2.cell 0; have q1 := b2.cell 1; have f0 := b2.frozen 0; have f1 := b2.frozen 1; simp at q0 q1; have HB2 := Lib.hid b2; clear b2 hd hfr ht6))
 all_goals
  go_wp2_with fail
  obtain ⟨k0, k1, k2, k3⟩ := int_res (w := w) (sg false A) HB2.out (by omega) (HT0.out.then0 hT) HD.out (fun g hg => by have := HFR.out g hg; have := HLT.out; omega)
  refine bodyPost_ret (v := .tuple #[.agg #[.bool (sg false A), .slice A9 n9 c9], .int .i64 0]) (by simp [results, Tryz.results80, go_sem, k0, k1]) rfl ⟨_, rfl, ?_, k3⟩
  simpa [sg] using k2
end Go.Proofs.YtedpaajpfaoffaaGreatDoor
namespace Go.Proofs.YtedpaajpfaoffaaGreatDoor
open Go.RowKit
def Lie (w : World) (g : Nat) (xs : List Nat) : Prop := g < w.heap.size ∧ (∀ k (h : k < xs.length), w.cell? ⟨g, k, none⟩ = some (.int .u8 (xs[k] : Int))) ∧ ∀ k, k < xs.length → w.frozen? ⟨g, k, none⟩ = false
theorem addr_ne {g i k : Nat} (h : i ≠ k) : (⟨g, i, none⟩ : Addr) ≠ ⟨g, k, none⟩ := fun e => by
 injection e with _ e
 exact h e
theorem Lie.set {w : World} {g : Nat} {xs : List Nat} (h : Lie w g xs) {i : Nat} (hi : i < xs.length) (v : Nat) : Lie (w.setCell ⟨g, i, none⟩ (.int .u8 (v : Int))) g (xs.set i v) := by
 refine ⟨by simpa [World.setCell] using h.1, fun k hk => ?_, fun k hk => by rw [World.frozen?_setCell]; exact h.2.2 k (by simpa using hk)⟩
 rw [List.length_set] at hk
 rw [List.getElem_set]
 split
 ·rename_i e
  subst e
  exact World.cell?_setCell_same _ _ _ (h.2.1 _ hi)
 ·rename_i e
  rw [World.cell?_setCell_other _ _ _ _ (addr_ne e)]
  exact h.2.1 k hk
theorem Lie.drew {w : World} {g : Nat} {xs : List Nat} (h : Lie w g xs) : Lie w.drew g xs := h
theorem Lie.dgs {w : World} {g cap : Nat} {xs : List Nat} (h : Lie w g xs) (hb : Below_ 256 xs) (h1 : xs.length ≤ cap) (h2 : cap ≤ maxLen) : Dgs w (.slice (some ⟨g, 0, none⟩) xs.length cap) xs := by
 refine ⟨⟨_, _, rfl, h1, h2, by rw [flat_u8]; simp, fun _ => ⟨g, 0, rfl, h.1, fun j u hu => ?_⟩⟩, hb⟩
 rw [flat_u8] at hu
 obtain ⟨hj, rfl⟩ := List.getElem?_eq_some_iff.1 hu
 simp only [Nat.zero_add]
 rw [h.2.1 j (by simpa using hj)]
 simp [u8v]
def Swapped (i : Nat) (xs cur : List Nat) : Prop := cur.length = xs.length ∧ 2 * i ≤ xs.length ∧ ∀ k (h : k < cur.length) (h' : k < xs.length) (h2 : xs.length - 1 - k < xs.length), cur[k] = if k < i ∨ xs.length - 1 - i < k then xs[xs.length - 1 - k] else xs[k]
theorem swapped_new (xs : List Nat) : Swapped 0 xs xs := ⟨rfl, by omega, fun k h h' h2 => by rw [if_neg (by omega)]⟩
theorem swapped_step {i j : Nat} {xs cur : List Nat} (h : Swapped i xs cur) (hj : j = xs.length - 1 - i) (hij : i < j) (hi : i < cur.length) (hjl : j < cur.length) : Swapped (i + 1) xs ((cur.set i cur[j]).set j cur[i]) := by
 obtain ⟨h1, h0, h2⟩ := h
 refine ⟨by simpa using h1, by omega, fun k hk hk' hk2 => ?_⟩
 have ei := h2 i hi (by omega) (by omega)
 have ej := h2 j hjl (by omega) (by omega)
 rw [if_neg (by omega)] at ei ej
 simp only [List.length_set] at hk
 have ek := h2 k hk hk' hk2
 by_cases h3 : k = j
 ·subst h3
  rw [List.getElem_set_self, ei, if_pos (by omega)]
  congr 1
  omega
 ·rw [List.getElem_set_ne (by omega)]
  by_cases h4 : k = i
  ·subst h4
   rw [List.getElem_set_self, ej, if_pos (by omega)]
   congr 1
  ·rw [List.getElem_set_ne (by omega), ek]
   by_cases h5 : k < i ∨ xs.length - 1 - i < k
   ·rw [if_pos h5, if_pos (by omega)]
   ·rw [if_neg h5, if_neg (by omega)]
theorem swapped_done {i : Nat} {xs cur : List Nat} (h : Swapped i xs cur) (hd : ¬ i < xs.length - 1 - i) : cur = xs.reverse := by
 obtain ⟨h1, h0, h2⟩ := h
 apply List.ext_getElem (by simpa using h1)
 intro k hk hk2
 rw [h2 k hk (by omega) (by omega), List.getElem_reverse]
 split
 ·rfl
 ·congr 1
  omega
def RevRel (w : World) (g : Nat) (xs : List Nat) (ti tj : Value) (wr : World) : Prop := ∃ (i : Nat) (cur : List Nat), ti = .int .i64 i ∧ tj = .int .i64 ((xs.length : Int) - 1 - i) ∧ cur.length = xs.length ∧ Lie wr g cur ∧ Touch [g] w wr ∧ Hid (Swapped i xs cur)
theorem reverse_any (g cap : Nat) (xs : List Nat) (w : World) (hL : Lie w g xs) (hl : xs.length ≤ 100000) (hc : xs.length ≤ cap) (hc2 : cap ≤ 9223372036854775807) : Calls Tryz.prog 179 #[.slice (some ⟨g, 0, none⟩) xs.length cap] w fun r w' => r = .returned (.tuple #[]) ∧ Lie w' g xs.reverse ∧ Touch [g] w w' := by
 have hst : RevRel w g xs (.int .i64 0) (.int .i64 ((xs.length : Int) - 1)) w := ⟨0, xs, rfl, by simp, rfl, hL, Touch.refl _ _, Lib.hid (swapped_new xs)⟩
 clear hL
 go_enter Tryz.func179, Tryz.ntmps179
 go_wp2_with fail
 go_loopw [2, 3] (fun ti tj wr => RevRel w g xs ti tj wr) (fun ti _ _ => xs.length - (intOf ti).toNat)
 case atStart => exact hst
 case round =>
  clear hst
  obtain ⟨i, cur, rfl, rfl, hcl, hLr, ht, HS⟩ := hrel
  have h2i := HS.out.2.1
  by_cases hlt : i < xs.length - 1 - i
  ·obtain ⟨j, hj⟩ : ∃ j, j = xs.length - 1 - i := ⟨_, rfl⟩
   have e1 : (xs.length : Int) - 1 - (i : Int) = (j : Int) := by omega
   have hij : i < j := by omega
   have hij' : (i : Int) < (j : Int) := by omega
   have hjn : j < xs.length := by omega
   have hne : i ≠ j := by omega
   have ci := hLr.2.1 i (by omega)
   have cj := hLr.2.1 j (by omega)
   have fi := hLr.2.2 i (by omega)
   have fj := hLr.2.2 j (by omega)
   have HL := Lib.hid hLr
   have HN := Lib.hid (swapped_step HS.out hj hij (by omega) (by omega))
   have HJ := Lib.hid hj
   have HCL := Lib.hid hcl
   generalize hxi : cur[i]'(by omega) = xi at *
   generalize hxj : cur[j]'(by omega) = xj at *
   rw [e1]
   clear hlt h2i hLr HS hj hxi hxj hcl
   go_wp2_with fail
   go_region
   all_goals
    go_wp2_with fail
    go_roundw
    case rel =>
     have hL := HL.out
     have hC := HCL.out
     have hJ := HJ.out
     refine ⟨i + 1, _, by go_num, by rw [show (j : Int) - 1 = (xs.length : Int) - 1 - ((i + 1 : Nat) : Int) by omega], by simpa using hC, ((hL.set (by omega) xj).set (by simp; omega) xi).drew, (((ht.setCell (p := ⟨g, i, none⟩) (.inl (by simp)) _).setCell (p := ⟨g, j, none⟩) (.inl (by simp)) _)).drew, HN⟩
    case measure => simp [intOf]; omega
  ·have hlt' : ((i : Int) < (xs.length : Int) - 1 - (i : Int)) = False := eq_false (by omega)
   have HF : Hid (cur = xs.reverse) := Lib.hid (swapped_done HS.out hlt)
   have HL := Lib.hid hLr
   clear hlt h2i hLr HS hcl
   go_wp2_with fail
   go_end0
   exact ⟨rfl, by rw [← HF.out]; exact HL.out, ht⟩
end Go.Proofs.YtedpaajpfaoffaaGreatDoor
namespace Go.Proofs.YtedpaajpfaoffaaGreatDoor
open Go.RowKit
def asc (zs : List Nat) : List Nat := zs.map (48 + ·)
def decB (N : Nat) : List Nat := if N = 0 then [48] else asc (wordsOf 10 N).reverse
theorem asc_len (zs : List Nat) : (asc zs).length = zs.length := by simp [asc]
theorem asc_below {zs : List Nat} (h : Below_ 10 zs) : Below_ 256 (asc zs) := fun x hx => by
 obtain ⟨d, hd, rfl⟩ := List.mem_map.1 hx
 have := h d hd
 omega
theorem asc_snoc (zs : List Nat) (d : Nat) : asc (zs ++ [d]) = asc zs ++ [48 + d] := by simp [asc]
theorem Row8.lie {w : World} {v : Value} {xs : List Nat} (h : Row8 w v xs) (hne : xs ≠ []) : ∃ g cap, v = .slice (some ⟨g, 0, none⟩) xs.length cap ∧ Lie w g xs ∧ xs.length ≤ cap ∧ cap ≤ 9223372036854775807 := by
 unfold Row8 at h
 have h0 := h
 rcases h.2 with ⟨rfl, hn⟩ | ⟨g, cap, cur, rfl, hb, hg, hnc, hcm, hcs, htake⟩
 ·exact absurd (List.eq_nil_of_length_eq_zero hn) hne
 ·refine ⟨g, cap, rfl, ⟨(Array.getElem?_eq_some_iff.1 hg).1, fun k hk => ?_, fun k hk => Blk.frozen (t := 5) (cs := cur) hg k⟩, hnc, by unfold maxLen at hcm; omega⟩
  have := World.ownsRow.cells h0 (g := g) rfl k (.int .u8 (xs[k] : Int)) (by simp [u8v, hk])
  rwa [add_lit, Nat.zero_add] at this
theorem top_ten {N l : Nat} (h : 10 ^ l ≤ N) (hN : N < Top) : l ≤ 192 := by
 have h1 : Top ≤ 10 ^ 192 := by
  unfold Top
  calc (256 : Nat) ^ 64 ≤ 1000 ^ 64 := Nat.pow_le_pow_left (by omega) 64
   _ = (10 ^ 3) ^ 64 := rfl
   _ = 10 ^ 192 := by rw [← Nat.pow_mul]
 rcases Nat.lt_or_ge 192 l with h2 | h2
 ·have : (10 : Nat) ^ 192 ≤ 10 ^ l := Nat.pow_le_pow_right (by omega) (by omega)
  omega
 ·exact h2
def DecIn (M : Nat) (zs : List Nat) (rest : Nat) : Prop := nv 10 zs + 10 ^ zs.length * rest = M ∧ Below_ 10 zs
theorem decin_step {M rest : Nat} {zs : List Nat} (h : DecIn M zs rest) : DecIn M (zs ++ [rest % 10]) (rest / 10) := by
 refine ⟨?_, below_snoc h.2 (Nat.mod_lt _ (by omega))⟩
 rw [List.length_append, List.length_singleton]
 have := put_step (B := 10) (i := zs.length) (c := rest) (t := rest) (N := M) (M := 0) rfl h.1 (by omega)
 exact this
theorem decin_split {N a : Nat} {zs : List Nat} (h : DecIn N zs a) : DecIn (N - 10 ^ (zs.length + 9) * (a / 1000000000)) zs (a % 1000000000) ∧ 10 ^ (zs.length + 9) * (a / 1000000000) ≤ N := by
 obtain ⟨h1, h2⟩ := h
 have e := Nat.div_add_mod a 1000000000
 have e2 : 10 ^ zs.length * a = 10 ^ (zs.length + 9) * (a / 1000000000) + 10 ^ zs.length * (a % 1000000000) := by
  conv => lhs; rw [← e]
  rw [Nat.mul_add, Nat.pow_add, Nat.mul_assoc]
 rw [e2] at h1
 exact ⟨⟨by omega, h2⟩, by omega⟩
theorem decin_join {N a L : Nat} {zs : List Nat} (h : DecIn (N - 10 ^ (L + 9) * (a / 1000000000)) zs 0) (hl : zs.length = L + 9) (hle : 10 ^ (L + 9) * (a / 1000000000) ≤ N) : DecIn N zs (a / 1000000000) := by
 obtain ⟨h1, h2⟩ := h
 refine ⟨?_, h2⟩
 rw [hl]
 omega
theorem divSmall_f (v : Value) (xs : List Nat) (d : Nat) (w : World) (hv : Words w v xs) (hd : 0 < d) (hd2 : d < 4294967296) (hxl : xs.length ≤ 1000000) : Calls Tryz.prog 170 #[v, .int .u32 d] w fun r w' => ∃ v', r = .returned (.tuple #[v', .int .u32 ((nv B32 xs % d : Nat) : Int)]) ∧ Words w' v' (wordsOf B32 (nv B32 xs / d)) ∧ Touch [] w w' ∧ ∀ g ∈ rb v', w.heap.size ≤ g := by
 obtain ⟨A, cap, rfl⟩ := hv.form
 obtain ⟨hc1, hc2⟩ := hv.cap
 have hmk := make_words xs.length (by omega)
 have hst : QuoRel w xs d (.int .u64 0) (.int .i64 ((xs.length : Int) - 1)) (w.alloc (.cells (((List.replicate xs.length (0 : Nat)).map u32v).toArray) 178)) := ⟨xs.length, 0, _, by omega, rfl, rfl, by simp, WB.new _ _, (Touch.refl _ _).alloc _, Lib.hid (quo_new _ _ _ hd)⟩
 generalize (((List.replicate xs.length (0 : Nat)).map u32v).toArray) = cs at *
 go_enter Tryz.func170, Tryz.ntmps170
 go_wp2_with fail
 go_loopw [7, 8] (fun tr ti wr => QuoRel w xs d tr ti wr) (fun _ ti _ => (intOf ti + 1).toNat)
 case atStart => exact hst
 case round =>
  clear hst
  obtain ⟨k, r, zs, hk, rfl, rfl, hzl, hW, ht, HS⟩ := hrel
  have br := HS.out.2.2
  rcases Nat.eq_zero_or_pos k with h0 | h0
  ·have h1 : ¬ (0 : Int) ≤ (k : Int) - 1 := by omega
   obtain ⟨e1, e3, e2⟩ := quo_last (h0 ▸ HS.out)
   have HT := Lib.hid (trim_any (.slice (some ⟨w.heap.size, 0, none⟩) xs.length xs.length) zs _ (hW.words e2 (by rw [hzl]; unfold maxLen; omega) hzl.symm))
   rw [e1] at HT
   have E3 := Lib.hid e3
   clear HS hv e1 e2 e3 hW hzl
   go_wp2_with fail
   refine HT.out.mono ?_
   rintro r' w' ⟨v', rfl, hw, hr, rfl⟩
   go_wp2_with fail
   go_ret2
   exact ⟨_, by rw [← E3.out]; rfl, hw, ht, fun g hg => by have := rb_sub _ g (hr g hg); simp [blk] at this; omega⟩
  obtain ⟨m, hm⟩ : ∃ m, k = m + 1 := ⟨k - 1, by omega⟩
  subst hm
  have e1 : ((m + 1 : Nat) : Int) - 1 = (m : Int) := by omega
  rw [e1]
  have hx1 : m < xs.length := by omega
  obtain ⟨b, off, rfl, hb⟩ := hv.addr hx1
  have c0 := Words.at_ (hv.touch0 ht) hx1
  have bx := hv.below _ (List.getElem_mem hx1)
  unfold B32 at bx
  have hmz : m < zs.length := by omega
  have cz := hW.at_ hmz
  have fz := hW.frozen m
  have HN := Lib.hid (quo_step HS.out hmz hx1 hv.below)
  have HW := Lib.hid (fun v => hW.set m v)
  generalize xs[m] = x at *
  generalize zs[m] = z at *
  clear hv HS hW
  have hor := or_word r x (by omega) bx
  have bt : r * 4294967296 + x < 18446744073709551616 := by omega
  generalize r * 4294967296 + x = t at *
  have hq := tdiv_nat t d
  have hm := tmod_nat t d
  have bq : t / d < 4294967296 := HN.out.1
  have bm : t % d < 4294967296 := by have := HN.out.2.2.2; omega
  have HN2 := Lib.hid HN.out.2
  generalize t / d = q at *
  generalize t % d = r' at *
  clear HN
  go_wp2_with fail
  go_roundw
  case rel =>
   refine ⟨m, r', zs.set m q, by omega, by go_num, by go_num, by simpa using hzl, ?_, ht.setCell (.inr (Nat.le_refl _)) _, HN2⟩
   exact HW.out q
  case measure => simp [intOf]
theorem divNine (v : Value) (a : Nat) (w : World) (hv : Words w v (wordsOf B32 a)) (ha : a < Top) : Calls Tryz.prog 170 #[v, .int .u32 1000000000] w fun r w' => ∃ v', r = .returned (.tuple #[v', .int .u32 ((a % 1000000000 : Nat) : Int)]) ∧ Words w' v' (wordsOf B32 (a / 1000000000)) ∧ Touch [] w w' ∧ ∀ g ∈ rb v', w.heap.size ≤ g := by
 have := divSmall_f v _ 1000000000 w hv (by omega) (by omega) (by have := len_b32 ha; omega)
 rwa [nv_words B32_le] at this
def DecOut (w : World) (N : Nat) (k : Nat) (tx to : Value) (wr : World) : Prop := ∃ (A : Option Addr) (n c : Nat) (zs : List Nat), tx = .slice A n c ∧ n = (wordsOf B32 k).length ∧ Hid (Words wr (.slice A n c) (wordsOf B32 k)) ∧ Row8 wr to (asc zs) ∧ Touch [] w wr ∧ Hid (∀ g ∈ blk to, w.heap.size ≤ g) ∧ Hid (DecIn N zs k)
def DecInn (w : World) (M L : Nat) (to tr ti : Value) (wr : World) : Prop := ∃ (i rest : Nat) (zs : List Nat), i ≤ 9 ∧ ti = .int .i64 i ∧ tr = .int .u32 rest ∧ rest < 1000000000 ∧ zs.length = L + i ∧ Row8 wr to (asc zs) ∧ Touch [] w wr ∧ Hid (∀ g ∈ blk to, w.heap.size ≤ g) ∧ Hid (DecIn M zs rest ∧ rest < 10 ^ (9 - i))
def CutRel (N : Nat) (g cap : Nat) (zs : List Nat) (to : Value) : Prop := ∃ k : Nat, k ≤ zs.length ∧ 0 < k ∧ to = .slice (some ⟨g, 0, none⟩) k cap ∧ Hid (nv 10 (zs.take k) = N)
theorem decimal_w (v : Value) (N : Nat) (xs : List Nat) (w : World) (hv : Words w v xs) (HXS : Hid (xs = wordsOf B32 N)) (hN : N < Top) : Calls Tryz.prog 135 #[v] w fun r w' => ∃ d, r = .returned d ∧ Dgs w' d (decB N) ∧ Touch [] w w' := by
 have HV := Lib.hid hv
 have HNT := Lib.hid hN
 obtain ⟨A, cap, rfl⟩ := hv.form
 obtain ⟨hc1, hc2⟩ := hv.cap
 have hl := len_b32 hN
 rw [← HXS.out] at hl
 have hz := words_nil_iff B32_le (N := N)
 rw [← HXS.out] at hz
 clear hv hN
 by_cases h0 : N = 0
 ·have hl0 := hz.2 h0
  clear hz
  go_enter Tryz.func135, Tryz.ntmps135
  go_wp2_with fail
  go_ret
  have b := Blk.new w 5 #[Value.int .u8 48]
  have hd : B8 (w.alloc (.cells #[.int .u8 48] 5)) w.heap.size [48] := by simpa [B8, u8v] using b
  refine ⟨_, rfl, ?_, (Touch.refl _ _).alloc _⟩
  subst h0
  exact hd.dgs (fun x hx => by simp at hx; omega) (by simp [maxLen]) rfl
 ·have hl0 : ((xs.length : Int) == 0) = false := by
   have h1 : xs.length ≠ 0 := fun h => h0 (hz.1 h)
   rw [beq_eq_false_iff_ne]
   omega
  have HP := Lib.hid (Nat.pos_of_ne_zero h0)
  have hst : DecOut w N N (.slice A xs.length cap) (.slice none 0 0) w := ⟨A, xs.length, cap, [], rfl, by rw [HXS.out], Lib.hid (HXS.out ▸ HV.out), Row8.nil w, Touch.refl _ _, Lib.hid (fun g hg => by cases hg), Lib.hid ⟨by simp [nv], fun x hx => by cases hx⟩⟩
  clear hz h0
  go_enter Tryz.func135, Tryz.ntmps135
  go_wp2_with fail
  go_loopg [0, 3] N (fun k tx to wr => DecOut w N k tx to wr)
  case atStart => exact hst
  case round =>
   clear hst hl0 hl hc1 hc2 HXS HV
   obtain ⟨A1, n1, c1, zs, rfl, hn1, HW, hR, ht, HF, HD⟩ := hrel
   have hz := words_nil_iff B32_le (N := gk)
   rw [← hn1] at hz
   by_cases h0 : gk = 0
   ·have hn0 := hz.2 h0
    have HZ : Hid (nv 10 zs = N) := Lib.hid (by have := HD.out.1; rwa [h0, Nat.mul_zero, Nat.add_zero] at this)
    have hne : asc zs ≠ [] := fun e => by
     have h1 : zs = [] := List.map_eq_nil_iff.1 e
     have h2 := HZ.out
     rw [h1] at h2
     have := HP.out
     simp [nv] at h2
     omega
    obtain ⟨g, cap2, rfl, hL, hcap, hcap2⟩ := hR.lie hne
    have HL := Lib.hid hL
    have hzl := asc_len zs
    have hzp : 0 < zs.length := by
     rcases Nat.eq_zero_or_pos zs.length with h | h
     ·exact absurd (List.eq_nil_of_length_eq_zero (by rw [hzl]; exact h)) hne
     ·exact h
    have hst2 : CutRel N g cap2 zs (.slice (some ⟨g, 0, none⟩) (asc zs).length cap2) := ⟨zs.length, Nat.le_refl _, hzp, by rw [hzl], Lib.hid (by rw [List.take_of_length_le (Nat.le_refl _)]; exact HZ.out)⟩
    have HGF : Hid (w.heap.size ≤ g) := Lib.hid (HF.out g (by simp [blk]))
    clear hz h0 hn1 HW hR hne hL
    subst hn0
    go_wp2_with fail
    go_loop [3] (fun to => CutRel N g cap2 zs to) (fun to => match to with | .slice _ k _ => k | _ => 0)
    case atStart => exact hst2
    case round =>
     clear hst2
     obtain ⟨k, hk, hk0, rfl, HN⟩ := hrel
     obtain ⟨m, rfl⟩ : ∃ m, k = m + 1 := ⟨k - 1, by omega⟩
     have hm : m < zs.length := by omega
     have c0 : wr.cell? ⟨g, m, none⟩ = some (.int .u8 (48 + zs[m] : Int)) := by
      have := HL.out.2.1 m (by rw [hzl]; exact hm)
      rw [this]
      simp [asc]
     have bd := HD.out.2 _ (List.getElem_mem hm)
     have HZ1 := Lib.hid (fun h => trim_step (B := 10) hm h)
     have HK := Lib.hid (fun h => canon_take (xs := zs) hm h)
     generalize zs[m] = x at *
     by_cases hx : x = 0
     ·have HN2 : Hid (nv 10 (zs.take m) = N) := Lib.hid ((HZ1.out hx).symm.trans HN.out)
      have hm0 : 0 < m := by
       rcases Nat.eq_zero_or_pos m with h | h
       ·have h1 := HN2.out
        rw [h] at h1
        have := HP.out
        simp [nv] at h1
        omega
       ·exact h
      subst hx
      clear HK HZ1
      go_wp2_with fail
      go_round
      case rel => exact ⟨m, by omega, hm0, by simp, HN2⟩
      case measure => simp
     ·have hx1 : (((48 : Int) + (x : Int)) == 48) = false := by rw [beq_eq_false_iff_ne]; omega
      have HC : Hid (zs.take (m + 1) = wordsOf 10 N) := Lib.hid (by
       have := words_nv (B := 10) (by omega) (below_take HD.out.2 (m + 1)) (HK.out hx)
       rw [HN.out] at this
       exact this.symm)
      have hml : m + 1 ≤ 201 := by
       have h1 := pow_le_of_len (B := 10) (by omega) m N (by rw [← HC.out, List.length_take]; omega)
       have := top_ten h1 HNT.out
       omega
      have HLT : Hid (Lie wr g (asc (zs.take (m + 1)))) := Lib.hid ⟨HL.out.1, fun k hk => by
       have h1 : k < m + 1 := by simp [asc] at hk; omega
       have := HL.out.2.1 k (by rw [hzl]; omega)
       rw [this]
       simp [asc], fun k hk => HL.out.2.2 k (by simp [asc] at hk ⊢; omega)⟩
      have hcl : (asc (zs.take (m + 1))).length = m + 1 := by rw [asc_len, List.length_take]; omega
      have HRV := Lib.hid (reverse_any g cap2 (asc (zs.take (m + 1))) wr HLT.out (by omega) (by omega) hcap2)
      rw [hcl] at HRV
      have hcm : m + 1 ≤ cap2 := by omega
      clear HK HZ1 hx hcap
      go_wp2_with fail
      with_reducible refine HRV.out.mono ?_
      rintro r w9 ⟨rfl, hL9, ht9⟩
      dsimp only
      have HL9 := Lib.hid hL9
      have HT9 : Hid (Touch [] w w9) := Lib.hid (ht.step ht9 (fun g' hg' => .inr (by rw [List.mem_singleton] at hg'; rw [hg']; exact HGF.out)))
      clear hL9 ht9
      go_wp2_with fail
      go_ret
      refine ⟨_, rfl, ?_, HT9.out⟩
      have e : (asc (zs.take (m + 1))).reverse = decB N := by
       unfold decB
       rw [if_neg (Nat.pos_iff_ne_zero.1 HP.out), HC.out]
       simp [asc]
      have h9 := HL9.out
      rw [e] at h9
      have hl9 : (decB N).length = m + 1 := by rw [← e, List.length_reverse]; exact hcl
      have := h9.dgs (cap := cap2) (by rw [← e]; exact fun x hx => asc_below (below_take HD.out.2 _) x (List.mem_reverse.1 hx)) (by omega) (by unfold maxLen; omega)
      rwa [hl9] at this
   ·obtain ⟨n2, rfl⟩ : ∃ n2, n1 = n2 + 1 := ⟨n1 - 1, by omega⟩
    have hgp : 0 < gk := by omega
    have hzl : zs.length ≤ 192 := top_ten (by
     have h1 := HD.out.1
     have : 10 ^ zs.length * 1 ≤ 10 ^ zs.length * gk := Nat.mul_le_mul_left _ hgp
     omega) HNT.out
    have hgT : gk < Top := by
     have h1 := HD.out.1
     have : 1 * gk ≤ 10 ^ zs.length * gk := Nat.mul_le_mul_right _ (Nat.pow_pos (by omega))
     have := HNT.out
     omega
    have HDS := Lib.hid (divNine (.slice A1 (n2 + 1) c1) gk wr HW.out hgT)
    have HSP := Lib.hid (decin_split HD.out)
    have HM : Hid (gk / 1000000000 < gk) := Lib.hid (Nat.div_lt_self hgp (by omega))
    have hrl : gk % 1000000000 < 1000000000 := Nat.mod_lt _ (by omega)
    have HR := Lib.hid hR
    obtain ⟨Ao, co, rfl⟩ := hR.form
    rw [asc_len] at HR HF ⊢
    generalize hlz : zs.length = L at *
    have HLZ := Lib.hid hlz
    clear hz h0 hn1 HW hR hgp hgT hlz
    go_wp2_with fail
    with_reducible refine HDS.out.mono ?_
    rintro r w3 ⟨q, rfl, hq, ht3, hqf⟩
    dsimp only
    have hst3 : DecInn w (N - 10 ^ (L + 9) * (gk / 1000000000)) L (.slice Ao L co) (.int .u32 ((gk % 1000000000 : Nat) : Int)) (.int .i64 0) w3 := ⟨0, gk % 1000000000, zs, by omega, rfl, rfl, hrl, HLZ.out, HR.out.touch0 ht3, ht.then0 ht3, HF, Lib.hid ⟨HSP.out.1, by simpa using hrl⟩⟩
    have HQ := Lib.hid hq
    obtain ⟨Aq, cq, rfl⟩ := hq.form
    generalize gk % 1000000000 = rest at *
    have HSZ := Lib.hid ht.size
    have HQF : Hid (∀ g ∈ rb (.slice Aq (wordsOf B32 (gk / 1000000000)).length cq), g ∉ blk (.slice Ao L co) ∧ g < w3.heap.size) := Lib.hid (fun g hg => ⟨fun hm => by have h1 := hqf g hg; have h2 := Own.lt HR.out g hm; omega, HQ.out.lt g hg⟩)
    clear hq ht ht3 hrl HR HDS HF HD hqf
    go_wp2_with fail
    go_loopw [3, 4, 17] (fun to tr ti wr => DecInn w (N - 10 ^ (L + 9) * (gk / 1000000000)) L to tr ti wr ∧ Hid (Words wr (.slice Aq (wordsOf B32 (gk / 1000000000)).length cq) (wordsOf B32 (gk / 1000000000))) ∧ Hid (∀ g ∈ rb (.slice Aq (wordsOf B32 (gk / 1000000000)).length cq), g ∉ blk to ∧ g < wr.heap.size)) (fun _ _ ti _ => 9 - (intOf ti).toNat)
    case atStart => exact ⟨hst3, HQ, HQF⟩
    case round =>
     clear hst3
     obtain ⟨⟨i, rst, ys, hi, rfl, rfl, hrs, hyl, hR, ht, HF, HD⟩, HQ, HQF⟩ := hrel
     obtain ⟨Ay, cy, rfl⟩ := hR.form
     by_cases hi9 : i < 9
     ·have hi9' : (i : Int) < 9 := by omega
      have HST := Lib.hid (decin_step HD.out.1)
      have HRS : Hid (rst / 10 < 10 ^ (9 - (i + 1))) := Lib.hid (by
       have h1 := HD.out.2
       rw [show 9 - i = (9 - (i + 1)) + 1 by omega, Nat.pow_succ] at h1
       omega)
      have hal : (asc ys).length ≤ 1000 := by rw [asc_len]; omega
      clear HD
      go_wp2_with (at_builtin; go_must (refine app_new elem_b8 hR [_] 1 1 (by omega) (by unfold maxLen; omega) ?_); intro v1 w1 ho1 hg1 hf1)
      go_roundw
      case rel =>
       refine ⟨⟨i + 1, rst / 10, ys ++ [rst % 10], by omega, by go_num, by go_num, by omega, by simp [hyl]; omega, ?_, ht.fresh8 HF.out hg1, Lib.hid (From.fresh8 ht HF.out hf1), Lib.hid ⟨HST.out, HRS.out⟩⟩, Lib.hid (HQ.out.touch hg1 (fun g hg => (HQF.out g hg).1)), Lib.hid (fun g hg => ⟨fun hm => ?_, Nat.lt_of_lt_of_le (HQF.out g hg).2 hg1.size⟩)⟩
       ·rw [asc_snoc]
        exact Row8.snoc ho1
       ·rcases hf1 g hm with h | h
        ·exact (HQF.out g hg).1 h
        ·have := (HQF.out g hg).2
         omega
      case measure => simp [intOf]; omega
     ·have hi9' : ¬ (i : Int) < 9 := by omega
      have hie : i = 9 := by omega
      have HJ : Hid (DecIn N ys (gk / 1000000000)) := Lib.hid (decin_join (by
       obtain ⟨h1, h2⟩ := HD.out
       rw [hie] at h2
       have h3 : rst = 0 := by simp at h2; omega
       rwa [h3] at h1) (by rw [hyl, hie]) HSP.out.2)
      clear HD hie
      go_wp2_with fail
      go_roundg (gk / 1000000000)
      case measure => exact HM.out
      case rel => exact ⟨Aq, _, cq, ys, rfl, rfl, HQ, hR, ht, HF, HJ⟩
end Go.Proofs.YtedpaajpfaoffaaGreatDoor
namespace Go.Proofs.YtedpaajpfaoffaaGreatDoor
open Go.RowKit
def textL (n : Bool) (N : Nat) : List UInt8 := if n then 45 :: Lib.decDigits N else Lib.decDigits N
theorem decB_text (N : Nat) : decB N = (Lib.decDigits N).map (fun b => b.toNat) := by
 rcases Nat.eq_zero_or_pos N with h | h
 ·subst h
  rw [dec_zero]
  rfl
 ·rw [← decD_eq h]
  unfold decB decD asc
  rw [if_neg (by omega), List.map_map]
  apply List.map_congr_left
  intro d hd
  have := words_below (B := 10) (by omega) N d (List.mem_reverse.1 hd)
  simp
  omega
theorem dec_len_top {N : Nat} (h : N < Top) : (Lib.decDigits N).length ≤ 193 := by
 rcases Nat.eq_zero_or_pos N with h0 | h0
 ·subst h0; rw [dec_zero]; simp
 ·rw [← decD_eq h0]
  unfold decD
  rw [List.length_map, List.length_reverse]
  rcases Nat.lt_or_ge 193 (wordsOf 10 N).length with h1 | h1
  ·have h2 := pow_le_of_len (B := 10) (by omega) 193 N h1
   have := top_ten h2 h
   omega
  ·exact h1
theorem conv_text (W : World) {d : Value} {l : List UInt8} (hd : Dgs W d (l.map (fun b => b.toNat))) (hne : l ≠ []) : (convert 30 9 d).run Tryz.prog W = .ok (.string ⟨l.toArray⟩) W := by
 obtain ⟨A, cap, rfl⟩ := hd.form
 have hp : 0 < (l.map (fun b : UInt8 => b.toNat)).length := by
  rw [List.length_map]
  exact List.length_pos_iff.2 hne
 obtain ⟨b, off, rfl, hb⟩ := hd.addr hp
 have h := run_convert_bytes_back (P := Tryz.prog) W 30 9 5 ⟨b, off, none⟩ cap l Tryz.underlying30 Tryz.underlying5 Tryz.underlying9 (fun j hj => by
  rw [add_lit]
  have := Dgs.at_ hd (k := j) (by rw [List.length_map]; exact hj)
  simpa using this)
 rw [List.length_map]
 exact h
theorem nText_any (n : Bool) (d : Value) (N : Nat) (w : World) (h1 : Dgs w d (dg N)) (hN : N < Top) (hs : n = true → 0 < N) : Calls Tryz.prog 85 #[.agg #[.bool n, d]] w fun r w' => r = .returned (.string ⟨(textL n N).toArray⟩) ∧ Touch [] w w' := by
 have HV1 := Lib.hid (fun W (t : Touch [] w W) => okI_dg (n := n) hN hs ▸ nValid_any n d _ W (h1.touch0 t))
 have HN1 := Lib.hid (fun W (t : Touch [] w W) => natOf_dg d N W (h1.touch0 t) hN)
 have HNT := Lib.hid hN
 have hdl := dec_len_top hN
 have HE := Lib.hid (decB_text N)
 have HL : Hid (textL n N = if n then 45 :: Lib.decDigits N else Lib.decDigits N) := Lib.hid rfl
 have HNE : Hid (Lib.decDigits N ≠ []) := Lib.hid (fun e => by
  rcases Nat.eq_zero_or_pos N with h0 | h0
  ·rw [h0, dec_zero] at e; cases e
  ·have h2 := decD_pos h0
   rw [decD_eq h0, e] at h2
   simp at h2)
 generalize textL n N = tl at *
 generalize Lib.decDigits N = l at *
 obtain ⟨A1, m1, c1, rfl⟩ := h1.form3
 obtain ⟨ht0, hcc⟩ := box1 w n (.slice A1 m1 c1)
 unfold W1I at ht0 hcc
 have HC := Lib.hid hcc
 clear h1 hN hs hcc
 go_enter Tryz.func85, Tryz.ntmps85
 go_wp2_with fail
 generalize (w.alloc (.cells #[.bool n, .slice A1 m1 c1] 32)) = w0 at *
 with_reducible refine (HV1.out w0 ht0).mono ?_
 rintro r w1 ⟨rfl, ht1⟩
 dsimp only
 obtain ⟨p0, p1⟩ := HC.out w1 ht1
 go_wp2_with fail
 with_reducible refine (HN1.out w1 (ht0.then0 ht1)).mono ?_
 rintro r w2 ⟨v2, rfl, hw2, ht2⟩
 dsimp only
 replace ht2 := ht1.then0 ht2
 have HD := Lib.hid (decimal_w v2 N _ w2 hw2 (Lib.hid rfl) HNT.out)
 obtain ⟨A2, m2, c2, rfl⟩ := hw2.form3
 clear hw2 p0 p1 ht1
 go_wp2_with fail
 with_reducible refine HD.out.mono ?_
 rintro r w3 ⟨d3, rfl, hd3, ht3⟩
 dsimp only
 replace ht3 := ht2.then0 ht3
 rw [HE.out] at hd3
 have hcv := conv_text w3 hd3 HNE.out
 obtain ⟨A3, m3, c3, rfl⟩ := hd3.form3
 obtain ⟨p0, p1⟩ := HC.out w3 ht3
 have hs1 : ¬ 9223372036854775807 < 1 + l.length := by omega
 clear hd3 ht2
 cases n with
 | false =>
  go_wp2_with fail
  go_ret
  exact ⟨by rw [HL.out]; rfl, ht0.then0 ht3⟩
 | true =>
  go_wp2_with fail
  go_ret
  refine ⟨?_, ht0.then0 ht3⟩
  rw [HL.out, show (ByteArray.mk #[45]) = ByteArray.mk [45].toArray from rfl, tx_add]
  rfl
end Go.Proofs.YtedpaajpfaoffaaGreatDoor
