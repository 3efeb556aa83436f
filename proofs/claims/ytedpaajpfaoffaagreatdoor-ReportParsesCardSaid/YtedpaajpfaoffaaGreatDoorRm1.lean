/- The document's numbers: Divide (from 0 on), Same (of numbers from 0 on). -/
import Derived.Test.YtedpaajpfaoffaaGreatDoorRnB
import Derived.BigRegion
set_option linter.all false
set_option maxHeartbeats 4000000
set_option maxRecDepth 100000
namespace Go.Proofs.YtedpaajpfaoffaaGreatDoor
open Go.RowKit
theorem box2rs (w : World) (n1 n2 : Bool) (d1 d2 : Value) : ∀ W, Touch [w.heap.size + 1 + 1, w.heap.size + 1 + 1 + 1] (((W2I w n1 d1 n2 d2).alloc (.cells #[.bool false, .slice none 0 0] 32)).alloc (.cells #[.bool false, .slice none 0 0] 32)) W → ICell W w.heap.size n1 d1 ∧ ICell W (w.heap.size + 1) n2 d2 := by
 have b1 : Blk (W1I w n1 d1) w.heap.size 32 #[.bool n1, d1] := Blk.new _ _ _
 have b2 : Blk (W2I w n1 d1 n2 d2) (w.heap.size + 1) 32 #[.bool n2, d2] := by
  have := Blk.new (W1I w n1 d1) 32 #[.bool n2, d2]
  simpa using this
 intro W t
 have k1 := (((b1.alloc _).alloc _).alloc _).touch t (by simp <;> omega)
 have k2 := ((b2.alloc _).alloc _).touch t (by simp <;> omega)
 exact ⟨⟨(k1.cell 0).trans rfl, (k1.cell 1).trans rfl⟩, ⟨(k2.cell 0).trans rfl, (k2.cell 1).trans rfl⟩⟩
theorem int_res2' {w w3 : World} {g g' N n c N' n' c' : Nat} {t t' : TypeId} {A A' : Option Addr} (nb nb' : Bool) (b : Blk w3 g t #[.bool false, .slice none 0 0]) (b' : Blk w3 g' t' #[.bool false, .slice none 0 0]) (hgg : g < g') (hg : w.heap.size ≤ g) (ht : Touch [] w w3) (HD : Dgs w3 (.slice A n c) (dg N)) (HD' : Dgs w3 (.slice A' n' c') (dg N'))
  (W : World) (hW : W = (((w3.setCell ⟨g, 0, none⟩ (.bool nb)).setCell ⟨g, 1, none⟩ (.slice A n c)).setCell ⟨g', 0, none⟩ (.bool nb')).setCell ⟨g', 1, none⟩ (.slice A' n' c')) :
  (W.cell? ⟨g, 0, none⟩ = some (.bool nb) ∧ W.cell? ⟨g, 1, none⟩ = some (.slice A n c) ∧ W.cell? ⟨g', 0, none⟩ = some (.bool nb') ∧ W.cell? ⟨g', 1, none⟩ = some (.slice A' n' c')) ∧ IntAt W nb N (.agg #[.bool nb, .slice A n c]) ∧ IntAt W nb' N' (.agg #[.bool nb', .slice A' n' c']) ∧ Touch [] w W := by
 subst hW
 have f1 := HD.far2 b
 have f2 := HD.far2 b'
 have f3 := HD'.far2 b
 have f4 := HD'.far2 b'
 have c1 := (((b.set_ 0 (.bool nb)).set_ 1 (.slice A n c)).far (p := ⟨g', 0, none⟩) (by show g ≠ g'; omega) (.bool nb')).far (p := ⟨g', 1, none⟩) (by show g ≠ g'; omega) (.slice A' n' c')
 have c2 := (((b'.far (p := ⟨g, 0, none⟩) (by show g' ≠ g; omega) (.bool nb)).far (p := ⟨g, 1, none⟩) (by show g' ≠ g; omega) (.slice A n c)).set_ 0 (.bool nb')).set_ 1 (.slice A' n' c')
 have kt : Touch [g, g'] w3 ((((w3.setCell ⟨g, 0, none⟩ (.bool nb)).setCell ⟨g, 1, none⟩ (.slice A n c)).setCell ⟨g', 0, none⟩ (.bool nb')).setCell ⟨g', 1, none⟩ (.slice A' n' c')) := ((((Touch.refl _ _).setCell (p := ⟨g, 0, none⟩) (.inl (by simp)) _).setCell (p := ⟨g, 1, none⟩) (.inl (by simp)) _).setCell (p := ⟨g', 0, none⟩) (.inl (by simp)) _).setCell (p := ⟨g', 1, none⟩) (.inl (by simp)) _
 refine ⟨⟨(c1.cell 0).trans (by simp), (c1.cell 1).trans (by simp), (c2.cell 0).trans (by simp), (c2.cell 1).trans (by simp)⟩, ⟨A, n, c, rfl, HD.touch kt (fun k hk hm => ?_)⟩, ⟨A', n', c', rfl, HD'.touch kt (fun k hk hm => ?_)⟩, ht.step kt (fun m hm => .inr ?_)⟩
 ·have h1 := f1 k hk; have h2 := f2 k hk
  simp at hm
  omega
 ·have h1 := f3 k hk; have h2 := f4 k hk
  simp at hm
  omega
 ·simp at hm
  omega
theorem rDivide_any (d1 d2 : Value) (A B : Nat) (w : World) (h1 : Dgs w d1 (dg A)) (h2 : Dgs w d2 (dg B)) (hA : A < Top) (hB : B < Top) (hB0 : 0 < B) :
  Calls Tryz.prog 36 #[.agg #[.bool false, d1], .agg #[.bool false, d2]] w fun r w' => ∃ x y, r = .returned (.tuple #[x, y]) ∧ IntAt w' false (A / B) x ∧ IntAt w' false (A % B) y ∧ Touch [] w w' := by
 have HN1 := Lib.hid (fun W (t : Touch [] w W) => rabs_top false d1 A W (h1.touch0 t) hA)
 have HN2 := Lib.hid (fun W (t : Touch [] w W) => rabs_top false d2 B W (h2.touch0 t) hB)
 have HSP := Lib.hid (fun W a b (ha : Dgs W a (wordsOf 256 A)) (hb : Dgs W b (wordsOf 256 B)) => rsplit_any a b A B W ha hb (len_w8 hA) (len_w8 hB) hB0)
 have HM1 := Lib.hid (fun W a (ha : Dgs W a (wordsOf 256 (A / B))) => rmake_w false a _ (A / B) W ha (nv_words two256 _) (by have := len_w8 (div_top (B := B) hA); omega))
 have HM2 := Lib.hid (fun W a (ha : Dgs W a (wordsOf 256 (A % B))) => rmake_w false a _ (A % B) W ha (nv_words two256 _) (by have := len_w8 (Nat.lt_of_le_of_lt (Nat.mod_le A B) hA); omega))
 rw [show sg false (A / B) = false from rfl] at HM1
 rw [show sg false (A % B) = false from rfl] at HM2
 generalize A / B = Q at *
 generalize A % B = R at *
 obtain ⟨A1, m1, c1, rfl⟩ := h1.form3
 obtain ⟨A2, m2, c2, rfl⟩ := h2.form3
 obtain ⟨ht0, hcc⟩ := box2rr w false false (.slice A1 m1 c1) (.slice A2 m2 c2)
 have hcs := box2rs w false false (.slice A1 m1 c1) (.slice A2 m2 c2)
 unfold W2I at ht0 hcc hcs
 have HC := Lib.hid hcc
 have HCS := Lib.hid hcs
 clear h1 h2 hA hB hB0 hcc hcs
 go_enter Tryz.func36, Tryz.ntmps36
 go_wp2_with fail
 generalize ((((w.alloc (.cells #[.bool false, .slice A1 m1 c1] 32)).alloc (.cells #[.bool false, .slice A2 m2 c2] 32)).alloc (.cells #[.bool false, .slice none 0 0] 32)).alloc (.cells #[.bool false, .slice none 0 0] 32)) = w0 at *
 have hT := (Touch.refl [] w0).drew
 have HT0 := Lib.hid ht0
 clear ht0
 go_region_held3 (fun W' => W'.cell? ⟨w.heap.size, 0, none⟩ = some (.bool false) ∧ W'.cell? ⟨w.heap.size, 1, none⟩ = some (.slice A1 m1 c1) ∧ W'.cell? ⟨w.heap.size + 1, 0, none⟩ = some (.bool false) ∧ W'.cell? ⟨w.heap.size + 1, 1, none⟩ = some (.slice A2 m2 c2)) (exact ⟨(HC.out _ hT).1.1, (HC.out _ hT).1.2, (HC.out _ hT).2.1.1, (HC.out _ hT).2.1.2⟩) (first
  | (go_at_call 86; (first
    | (with_reducible refine (HN1.out _ (HT0.out.then0 hT)).mono ?_; rintro r w6 ⟨v6, rfl, hw6, ht6⟩; (try dsimp only); have HA := Lib.hid hw6; obtain ⟨A6, n6, c6, e6⟩ := hw6.form3; subst e6; (try replace HB := Lib.hid (HB.out.touch0 ht6)))
    | (with_reducible refine (HN2.out _ (HT0.out.then0 hT)).mono ?_; rintro r w6 ⟨v6, rfl, hw6, ht6⟩; (try dsimp only); have HB := Lib.hid hw6; obtain ⟨A7, n7, c7, e7⟩ := hw6.form3; subst e7; (try replace HA := Lib.hid (HA.out.touch0 ht6)))); replace hT := hT.then0 ht6; clear ht6 hw6)
  | (go_at_call 87; with_reducible refine (HSP.out _ _ _ HA.out HB.out).mono ?_; rintro r w6 ⟨q6, r6, rfl, hq6, hr6, ht6⟩; (try dsimp only); have HQ := Lib.hid hq6; have HR := Lib.hid hr6; obtain ⟨A8, n8, c8, e8⟩ := hq6.form3; subst e8; obtain ⟨A9, n9, c9, e9⟩ := hr6.form3; subst e9; replace hT := hT.then0 ht6; clear ht6 hq6 hr6))
 all_goals
  obtain ⟨⟨p0, p1⟩, ⟨p2, p3⟩, _⟩ := HC.out _ hT
  have HTW := Lib.hid hT
  have HKP := Lib.hid (fun W (t : Touch [w.heap.size + 1 + 1, w.heap.size + 1 + 1 + 1] w0 W) => (⟨(HCS.out W t).1.1, (HCS.out W t).1.2, (HCS.out W t).2.1, (HCS.out W t).2.2⟩ : W.cell? ⟨w.heap.size, 0, none⟩ = some (.bool false) ∧ W.cell? ⟨w.heap.size, 1, none⟩ = some (.slice A1 m1 c1) ∧ W.cell? ⟨w.heap.size + 1, 0, none⟩ = some (.bool false) ∧ W.cell? ⟨w.heap.size + 1, 1, none⟩ = some (.slice A2 m2 c2)))
  clear hT
  by_cases hn9 : n9 = 0
  ·subst hn9
   go_wp2_with fail
   have hT6 := (Touch.refl [] w6).drew
   clear p0 p1 p2 p3
   go_region_held3 (fun W' => W'.cell? ⟨w.heap.size, 0, none⟩ = some (.bool false) ∧ W'.cell? ⟨w.heap.size, 1, none⟩ = some (.slice A1 m1 c1) ∧ W'.cell? ⟨w.heap.size + 1, 0, none⟩ = some (.bool false) ∧ W'.cell? ⟨w.heap.size + 1, 1, none⟩ = some (.slice A2 m2 c2)) (first | exact HKP.out _ ((HTW.out.then0 hT6).mono (M := [w.heap.size + 1 + 1, w.heap.size + 1 + 1 + 1]) (by simp)) | exact HKP.out _ (((((HTW.out.then0 hT6).mono (M := [w.heap.size + 1 + 1, w.heap.size + 1 + 1 + 1]) (by simp))).setCell (p := ⟨w.heap.size + 1 + 1, 0, none⟩) (.inl (by simp)) _).setCell (p := ⟨w.heap.size + 1 + 1, 1, none⟩) (.inl (by simp)) _) | exact HKP.out _ (((((HTW.out.then0 hT6).mono (M := [w.heap.size + 1 + 1, w.heap.size + 1 + 1 + 1]) (by simp))).setCell (p := ⟨w.heap.size + 1 + 1 + 1, 0, none⟩) (.inl (by simp)) _).setCell (p := ⟨w.heap.size + 1 + 1 + 1, 1, none⟩) (.inl (by simp)) _) | exact HKP.out _ (((((((HTW.out.then0 hT6).mono (M := [w.heap.size + 1 + 1, w.heap.size + 1 + 1 + 1]) (by simp))).setCell (p := ⟨w.heap.size + 1 + 1, 0, none⟩) (.inl (by simp)) _).setCell (p := ⟨w.heap.size + 1 + 1, 1, none⟩) (.inl (by simp)) _).setCell (p := ⟨w.heap.size + 1 + 1 + 1, 0, none⟩) (.inl (by simp)) _).setCell (p := ⟨w.heap.size + 1 + 1 + 1, 1, none⟩) (.inl (by simp)) _) | exact HKP.out _ (((((((HTW.out.then0 hT6).mono (M := [w.heap.size + 1 + 1, w.heap.size + 1 + 1 + 1]) (by simp))).setCell (p := ⟨w.heap.size + 1 + 1 + 1, 0, none⟩) (.inl (by simp)) _).setCell (p := ⟨w.heap.size + 1 + 1 + 1, 1, none⟩) (.inl (by simp)) _).setCell (p := ⟨w.heap.size + 1 + 1, 0, none⟩) (.inl (by simp)) _).setCell (p := ⟨w.heap.size + 1 + 1, 1, none⟩) (.inl (by simp)) _)) ((go_at_call 88; (first
     | (with_reducible refine (HM1.out _ _ (HQ.out.touch0 hT6)).mono ?_; rintro r wa ⟨x1, rfl, hx1, hta⟩; obtain ⟨Aq, nq, cq, eq, hdq⟩ := hx1.ex; subst eq; (try dsimp only); have HDQ := Lib.hid hdq; replace hT6 := hT6.then0 hta; clear hta hdq hx1)
     | (with_reducible refine (HM2.out _ _ (HR.out.touch0 hT6)).mono ?_; rintro r wb ⟨x2, rfl, hx2, htb⟩; obtain ⟨Ar, nr, cr, er, hdr⟩ := hx2.ex; subst er; (try dsimp only); have HDR := Lib.hid hdr; replace HDQ := Lib.hid (HDQ.out.touch0 htb); replace hT6 := hT6.then0 htb; have b45 := (HC.out _ (HTW.out.then0 hT6)).2.2; have q0 := b45.1.cell 0; have q1 := b45.1.cell 1; have q2 := b45.1.frozen 0; have q3 := b45.1.frozen 1; have r0 := b45.2.cell 0; have r1 := b45.2.cell 1; have r2 := b45.2.frozen 0; have r3 := b45.2.frozen 1; simp at q0 q1 r0 r1; have HB4 := Lib.hid b45.1; have HB5 := Lib.hid b45.2; clear b45 htb hdr hx2))))
   all_goals
    go_wp2_with fail
    obtain ⟨⟨k0, k1, k2, k3⟩, k4, k5, k6⟩ := int_res2' false false HB4.out HB5.out (by omega) (by have := HT0.out.size; omega) (HT0.out.then0 (HTW.out.then0 hT6)) HDQ.out HDR.out _ rfl
    refine bodyPost_ret (v := .tuple #[.agg #[.bool false, .slice Aq nq cq], .agg #[.bool false, .slice Ar nr cr]]) (by simp [results, Tryz.results36, go_sem, k0, k1, k2, k3]) rfl ⟨_, _, rfl, k4, k5, k6⟩
  ·have hn9p : (0 : Int) < (n9 : Int) := by omega
   go_wp2_with fail
   have hT6 := (Touch.refl [] w6).drew
   clear p0 p1 p2 p3
   go_region_held3 (fun W' => W'.cell? ⟨w.heap.size, 0, none⟩ = some (.bool false) ∧ W'.cell? ⟨w.heap.size, 1, none⟩ = some (.slice A1 m1 c1) ∧ W'.cell? ⟨w.heap.size + 1, 0, none⟩ = some (.bool false) ∧ W'.cell? ⟨w.heap.size + 1, 1, none⟩ = some (.slice A2 m2 c2)) (first | exact HKP.out _ ((HTW.out.then0 hT6).mono (M := [w.heap.size + 1 + 1, w.heap.size + 1 + 1 + 1]) (by simp)) | exact HKP.out _ (((((HTW.out.then0 hT6).mono (M := [w.heap.size + 1 + 1, w.heap.size + 1 + 1 + 1]) (by simp))).setCell (p := ⟨w.heap.size + 1 + 1, 0, none⟩) (.inl (by simp)) _).setCell (p := ⟨w.heap.size + 1 + 1, 1, none⟩) (.inl (by simp)) _) | exact HKP.out _ (((((HTW.out.then0 hT6).mono (M := [w.heap.size + 1 + 1, w.heap.size + 1 + 1 + 1]) (by simp))).setCell (p := ⟨w.heap.size + 1 + 1 + 1, 0, none⟩) (.inl (by simp)) _).setCell (p := ⟨w.heap.size + 1 + 1 + 1, 1, none⟩) (.inl (by simp)) _) | exact HKP.out _ (((((((HTW.out.then0 hT6).mono (M := [w.heap.size + 1 + 1, w.heap.size + 1 + 1 + 1]) (by simp))).setCell (p := ⟨w.heap.size + 1 + 1, 0, none⟩) (.inl (by simp)) _).setCell (p := ⟨w.heap.size + 1 + 1, 1, none⟩) (.inl (by simp)) _).setCell (p := ⟨w.heap.size + 1 + 1 + 1, 0, none⟩) (.inl (by simp)) _).setCell (p := ⟨w.heap.size + 1 + 1 + 1, 1, none⟩) (.inl (by simp)) _) | exact HKP.out _ (((((((HTW.out.then0 hT6).mono (M := [w.heap.size + 1 + 1, w.heap.size + 1 + 1 + 1]) (by simp))).setCell (p := ⟨w.heap.size + 1 + 1 + 1, 0, none⟩) (.inl (by simp)) _).setCell (p := ⟨w.heap.size + 1 + 1 + 1, 1, none⟩) (.inl (by simp)) _).setCell (p := ⟨w.heap.size + 1 + 1, 0, none⟩) (.inl (by simp)) _).setCell (p := ⟨w.heap.size + 1 + 1, 1, none⟩) (.inl (by simp)) _)) ((go_at_call 88; (first
     | (with_reducible refine (HM1.out _ _ (HQ.out.touch0 hT6)).mono ?_; rintro r wa ⟨x1, rfl, hx1, hta⟩; obtain ⟨Aq, nq, cq, eq, hdq⟩ := hx1.ex; subst eq; (try dsimp only); have HDQ := Lib.hid hdq; replace hT6 := hT6.then0 hta; clear hta hdq hx1)
     | (with_reducible refine (HM2.out _ _ (HR.out.touch0 hT6)).mono ?_; rintro r wb ⟨x2, rfl, hx2, htb⟩; obtain ⟨Ar, nr, cr, er, hdr⟩ := hx2.ex; subst er; (try dsimp only); have HDR := Lib.hid hdr; replace HDQ := Lib.hid (HDQ.out.touch0 htb); replace hT6 := hT6.then0 htb; have b45 := (HC.out _ (HTW.out.then0 hT6)).2.2; have q0 := b45.1.cell 0; have q1 := b45.1.cell 1; have q2 := b45.1.frozen 0; have q3 := b45.1.frozen 1; have r0 := b45.2.cell 0; have r1 := b45.2.cell 1; have r2 := b45.2.frozen 0; have r3 := b45.2.frozen 1; simp at q0 q1 r0 r1; have HB4 := Lib.hid b45.1; have HB5 := Lib.hid b45.2; clear b45 htb hdr hx2))))
   all_goals
    go_wp2_with fail
    obtain ⟨⟨k0, k1, k2, k3⟩, k4, k5, k6⟩ := int_res2' false false HB4.out HB5.out (by omega) (by have := HT0.out.size; omega) (HT0.out.then0 (HTW.out.then0 hT6)) HDQ.out HDR.out _ rfl
    refine bodyPost_ret (v := .tuple #[.agg #[.bool false, .slice Aq nq cq], .agg #[.bool false, .slice Ar nr cr]]) (by simp [results, Tryz.results36, go_sem, k0, k1, k2, k3]) rfl ⟨_, _, rfl, k4, k5, k6⟩
end Go.Proofs.YtedpaajpfaoffaaGreatDoor
