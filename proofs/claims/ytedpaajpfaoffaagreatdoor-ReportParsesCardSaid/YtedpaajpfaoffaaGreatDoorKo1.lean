/- The example's ratios: bandplanref01.Of at four numbers, Divide of a negative number without a remainder, bandplanref02.Reduce, Of. -/
import Derived.Test.YtedpaajpfaoffaaGreatDoorRmA
set_option linter.all false
set_option maxHeartbeats 4000000
set_option maxRecDepth 100000
namespace Go.Proofs.YtedpaajpfaoffaaGreatDoor
open Go.RowKit
theorem Rows_.len_eq {α : Type} {c : Nat} {f : α → List Value} {fit : α → Prop} {w : World} {A : Option Addr} {n cap : Nat} {xs : List α} (h : Rows_ c f fit w (.slice A n cap) xs) : n = xs.length := by
 obtain ⟨A', cap', e⟩ := h.form
 injection e
theorem rOf2469 (w : World) : Calls Tryz.prog 35 #[.int .i64 2469] w fun r w' => ∃ x, r = .returned x ∧ IntAt w' false 2469 x ∧ Touch [] w w' := by
 have b0 : Blk (w.alloc (.cells #[.bool false, .slice none 0 0] 32)) w.heap.size 32 #[.bool false, .slice none 0 0] := Blk.new _ _ _
 have ht0 : Touch [] w (w.alloc (.cells #[.bool false, .slice none 0 0] 32)) := (Touch.refl _ _).alloc _
 go_enter Tryz.func35, Tryz.ntmps35
 go_wp2_with fail
 generalize (w.alloc (.cells #[.bool false, .slice none 0 0] 32)) = w0 at *
 have HB0 := Lib.hid b0
 have HT0 := Lib.hid ht0
 clear b0 ht0
 go_loopw [3, 4] (fun to tm wr => (to = .slice none 0 0 ∧ tm = .int .i64 2469 ∧ wr = w0) ∨ (tm = .int .i64 9 ∧ Row8 wr to [165] ∧ (∀ g ∈ blk to, w0.heap.size ≤ g) ∧ Touch [] w0 wr) ∨ (tm = .int .i64 0 ∧ Row8 wr to [165, 9] ∧ (∀ g ∈ blk to, w0.heap.size ≤ g) ∧ Touch [] w0 wr)) (fun _ tm _ => (intOf tm).natAbs)
 case atStart => exact .inl ⟨rfl, rfl, rfl⟩
 case round =>
  rcases hrel with ⟨rfl, rfl, rfl⟩ | ⟨rfl, hr, hb, ht⟩ | ⟨rfl, hr, hb, ht⟩
  ·go_wp2_with (at_builtin; go_must (refine app_new elem_rnat (Own.nil _ _ 1) [_] 1 1 (by omega) (by unfold maxLen; omega) ?_); intro v1 w1 ho1 hg1 hf1)
   go_roundw
   case rel => exact (.inr (.inl ⟨rfl, by simpa [Row8, u8v] using ho1, hf1.none_, hg1⟩))
   case measure => simp [intOf]
  ·obtain ⟨A1, c1, rfl⟩ := hr.form
   go_wp2_with (at_builtin; go_must (refine app_new elem_rnat hr [_] 1 1 (by simp) (by unfold maxLen; simp) ?_); intro v1 w1 ho1 hg1 hf1)
   go_roundw
   case rel => exact (.inr (.inr ⟨rfl, by simpa [Row8, u8v] using ho1, From.fresh8 ht hb hf1, Touch.fresh8 ht hb hg1⟩))
   case measure => simp [intOf]
  ·have HD := Lib.hid (hr.dgs (fun x hx => by simp at hx; omega))
   have HM := Lib.hid (rmake_w false _ [165, 9] 2469 wr HD.out (by simp [nv]) (by simp))
   obtain ⟨A1, c1, rfl⟩ := hr.form
   clear hr
   simp only [List.length_singleton, List.length_cons, List.length_nil, Nat.zero_add, Nat.reduceAdd] at HM ⊢
   go_wp2_with fail
   with_reducible refine HM.out.mono ?_
   rintro r w2 ⟨x, rfl, ⟨A3, m3, c3, rfl, hd3⟩, ht2⟩
   dsimp only
   have ht3 := ht.then0 ht2
   have b1 := HB0.out.touch ht3 (by simp)
   have q0 := b1.cell 0
   have q1 := b1.cell 1
   have q2 := b1.frozen 0
   have q3 := b1.frozen 1
   simp at q0 q1
   have HB1 := Lib.hid b1
   have HD3 := Lib.hid hd3
   clear b1 ht2 hd3
   go_wp2_with fail
   obtain ⟨k, k1, k2⟩ := int_res' (sg false 2469) HB1.out (Nat.le_refl _) (HT0.out.then0 ht3) HD3.out _ rfl
   refine bodyPost_ret (v := .agg #[.bool (sg false 2469), .slice A3 m3 c3]) (by simp [results, Tryz.results35, go_sem, k.1, k.2]) rfl ⟨_, rfl, by simpa [sg] using k1, k2⟩
theorem rOf2 (w : World) : Calls Tryz.prog 35 #[.int .i64 2] w fun r w' => ∃ x, r = .returned x ∧ IntAt w' false 2 x ∧ Touch [] w w' := by
 have b0 : Blk (w.alloc (.cells #[.bool false, .slice none 0 0] 32)) w.heap.size 32 #[.bool false, .slice none 0 0] := Blk.new _ _ _
 have ht0 : Touch [] w (w.alloc (.cells #[.bool false, .slice none 0 0] 32)) := (Touch.refl _ _).alloc _
 go_enter Tryz.func35, Tryz.ntmps35
 go_wp2_with fail
 generalize (w.alloc (.cells #[.bool false, .slice none 0 0] 32)) = w0 at *
 have HB0 := Lib.hid b0
 have HT0 := Lib.hid ht0
 clear b0 ht0
 go_loopw [3, 4] (fun to tm wr => (to = .slice none 0 0 ∧ tm = .int .i64 2 ∧ wr = w0) ∨ (tm = .int .i64 0 ∧ Row8 wr to [2] ∧ (∀ g ∈ blk to, w0.heap.size ≤ g) ∧ Touch [] w0 wr)) (fun _ tm _ => (intOf tm).natAbs)
 case atStart => exact .inl ⟨rfl, rfl, rfl⟩
 case round =>
  rcases hrel with ⟨rfl, rfl, rfl⟩ | ⟨rfl, hr, hb, ht⟩
  ·go_wp2_with (at_builtin; go_must (refine app_new elem_rnat (Own.nil _ _ 1) [_] 1 1 (by omega) (by unfold maxLen; omega) ?_); intro v1 w1 ho1 hg1 hf1)
   go_roundw
   case rel => exact (.inr ⟨rfl, by simpa [Row8, u8v] using ho1, hf1.none_, hg1⟩)
   case measure => simp [intOf]
  ·have HD := Lib.hid (hr.dgs (fun x hx => by simp at hx; omega))
   have HM := Lib.hid (rmake_w false _ [2] 2 wr HD.out (by simp [nv]) (by simp))
   obtain ⟨A1, c1, rfl⟩ := hr.form
   clear hr
   simp only [List.length_singleton, List.length_cons, List.length_nil, Nat.zero_add, Nat.reduceAdd] at HM ⊢
   go_wp2_with fail
   with_reducible refine HM.out.mono ?_
   rintro r w2 ⟨x, rfl, ⟨A3, m3, c3, rfl, hd3⟩, ht2⟩
   dsimp only
   have ht3 := ht.then0 ht2
   have b1 := HB0.out.touch ht3 (by simp)
   have q0 := b1.cell 0
   have q1 := b1.cell 1
   have q2 := b1.frozen 0
   have q3 := b1.frozen 1
   simp at q0 q1
   have HB1 := Lib.hid b1
   have HD3 := Lib.hid hd3
   clear b1 ht2 hd3
   go_wp2_with fail
   obtain ⟨k, k1, k2⟩ := int_res' (sg false 2) HB1.out (Nat.le_refl _) (HT0.out.then0 ht3) HD3.out _ rfl
   refine bodyPost_ret (v := .agg #[.bool (sg false 2), .slice A3 m3 c3]) (by simp [results, Tryz.results35, go_sem, k.1, k.2]) rfl ⟨_, rfl, by simpa [sg] using k1, k2⟩
theorem rOfM1 (w : World) : Calls Tryz.prog 35 #[.int .i64 (-1)] w fun r w' => ∃ x, r = .returned x ∧ IntAt w' true 1 x ∧ Touch [] w w' := by
 have b0 : Blk (w.alloc (.cells #[.bool false, .slice none 0 0] 32)) w.heap.size 32 #[.bool false, .slice none 0 0] := Blk.new _ _ _
 have ht0 : Touch [] w (w.alloc (.cells #[.bool false, .slice none 0 0] 32)) := (Touch.refl _ _).alloc _
 go_enter Tryz.func35, Tryz.ntmps35
 go_wp2_with fail
 generalize (w.alloc (.cells #[.bool false, .slice none 0 0] 32)) = w0 at *
 have HB0 := Lib.hid b0
 have HT0 := Lib.hid ht0
 clear b0 ht0
 go_loopw [3, 4] (fun to tm wr => (to = .slice none 0 0 ∧ tm = .int .i64 (-1) ∧ wr = w0) ∨ (tm = .int .i64 0 ∧ Row8 wr to [1] ∧ (∀ g ∈ blk to, w0.heap.size ≤ g) ∧ Touch [] w0 wr)) (fun _ tm _ => (intOf tm).natAbs)
 case atStart => exact .inl ⟨rfl, rfl, rfl⟩
 case round =>
  rcases hrel with ⟨rfl, rfl, rfl⟩ | ⟨rfl, hr, hb, ht⟩
  ·go_wp2_with (at_builtin; go_must (refine app_new elem_rnat (Own.nil _ _ 1) [_] 1 1 (by omega) (by unfold maxLen; omega) ?_); intro v1 w1 ho1 hg1 hf1)
   go_roundw
   case rel => exact (.inr ⟨rfl, by simpa [Row8, u8v] using ho1, hf1.none_, hg1⟩)
   case measure => simp [intOf]
  ·have HD := Lib.hid (hr.dgs (fun x hx => by simp at hx; omega))
   have HM := Lib.hid (rmake_w true _ [1] 1 wr HD.out (by simp [nv]) (by simp))
   obtain ⟨A1, c1, rfl⟩ := hr.form
   clear hr
   simp only [List.length_singleton, List.length_cons, List.length_nil, Nat.zero_add, Nat.reduceAdd] at HM ⊢
   go_wp2_with fail
   with_reducible refine HM.out.mono ?_
   rintro r w2 ⟨x, rfl, ⟨A3, m3, c3, rfl, hd3⟩, ht2⟩
   dsimp only
   have ht3 := ht.then0 ht2
   have b1 := HB0.out.touch ht3 (by simp)
   have q0 := b1.cell 0
   have q1 := b1.cell 1
   have q2 := b1.frozen 0
   have q3 := b1.frozen 1
   simp at q0 q1
   have HB1 := Lib.hid b1
   have HD3 := Lib.hid hd3
   clear b1 ht2 hd3
   go_wp2_with fail
   obtain ⟨k, k1, k2⟩ := int_res' (sg true 1) HB1.out (Nat.le_refl _) (HT0.out.then0 ht3) HD3.out _ rfl
   refine bodyPost_ret (v := .agg #[.bool (sg true 1), .slice A3 m3 c3]) (by simp [results, Tryz.results35, go_sem, k.1, k.2]) rfl ⟨_, rfl, by simpa [sg] using k1, k2⟩
theorem rOf3 (w : World) : Calls Tryz.prog 35 #[.int .i64 3] w fun r w' => ∃ x, r = .returned x ∧ IntAt w' false 3 x ∧ Touch [] w w' := by
 have b0 : Blk (w.alloc (.cells #[.bool false, .slice none 0 0] 32)) w.heap.size 32 #[.bool false, .slice none 0 0] := Blk.new _ _ _
 have ht0 : Touch [] w (w.alloc (.cells #[.bool false, .slice none 0 0] 32)) := (Touch.refl _ _).alloc _
 go_enter Tryz.func35, Tryz.ntmps35
 go_wp2_with fail
 generalize (w.alloc (.cells #[.bool false, .slice none 0 0] 32)) = w0 at *
 have HB0 := Lib.hid b0
 have HT0 := Lib.hid ht0
 clear b0 ht0
 go_loopw [3, 4] (fun to tm wr => (to = .slice none 0 0 ∧ tm = .int .i64 3 ∧ wr = w0) ∨ (tm = .int .i64 0 ∧ Row8 wr to [3] ∧ (∀ g ∈ blk to, w0.heap.size ≤ g) ∧ Touch [] w0 wr)) (fun _ tm _ => (intOf tm).natAbs)
 case atStart => exact .inl ⟨rfl, rfl, rfl⟩
 case round =>
  rcases hrel with ⟨rfl, rfl, rfl⟩ | ⟨rfl, hr, hb, ht⟩
  ·go_wp2_with (at_builtin; go_must (refine app_new elem_rnat (Own.nil _ _ 1) [_] 1 1 (by omega) (by unfold maxLen; omega) ?_); intro v1 w1 ho1 hg1 hf1)
   go_roundw
   case rel => exact (.inr ⟨rfl, by simpa [Row8, u8v] using ho1, hf1.none_, hg1⟩)
   case measure => simp [intOf]
  ·have HD := Lib.hid (hr.dgs (fun x hx => by simp at hx; omega))
   have HM := Lib.hid (rmake_w false _ [3] 3 wr HD.out (by simp [nv]) (by simp))
   obtain ⟨A1, c1, rfl⟩ := hr.form
   clear hr
   simp only [List.length_singleton, List.length_cons, List.length_nil, Nat.zero_add, Nat.reduceAdd] at HM ⊢
   go_wp2_with fail
   with_reducible refine HM.out.mono ?_
   rintro r w2 ⟨x, rfl, ⟨A3, m3, c3, rfl, hd3⟩, ht2⟩
   dsimp only
   have ht3 := ht.then0 ht2
   have b1 := HB0.out.touch ht3 (by simp)
   have q0 := b1.cell 0
   have q1 := b1.cell 1
   have q2 := b1.frozen 0
   have q3 := b1.frozen 1
   simp at q0 q1
   have HB1 := Lib.hid b1
   have HD3 := Lib.hid hd3
   clear b1 ht2 hd3
   go_wp2_with fail
   obtain ⟨k, k1, k2⟩ := int_res' (sg false 3) HB1.out (Nat.le_refl _) (HT0.out.then0 ht3) HD3.out _ rfl
   refine bodyPost_ret (v := .agg #[.bool (sg false 3), .slice A3 m3 c3]) (by simp [results, Tryz.results35, go_sem, k.1, k.2]) rfl ⟨_, rfl, by simpa [sg] using k1, k2⟩
theorem rDivideN_any (d1 d2 : Value) (A B : Nat) (w : World) (h1 : Dgs w d1 (dg A)) (h2 : Dgs w d2 (dg B)) (hA : A < Top) (hB : B < Top) (hB0 : 0 < B) (hz : A % B = 0) (hq : 0 < A / B) :
  Calls Tryz.prog 36 #[.agg #[.bool true, d1], .agg #[.bool false, d2]] w fun r w' => ∃ x y, r = .returned (.tuple #[x, y]) ∧ IntAt w' true (A / B) x ∧ IntAt w' false 0 y ∧ Touch [] w w' := by
 have HN1 := Lib.hid (fun W (t : Touch [] w W) => rabs_top true d1 A W (h1.touch0 t) hA)
 have HN2 := Lib.hid (fun W (t : Touch [] w W) => rabs_top false d2 B W (h2.touch0 t) hB)
 have HSP := Lib.hid (fun W a b (ha : Dgs W a (wordsOf 256 A)) (hb : Dgs W b (wordsOf 256 B)) => rsplit_any a b A B W ha hb (len_w8 hA) (len_w8 hB) hB0)
 have HM1 := Lib.hid (fun W a (ha : Dgs W a (wordsOf 256 (A / B))) => rmake_w true a _ (A / B) W ha (nv_words two256 _) (by have := len_w8 (div_top (B := B) hA); omega))
 have HM2 := Lib.hid (fun W a (ha : Dgs W a (wordsOf 256 (A % B))) => rmake_w false a _ (A % B) W ha (nv_words two256 _) (by have := len_w8 (Nat.lt_of_le_of_lt (Nat.mod_le A B) hA); omega))
 rw [show sg true (A / B) = true from by simp [sg, hq]] at HM1
 rw [show sg false (A % B) = false from rfl] at HM2
 rw [hz] at HSP HM2
 generalize A / B = Q at *
 obtain ⟨A1, m1, c1, rfl⟩ := h1.form3
 obtain ⟨A2, m2, c2, rfl⟩ := h2.form3
 obtain ⟨ht0, hcc⟩ := box2rr w true false (.slice A1 m1 c1) (.slice A2 m2 c2)
 have hcs := box2rs w true false (.slice A1 m1 c1) (.slice A2 m2 c2)
 unfold W2I at ht0 hcc hcs
 have HC := Lib.hid hcc
 have HCS := Lib.hid hcs
 clear h1 h2 hA hB hB0 hcc hcs
 go_enter Tryz.func36, Tryz.ntmps36
 go_wp2_with fail
 generalize ((((w.alloc (.cells #[.bool true, .slice A1 m1 c1] 32)).alloc (.cells #[.bool false, .slice A2 m2 c2] 32)).alloc (.cells #[.bool false, .slice none 0 0] 32)).alloc (.cells #[.bool false, .slice none 0 0] 32)) = w0 at *
 have hT := (Touch.refl [] w0).drew
 have HT0 := Lib.hid ht0
 clear ht0
 go_region_held3 (fun W' => W'.cell? ⟨w.heap.size, 0, none⟩ = some (.bool true) ∧ W'.cell? ⟨w.heap.size, 1, none⟩ = some (.slice A1 m1 c1) ∧ W'.cell? ⟨w.heap.size + 1, 0, none⟩ = some (.bool false) ∧ W'.cell? ⟨w.heap.size + 1, 1, none⟩ = some (.slice A2 m2 c2)) (exact ⟨(HC.out _ hT).1.1, (HC.out _ hT).1.2, (HC.out _ hT).2.1.1, (HC.out _ hT).2.1.2⟩) (first
  | (go_at_call 86; (first
    | (with_reducible refine (HN1.out _ (HT0.out.then0 hT)).mono ?_; rintro r w6 ⟨v6, rfl, hw6, ht6⟩; (try dsimp only); have HA := Lib.hid hw6; obtain ⟨A6, n6, c6, e6⟩ := hw6.form3; subst e6; (try replace HB := Lib.hid (HB.out.touch0 ht6)))
    | (with_reducible refine (HN2.out _ (HT0.out.then0 hT)).mono ?_; rintro r w6 ⟨v6, rfl, hw6, ht6⟩; (try dsimp only); have HB := Lib.hid hw6; obtain ⟨A7, n7, c7, e7⟩ := hw6.form3; subst e7; (try replace HA := Lib.hid (HA.out.touch0 ht6)))); replace hT := hT.then0 ht6; clear ht6 hw6)
  | (go_at_call 87; with_reducible refine (HSP.out _ _ _ HA.out HB.out).mono ?_; rintro r w6 ⟨q6, r6, rfl, hq6, hr6, ht6⟩; (try dsimp only); have HQ := Lib.hid hq6; have HR := Lib.hid hr6; obtain ⟨A8, n8, c8, e8⟩ := hq6.form3; subst e8; obtain ⟨A9, n9, c9, e9⟩ := hr6.form3; subst e9; replace hT := hT.then0 ht6; clear ht6 hq6 hr6))
 all_goals
  obtain ⟨⟨p0, p1⟩, ⟨p2, p3⟩, _⟩ := HC.out _ hT
  have HTW := Lib.hid hT
  have HKP := Lib.hid (fun W (t : Touch [w.heap.size + 1 + 1, w.heap.size + 1 + 1 + 1] w0 W) => (⟨(HCS.out W t).1.1, (HCS.out W t).1.2, (HCS.out W t).2.1, (HCS.out W t).2.2⟩ : W.cell? ⟨w.heap.size, 0, none⟩ = some (.bool true) ∧ W.cell? ⟨w.heap.size, 1, none⟩ = some (.slice A1 m1 c1) ∧ W.cell? ⟨w.heap.size + 1, 0, none⟩ = some (.bool false) ∧ W.cell? ⟨w.heap.size + 1, 1, none⟩ = some (.slice A2 m2 c2)))
  clear hT
  have hn9 : n9 = 0 := HR.out.len_eq.trans rfl
  subst hn9
  ·skip
   go_wp2_with fail
   have hT6 := (Touch.refl [] w6).drew
   clear p0 p1 p2 p3
   go_region_held3 (fun W' => W'.cell? ⟨w.heap.size, 0, none⟩ = some (.bool true) ∧ W'.cell? ⟨w.heap.size, 1, none⟩ = some (.slice A1 m1 c1) ∧ W'.cell? ⟨w.heap.size + 1, 0, none⟩ = some (.bool false) ∧ W'.cell? ⟨w.heap.size + 1, 1, none⟩ = some (.slice A2 m2 c2)) (first | exact HKP.out _ ((HTW.out.then0 hT6).mono (M := [w.heap.size + 1 + 1, w.heap.size + 1 + 1 + 1]) (by simp)) | exact HKP.out _ (((((HTW.out.then0 hT6).mono (M := [w.heap.size + 1 + 1, w.heap.size + 1 + 1 + 1]) (by simp))).setCell (p := ⟨w.heap.size + 1 + 1, 0, none⟩) (.inl (by simp)) _).setCell (p := ⟨w.heap.size + 1 + 1, 1, none⟩) (.inl (by simp)) _) | exact HKP.out _ (((((HTW.out.then0 hT6).mono (M := [w.heap.size + 1 + 1, w.heap.size + 1 + 1 + 1]) (by simp))).setCell (p := ⟨w.heap.size + 1 + 1 + 1, 0, none⟩) (.inl (by simp)) _).setCell (p := ⟨w.heap.size + 1 + 1 + 1, 1, none⟩) (.inl (by simp)) _) | exact HKP.out _ (((((((HTW.out.then0 hT6).mono (M := [w.heap.size + 1 + 1, w.heap.size + 1 + 1 + 1]) (by simp))).setCell (p := ⟨w.heap.size + 1 + 1, 0, none⟩) (.inl (by simp)) _).setCell (p := ⟨w.heap.size + 1 + 1, 1, none⟩) (.inl (by simp)) _).setCell (p := ⟨w.heap.size + 1 + 1 + 1, 0, none⟩) (.inl (by simp)) _).setCell (p := ⟨w.heap.size + 1 + 1 + 1, 1, none⟩) (.inl (by simp)) _) | exact HKP.out _ (((((((HTW.out.then0 hT6).mono (M := [w.heap.size + 1 + 1, w.heap.size + 1 + 1 + 1]) (by simp))).setCell (p := ⟨w.heap.size + 1 + 1 + 1, 0, none⟩) (.inl (by simp)) _).setCell (p := ⟨w.heap.size + 1 + 1 + 1, 1, none⟩) (.inl (by simp)) _).setCell (p := ⟨w.heap.size + 1 + 1, 0, none⟩) (.inl (by simp)) _).setCell (p := ⟨w.heap.size + 1 + 1, 1, none⟩) (.inl (by simp)) _)) ((go_at_call 88; (first
     | (with_reducible refine (HM1.out _ _ (HQ.out.touch0 hT6)).mono ?_; rintro r wa ⟨x1, rfl, hx1, hta⟩; obtain ⟨Aq, nq, cq, eq, hdq⟩ := hx1.ex; subst eq; (try dsimp only); have HDQ := Lib.hid hdq; replace hT6 := hT6.then0 hta; clear hta hdq hx1)
     | (with_reducible refine (HM2.out _ _ (HR.out.touch0 hT6)).mono ?_; rintro r wb ⟨x2, rfl, hx2, htb⟩; obtain ⟨Ar, nr, cr, er, hdr⟩ := hx2.ex; subst er; (try dsimp only); have HDR := Lib.hid hdr; replace HDQ := Lib.hid (HDQ.out.touch0 htb); replace hT6 := hT6.then0 htb; have b45 := (HC.out _ (HTW.out.then0 hT6)).2.2; have q0 := b45.1.cell 0; have q1 := b45.1.cell 1; have q2 := b45.1.frozen 0; have q3 := b45.1.frozen 1; have r0 := b45.2.cell 0; have r1 := b45.2.cell 1; have r2 := b45.2.frozen 0; have r3 := b45.2.frozen 1; simp at q0 q1 r0 r1; have HB4 := Lib.hid b45.1; have HB5 := Lib.hid b45.2; clear b45 htb hdr hx2))))
   all_goals
    go_wp2_with fail
    obtain ⟨⟨k0, k1, k2, k3⟩, k4, k5, k6⟩ := int_res2' true false HB4.out HB5.out (by omega) (by have := HT0.out.size; omega) (HT0.out.then0 (HTW.out.then0 hT6)) HDQ.out HDR.out _ rfl
    refine bodyPost_ret (v := .tuple #[.agg #[.bool true, .slice Aq nq cq], .agg #[.bool false, .slice Ar nr cr]]) (by simp [results, Tryz.results36, go_sem, k0, k1, k2, k3]) rfl ⟨_, _, rfl, k4, k5, k6⟩
theorem boxrd (w : World) (n1 n2 : Bool) (d1 d2 : Value) : Touch [] w ((W2I w n1 d1 n2 d2).alloc (.cells #[.bool false, .slice none 0 0, .bool false, .slice none 0 0] 34)) ∧ ∀ W, Touch [] ((W2I w n1 d1 n2 d2).alloc (.cells #[.bool false, .slice none 0 0, .bool false, .slice none 0 0] 34)) W → ICell W w.heap.size n1 d1 ∧ ICell W (w.heap.size + 1) n2 d2 ∧ Blk W (w.heap.size + 1 + 1) 34 #[.bool false, .slice none 0 0, .bool false, .slice none 0 0] := by
 obtain ⟨t0, hc⟩ := box2 w n1 n2 d1 d2
 have ta := (Touch.refl [] (W2I w n1 d1 n2 d2)).alloc (.cells #[.bool false, .slice none 0 0, .bool false, .slice none 0 0] 34)
 refine ⟨t0.then0 ta, fun W t => ?_⟩
 have hb := Blk.new (W2I w n1 d1 n2 d2) 34 #[.bool false, .slice none 0 0, .bool false, .slice none 0 0]
 have e : (W2I w n1 d1 n2 d2).heap.size = w.heap.size + 1 + 1 := by simp
 rw [e] at hb
 obtain ⟨h1, h2⟩ := hc W (ta.then0 t)
 exact ⟨h1, h2, hb.touch t (by simp)⟩
theorem rDivX (n : Bool) (d1 d2 : Value) (A B : Nat) (w : World) (h1 : Dgs w d1 (dg A)) (h2 : Dgs w d2 (dg B)) (hA : A < Top) (hB : B < Top) (hB0 : 0 < B) (hz : A % B = 0) (hq : 0 < A / B) :
  Calls Tryz.prog 36 #[.agg #[.bool n, d1], .agg #[.bool false, d2]] w fun r w' => ∃ x y, r = .returned (.tuple #[x, y]) ∧ IntAt w' n (A / B) x ∧ IntAt w' false 0 y ∧ Touch [] w w' := by
 cases n with
 | true => exact rDivideN_any d1 d2 A B w h1 h2 hA hB hB0 hz hq
 | false =>
  have := rDivide_any d1 d2 A B w h1 h2 hA hB hB0
  rw [hz] at this
  exact this
theorem rReduce_any (n : Bool) (d1 d2 : Value) (A B : Nat) (w : World) (h1 : Dgs w d1 (dg A)) (h2 : Dgs w d2 (dg B)) (hA : A < Top) (hB : B < Top) (hA0 : 0 < A) (hB0 : 0 < B) :
  Calls Tryz.prog 69 #[.agg #[.bool n, d1], .agg #[.bool false, d2]] w fun r w' => ∃ x, r = .returned x ∧ RatAt w' n (A / Nat.gcd A B) (B / Nat.gcd A B) x ∧ Touch [] w w' := by
 have hg0 : 0 < Nat.gcd A B := Nat.gcd_pos_of_pos_left _ hA0
 have hgA := Nat.gcd_dvd_left A B
 have hgB := Nat.gcd_dvd_right A B
 have hgT : Nat.gcd A B < Top := Nat.lt_of_le_of_lt (Nat.gcd_le_left _ hA0) hA
 have HCOM := Lib.hid (fun W (t : Touch [] w W) => rCommon_any n false d1 d2 A B W (h1.touch0 t) (h2.touch0 t) hA hB)
 have HD1 := Lib.hid (fun W d (t : Touch [] w W) (hd : Dgs W d (dg (Nat.gcd A B))) => rDivX n d1 d A _ W (h1.touch0 t) hd hA hgT hg0 (Nat.mod_eq_zero_of_dvd hgA) (Nat.div_pos (Nat.le_of_dvd hA0 hgA) hg0))
 have HD2 := Lib.hid (fun W d (t : Touch [] w W) (hd : Dgs W d (dg (Nat.gcd A B))) => rDivX false d2 d B _ W (h2.touch0 t) hd hB hgT hg0 (Nat.mod_eq_zero_of_dvd hgB) (Nat.div_pos (Nat.le_of_dvd hB0 hgB) hg0))
 generalize Nat.gcd A B = G at *
 generalize A / G = X at *
 generalize B / G = Y at *
 obtain ⟨A1, m1, c1, rfl⟩ := h1.form3
 obtain ⟨A2, m2, c2, rfl⟩ := h2.form3
 clear h1 h2 hA hB hA0 hB0 hg0 hgA hgB hgT
 obtain ⟨ht0, hcc⟩ := boxrd w n false (.slice A1 m1 c1) (.slice A2 m2 c2)
 unfold W2I at ht0 hcc
 have HC := Lib.hid hcc
 obtain ⟨⟨p0, p1⟩, ⟨p2, p3⟩, -⟩ := hcc _ (Touch.refl _ _)
 clear hcc
 go_enter Tryz.func69, Tryz.ntmps69
 go_wp2_with fail
 generalize (((w.alloc (.cells #[.bool n, .slice A1 m1 c1] 32)).alloc (.cells #[.bool false, .slice A2 m2 c2] 32)).alloc (.cells #[.bool false, .slice none 0 0, .bool false, .slice none 0 0] 34)) = w0 at *
 have HT0 := Lib.hid ht0
 clear ht0 p0 p1 p2 p3
 with_reducible refine (HCOM.out w0 HT0.out).mono ?_
 rintro r w1 ⟨x, rfl, ⟨A3, m3, c3, rfl, hd3⟩, ht1⟩
 dsimp only
 have HD3 := Lib.hid (hd3.touch0 ((Touch.refl [] w1).alloc (.cells #[.bool false, .slice A3 m3 c3] 32)))
 have b5 : Blk (w1.alloc (.cells #[.bool false, .slice A3 m3 c3] 32)) w1.heap.size 32 #[.bool false, .slice A3 m3 c3] := Blk.new _ _ _
 have ht2 := ht1.alloc (.cells #[.bool false, .slice A3 m3 c3] 32)
 obtain ⟨⟨p0, p1⟩, ⟨p2, p3⟩, -⟩ := HC.out _ ht2
 go_wp2_with fail
 generalize (w1.alloc (.cells #[.bool false, .slice A3 m3 c3] 32)) = w2 at *
 generalize w1.heap.size = g5 at *
 clear p0 p1 p2 p3 ht1 hd3
 with_reducible refine (HD1.out w2 _ (HT0.out.then0 ht2) HD3.out).mono ?_
 rintro r w3 ⟨x, y, rfl, ⟨A6, m6, c6, rfl, hd6⟩, ⟨A7, m7, c7, rfl, hd7⟩, ht3⟩
 dsimp only
 have b5 := b5.touch ht3 (by simp)
 have ht3 := ht2.then0 ht3
 have HD6 := Lib.hid hd6
 have HD3 := Lib.hid (HD3.out.touch0 ‹Touch [] w2 w3›)
 clear hd6 hd7
 obtain ⟨⟨p0, p1⟩, ⟨p2, p3⟩, -⟩ := HC.out _ ht3
 obtain ⟨q0, q1⟩ : w3.cell? ⟨g5, 0, none⟩ = some (.bool false) ∧ w3.cell? ⟨g5, 1, none⟩ = some (.slice A3 m3 c3) := ⟨(b5.cell 0).trans rfl, (b5.cell 1).trans rfl⟩
 have tb := ((Touch.refl [] w3).alloc (.cells #[.bool n, .slice A6 m6 c6] 32)).alloc (.cells #[.bool false, .slice A7 m7 c7] 32)
 have b6 : Blk ((w3.alloc (.cells #[.bool n, .slice A6 m6 c6] 32)).alloc (.cells #[.bool false, .slice A7 m7 c7] 32)) w3.heap.size 32 #[.bool n, .slice A6 m6 c6] := (Blk.new _ _ _).alloc _
 have ht4 := ht3.then0 tb
 have b54 := b5.touch tb (by simp)
 have HD64 := Lib.hid (HD6.out.touch0 tb)
 have HD34 := Lib.hid (HD3.out.touch0 tb)
 obtain ⟨⟨r0, r1⟩, ⟨r2, r3⟩, -⟩ := HC.out _ ht4
 obtain ⟨s0, s1⟩ : ((w3.alloc (.cells #[.bool n, .slice A6 m6 c6] 32)).alloc (.cells #[.bool false, .slice A7 m7 c7] 32)).cell? ⟨g5, 0, none⟩ = some (.bool false) ∧ ((w3.alloc (.cells #[.bool n, .slice A6 m6 c6] 32)).alloc (.cells #[.bool false, .slice A7 m7 c7] 32)).cell? ⟨g5, 1, none⟩ = some (.slice A3 m3 c3) := ⟨(b54.cell 0).trans rfl, (b54.cell 1).trans rfl⟩
 go_wp2_with fail
 clear p0 p1 p2 p3 q0 q1 r0 r1 r2 r3 s0 s1 tb
 generalize ((w3.alloc (.cells #[.bool n, .slice A6 m6 c6] 32)).alloc (.cells #[.bool false, .slice A7 m7 c7] 32)) = w4 at *
 generalize w3.heap.size = g6 at *
 have HT4 := Lib.hid (HT0.out.then0 ht4)
 clear ht3
 with_reducible refine (HD2.out w4 _ HT4.out HD34.out).mono ?_
 rintro r w5 ⟨x, y, rfl, ⟨A8, m8, c8, rfl, hd8⟩, ⟨A9, m9, c9, rfl, hd9⟩, ht5⟩
 dsimp only
 have tc := ((Touch.refl [] w5).alloc (.cells #[.bool false, .slice A8 m8 c8] 32)).alloc (.cells #[.bool false, .slice A9 m9 c9] 32)
 have b8 : Blk ((w5.alloc (.cells #[.bool false, .slice A8 m8 c8] 32)).alloc (.cells #[.bool false, .slice A9 m9 c9] 32)) w5.heap.size 32 #[.bool false, .slice A8 m8 c8] := (Blk.new _ _ _).alloc _
 have ht6 := (ht4.then0 ht5).then0 tc
 have b66 := (b6.touch ht5 (by simp)).touch tc (by simp)
 have HD66 := Lib.hid ((HD64.out.touch0 ht5).touch0 tc)
 have HD86 := Lib.hid (hd8.touch0 tc)
 have bR := (HC.out _ ht6).2.2
 obtain ⟨s0, s1⟩ : ((w5.alloc (.cells #[.bool false, .slice A8 m8 c8] 32)).alloc (.cells #[.bool false, .slice A9 m9 c9] 32)).cell? ⟨g6, 0, none⟩ = some (.bool n) ∧ ((w5.alloc (.cells #[.bool false, .slice A8 m8 c8] 32)).alloc (.cells #[.bool false, .slice A9 m9 c9] 32)).cell? ⟨g6, 1, none⟩ = some (.slice A6 m6 c6) := ⟨(b66.cell 0).trans rfl, (b66.cell 1).trans rfl⟩
 obtain ⟨p0, p1⟩ : ((w5.alloc (.cells #[.bool false, .slice A8 m8 c8] 32)).alloc (.cells #[.bool false, .slice A9 m9 c9] 32)).cell? ⟨w5.heap.size, 0, none⟩ = some (.bool false) ∧ ((w5.alloc (.cells #[.bool false, .slice A8 m8 c8] 32)).alloc (.cells #[.bool false, .slice A9 m9 c9] 32)).cell? ⟨w5.heap.size, 1, none⟩ = some (.slice A8 m8 c8) := ⟨(b8.cell 0).trans rfl, (b8.cell 1).trans rfl⟩
 have r0 := bR.cell 0
 have r1 := bR.cell 1
 have r2 := bR.cell 2
 have r3 := bR.cell 3
 have f0 := bR.frozen 0
 have f1 := bR.frozen 1
 have f2 := bR.frozen 2
 have f3 := bR.frozen 3
 simp at r0 r1 r2 r3
 have HT6 := Lib.hid (HT0.out.then0 ht6)
 have HBR := Lib.hid bR
 clear bR b66 b8 b6 tc ht5 hd8 hd9 ht4
 go_wp2_with fail
 obtain ⟨hb, hd, htf⟩ := rat_res' n HBR.out (by omega) HT6.out HD66.out HD86.out _ rfl
 have k0 := hb.cell 0
 have k1 := hb.cell 1
 have k2 := hb.cell 2
 have k3 := hb.cell 3
 simp only [List.getElem?_toArray, List.getElem?_cons_zero, List.getElem?_cons_succ] at k0 k1 k2 k3
 refine bodyPost_ret (v := .agg #[.bool n, .slice A6 m6 c6, .bool false, .slice A8 m8 c8]) (by simp [results, Tryz.results69, go_sem, k0, k1, k2, k3]) rfl ⟨_, rfl, ⟨A6, m6, c6, A8, m8, c8, rfl, hd.1, hd.2⟩, htf⟩
theorem qOf_any (n d : Int) (sn : Bool) (A B : Nat) (w : World) (hn : ∀ W, Calls Tryz.prog 35 #[.int .i64 n] W fun r w' => ∃ x, r = .returned x ∧ IntAt w' sn A x ∧ Touch [] W w') (hd : ∀ W, Calls Tryz.prog 35 #[.int .i64 d] W fun r w' => ∃ x, r = .returned x ∧ IntAt w' false B x ∧ Touch [] W w') (hA : A < Top) (hB : B < Top) (hA0 : 0 < A) (hB0 : 0 < B) (hg : Nat.gcd A B = 1) :
  Calls Tryz.prog 19 #[.int .i64 n, .int .i64 d] w fun r w' => ∃ x, r = .returned x ∧ RatAt w' sn A B x ∧ Touch [] w w' := by
 have HN := Lib.hid hn
 have HD := Lib.hid hd
 have HR := Lib.hid (fun d1 d2 W (h1 : Dgs W d1 (dg A)) (h2 : Dgs W d2 (dg B)) => rReduce_any sn d1 d2 A B W h1 h2 hA hB hA0 hB0)
 rw [hg, Nat.div_one, Nat.div_one] at HR
 have ht0 := (Touch.refl [] w).alloc (.cells #[.bool false, .slice none 0 0, .bool false, .slice none 0 0] 34)
 have b0 : Blk (w.alloc (.cells #[.bool false, .slice none 0 0, .bool false, .slice none 0 0] 34)) w.heap.size 34 #[.bool false, .slice none 0 0, .bool false, .slice none 0 0] := Blk.new _ _ _
 clear hn hd hA hB hA0 hB0 hg
 go_enter Tryz.func19, Tryz.ntmps19
 go_wp2_with fail
 generalize (w.alloc (.cells #[.bool false, .slice none 0 0, .bool false, .slice none 0 0] 34)) = w0 at *
 with_reducible refine (HN.out w0).mono ?_
 rintro r w1 ⟨x, rfl, ⟨A1, m1, c1, rfl, hd1⟩, ht1⟩
 dsimp only
 have HD1 := Lib.hid hd1
 clear hd1
 go_wp2_with fail
 with_reducible refine (HD.out w1).mono ?_
 rintro r w2 ⟨x, rfl, ⟨A2, m2, c2, rfl, hd2⟩, ht2⟩
 dsimp only
 have HD2 := Lib.hid hd2
 have HD1 := Lib.hid (HD1.out.touch0 ht2)
 clear hd2
 go_wp2_with fail
 with_reducible refine (HR.out _ _ w2 HD1.out HD2.out).mono ?_
 rintro r w3 ⟨x, rfl, ⟨A3, m3, c3, A4, m4, c4, rfl, hd3, hd4⟩, ht3⟩
 dsimp only
 have ht4 := ((ht0.then0 ht1).then0 ht2).then0 ht3
 have bR := ((b0.touch ht1 (by simp)).touch ht2 (by simp)).touch ht3 (by simp)
 have HD3 := Lib.hid hd3
 have HD4 := Lib.hid hd4
 have r0 := bR.cell 0
 have r1 := bR.cell 1
 have r2 := bR.cell 2
 have r3 := bR.cell 3
 have f0 := bR.frozen 0
 have f1 := bR.frozen 1
 have f2 := bR.frozen 2
 have f3 := bR.frozen 3
 simp at r0 r1 r2 r3
 have HT4 := Lib.hid ht4
 have HBR := Lib.hid bR
 clear bR b0 ht0 ht1 ht2 ht3 ht4 hd3 hd4
 go_wp2_with fail
 obtain ⟨hb, hd, htf⟩ := rat_res' sn HBR.out (by omega) HT4.out HD3.out HD4.out _ rfl
 have k0 := hb.cell 0
 have k1 := hb.cell 1
 have k2 := hb.cell 2
 have k3 := hb.cell 3
 simp only [List.getElem?_toArray, List.getElem?_cons_zero, List.getElem?_cons_succ] at k0 k1 k2 k3
 refine bodyPost_ret (v := .agg #[.bool sn, .slice A3 m3 c3, .bool false, .slice A4 m4 c4]) (by simp [results, Tryz.results19, go_sem, k0, k1, k2, k3]) rfl ⟨_, rfl, ⟨A3, m3, c3, A4, m4, c4, rfl, hd.1, hd.2⟩, htf⟩
theorem small_top {n : Nat} (h : n < 3000) : n < Top := by
 have h2 : 256 ^ 2 ≤ Top := by
  show 256 ^ 2 ≤ 256 ^ 64
  exact Nat.pow_le_pow_right (by decide) (by decide)
 omega
theorem qOf1_any (w : World) : Calls Tryz.prog 19 #[.int .i64 2469, .int .i64 2] w fun r w' => ∃ x, r = .returned x ∧ RatAt w' false 2469 2 x ∧ Touch [] w w' := qOf_any 2469 2 false 2469 2 w rOf2469 rOf2 (small_top (by omega)) (small_top (by omega)) (by omega) (by omega) (by decide)
theorem qOf2_any (w : World) : Calls Tryz.prog 19 #[.int .i64 (-1), .int .i64 3] w fun r w' => ∃ x, r = .returned x ∧ RatAt w' true 1 3 x ∧ Touch [] w w' := qOf_any (-1) 3 true 1 3 w rOfM1 rOf3 (small_top (by omega)) (small_top (by omega)) (by omega) (by omega) (by decide)
end Go.Proofs.YtedpaajpfaoffaaGreatDoor
