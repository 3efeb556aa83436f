/- The law OutcomeValid: its walk. -/
import Derived.Test.YtpbknnkobhjjcaaDoorOc17
namespace Go.Proofs.YtpbknnkobhjjcaaDoor
open Go.RowKit
set_option linter.unusedSimpArgs false

theorem same_self (o : Ox) : sameB o o = true := by unfold sameB; simp
set_option maxRecDepth 100000 in
set_option maxHeartbeats 16000000 in
theorem valid_law (o o2 : Ox) (w : World) (hw : Worths w) (ho : o.Ok w) (ho2 : o2.Ok w) : Calls Tryd.prog 6 #[o.val, o2.val] w fun r w' => r = .returned (.bool true) ∧ Touch [] w w' := by
  have ht0 : Touch [] w ((w.alloc (.cells #[o.wv, o.xv, o.av, .int .i64 o.cost] 26)).alloc (.cells #[o2.wv, o2.xv, o2.av, .int .i64 o2.cost] 26)) := ((Touch.refl _ _).alloc _).alloc _
  have HS := Lib.hid (small_any o ((w.alloc (.cells #[o.wv, o.xv, o.av, .int .i64 o.cost] 26)).alloc (.cells #[o2.wv, o2.xv, o2.av, .int .i64 o2.cost] 26)) (ho.touch0 ht0))
  have HS2 := Lib.hid (fun (w' : World) (h : Touch [] ((w.alloc (.cells #[o.wv, o.xv, o.av, .int .i64 o.cost] 26)).alloc (.cells #[o2.wv, o2.xv, o2.av, .int .i64 o2.cost] 26)) w') => small_any o2 w' (ho2.touch0 (ht0.then0 h)))
  have H1 := Lib.hid (fun (hs : o.small) (w' : World) (h : Touch [] ((w.alloc (.cells #[o.wv, o.xv, o.av, .int .i64 o.cost] 26)).alloc (.cells #[o2.wv, o2.xv, o2.av, .int .i64 o2.cost] 26)) w') => valid_any o w' (ho.touch0 (ht0.then0 h)) hs)
  have H2 := Lib.hid (fun (hs : o.small) (w' : World) (h : Touch [] ((w.alloc (.cells #[o.wv, o.xv, o.av, .int .i64 o.cost] 26)).alloc (.cells #[o2.wv, o2.xv, o2.av, .int .i64 o2.cost] 26)) w') => refValid_any o w' (ho.touch0 (ht0.then0 h)) hs)
  have H3 := Lib.hid (fun (hs : o.small) (hs2 : o2.small) (w' : World) (h : Touch [] ((w.alloc (.cells #[o.wv, o.xv, o.av, .int .i64 o.cost] 26)).alloc (.cells #[o2.wv, o2.xv, o2.av, .int .i64 o2.cost] 26)) w') => equal_any o o2 w' (ho.touch0 (ht0.then0 h)) (ho2.touch0 (ht0.then0 h)) hs hs2)
  have H4 := Lib.hid (fun (hs : o.small) (hs2 : o2.small) (w' : World) (h : Touch [] ((w.alloc (.cells #[o.wv, o.xv, o.av, .int .i64 o.cost] 26)).alloc (.cells #[o2.wv, o2.xv, o2.av, .int .i64 o2.cost] 26)) w') => refSame_any o o2 w' (ho.touch0 (ht0.then0 h)) (ho2.touch0 (ht0.then0 h)) hs hs2)
  have H5 := Lib.hid (fun (hs : o.small) (w' : World) (h : Touch [] ((w.alloc (.cells #[o.wv, o.xv, o.av, .int .i64 o.cost] 26)).alloc (.cells #[o2.wv, o2.xv, o2.av, .int .i64 o2.cost] 26)) w') => equal_any o o w' (ho.touch0 (ht0.then0 h)) (ho.touch0 (ht0.then0 h)) hs hs)
  have H6 := Lib.hid (fun (w' : World) (h : Touch [] ((w.alloc (.cells #[o.wv, o.xv, o.av, .int .i64 o.cost] 26)).alloc (.cells #[o2.wv, o2.xv, o2.av, .int .i64 o2.cost] 26)) w') => known_any w' (hw.touch (ht0.then0 h)))
  rw [same_self] at H5
  have K1 : Hid (Blk ((w.alloc (.cells #[o.wv, o.xv, o.av, .int .i64 o.cost] 26)).alloc (.cells #[o2.wv, o2.xv, o2.av, .int .i64 o2.cost] 26)) w.heap.size _ _) := Lib.hid ((Blk.new w 26 #[o.wv, o.xv, o.av, .int .i64 o.cost]).alloc _)
  have K2 : Hid (Blk ((w.alloc (.cells #[o.wv, o.xv, o.av, .int .i64 o.cost] 26)).alloc (.cells #[o2.wv, o2.xv, o2.av, .int .i64 o2.cost] 26)) (w.heap.size + 1) _ _) := Lib.hid (Blk.new' (by simp) 26 #[o2.wv, o2.xv, o2.av, .int .i64 o2.cost])
  have HT0 := Lib.hid ht0
  generalize hq : validP o = q at *
  generalize hsq : sameB o o2 = sq at *
  clear hq hsq ht0
  obtain ⟨Aw, cw, Ax, cx, Aa, ca, e1, e2, e3⟩ := Ox.forms ho
  obtain ⟨Bw, dw, Bx, dx, Ba, da, f1, f2, f3⟩ := Ox.forms ho2
  by_cases hs : o.small
  case neg =>
    rw [decide_eq_false hs] at HS
    clear H1 H2 H3 H4 H5 ho ho2 hs HS2
    obtain ⟨wv, xv, av, W, X, A, cost⟩ := o
    obtain ⟨wv2, xv2, av2, V, Y, B, cost2⟩ := o2
    simp only [Ox.val] at *
    subst e1 e2 e3 f1 f2 f3
    go_enter Tryd.func6, Tryd.ntmps6
    go_wp2_with fail
    refine HS.out.mono ?_
    rintro r w1 ⟨rfl, ht1⟩
    go_wp2_with fail
    refine (H6.out _ ht1).mono ?_
    rintro r w3 ⟨rfl, ht3⟩
    go_wp2_with fail
    go_ret
    exact ⟨rfl, (HT0.out.then0 ht1).then0 ht3⟩
  rw [decide_eq_true hs] at HS
  by_cases hs2 : o2.small
  case neg =>
    rw [decide_eq_false hs2] at HS2
    clear H1 H2 H3 H4 H5 ho ho2 hs hs2
    obtain ⟨wv, xv, av, W, X, A, cost⟩ := o
    obtain ⟨wv2, xv2, av2, V, Y, B, cost2⟩ := o2
    simp only [Ox.val] at *
    subst e1 e2 e3 f1 f2 f3
    go_enter Tryd.func6, Tryd.ntmps6
    go_wp2_with fail
    refine HS.out.mono ?_
    rintro r w1 ⟨rfl, ht1⟩
    have b1 := K2.out.touch ht1 (by simp)
    have o0 := b1.cell 0
    have o1 := b1.cell 1
    have o2 := b1.cell 2
    have o3 := b1.cell 3
    simp at o0 o1 o2 o3
    go_wp2_with fail
    refine (HS2.out _ ht1).mono ?_
    rintro r w2 ⟨rfl, ht2⟩
    clear o0 o1 o2 o3
    go_wp2_with fail
    refine (H6.out _ (ht1.then0 ht2)).mono ?_
    rintro r w3 ⟨rfl, ht3⟩
    go_wp2_with fail
    go_ret
    exact ⟨rfl, (HT0.out.then0 (ht1.then0 ht2)).then0 ht3⟩
  rw [decide_eq_true hs2] at HS2
  have H1 := Lib.hid (H1.out hs)
  have H2 := Lib.hid (H2.out hs)
  have H3 := Lib.hid (H3.out hs hs2)
  have H4 := Lib.hid (H4.out hs hs2)
  have H5 := Lib.hid (H5.out hs)
  clear ho ho2 hs hs2
  obtain ⟨wv, xv, av, W, X, A, cost⟩ := o
  obtain ⟨wv2, xv2, av2, V, Y, B, cost2⟩ := o2
  simp only [Ox.val] at *
  subst e1 e2 e3 f1 f2 f3
  have HC : Hid (∀ W' : World, Touch [] ((w.alloc (.cells #[.slice Aw W.length cw, .slice Ax X.length cx, .slice Aa A.length ca, .int .i64 cost] 26)).alloc (.cells #[.slice Bw V.length dw, .slice Bx Y.length dx, .slice Ba B.length da, .int .i64 cost2] 26)) W' → (W'.cell? ⟨w.heap.size, 0, none⟩ = some (.slice Aw W.length cw) ∧ W'.cell? ⟨w.heap.size, 1, none⟩ = some (.slice Ax X.length cx) ∧ W'.cell? ⟨w.heap.size, 2, none⟩ = some (.slice Aa A.length ca) ∧ W'.cell? ⟨w.heap.size, 3, none⟩ = some (.int .i64 cost) ∧ W'.cell? ⟨w.heap.size + 1, 0, none⟩ = some (.slice Bw V.length dw) ∧ W'.cell? ⟨w.heap.size + 1, 1, none⟩ = some (.slice Bx Y.length dx) ∧ W'.cell? ⟨w.heap.size + 1, 2, none⟩ = some (.slice Ba B.length da) ∧ W'.cell? ⟨w.heap.size + 1, 3, none⟩ = some (.int .i64 cost2))) := Lib.hid (fun W' h => by
    have a := K1.out.touch h (by simp)
    have b := K2.out.touch h (by simp)
    exact ⟨a.cell 0, a.cell 1, a.cell 2, a.cell 3, b.cell 0, b.cell 1, b.cell 2, b.cell 3⟩)
  cases q <;> cases sq
  all_goals
    go_enter Tryd.func6, Tryd.ntmps6
    go_wp2_with fail
    refine HS.out.mono ?_
    rintro r w1 ⟨rfl, ht1⟩
    have b1 := K2.out.touch ht1 (by simp)
    have o0 := b1.cell 0
    have o1 := b1.cell 1
    have o2 := b1.cell 2
    have o3 := b1.cell 3
    simp at o0 o1 o2 o3
    go_wp2_with fail
    refine (HS2.out _ ht1).mono ?_
    rintro r w2 ⟨rfl, ht2⟩
    clear o0 o1 o2 o3 b1
    go_wp2_with fail
    have hT := (ht1.then0 ht2).drew
    clear ht1 ht2
    go_region_held3 (fun W' => W'.cell? ⟨w.heap.size, 0, none⟩ = some (.slice Aw W.length cw) ∧ W'.cell? ⟨w.heap.size, 1, none⟩ = some (.slice Ax X.length cx) ∧ W'.cell? ⟨w.heap.size, 2, none⟩ = some (.slice Aa A.length ca) ∧ W'.cell? ⟨w.heap.size, 3, none⟩ = some (.int .i64 cost) ∧ W'.cell? ⟨w.heap.size + 1, 0, none⟩ = some (.slice Bw V.length dw) ∧ W'.cell? ⟨w.heap.size + 1, 1, none⟩ = some (.slice Bx Y.length dx) ∧ W'.cell? ⟨w.heap.size + 1, 2, none⟩ = some (.slice Ba B.length da) ∧ W'.cell? ⟨w.heap.size + 1, 3, none⟩ = some (.int .i64 cost2)) (exact HC.out _ hT) (first | (go_at_call 17; refine (H1.out _ hT).mono ?_; rintro r w6 ⟨rfl, ht6⟩; dsimp only; replace hT := hT.then0 ht6; clear ht6) | (go_at_call 18; refine (H2.out _ hT).mono ?_; rintro r w6 ⟨rfl, ht6⟩; dsimp only; replace hT := hT.then0 ht6; clear ht6) | (go_at_call 20; refine (H4.out _ hT).mono ?_; rintro r w6 ⟨rfl, ht6⟩; dsimp only; replace hT := hT.then0 ht6; clear ht6) | (go_at_call 8; refine (H6.out _ hT).mono ?_; rintro r w6 ⟨rfl, ht6⟩; dsimp only; replace hT := hT.then0 ht6; clear ht6) | (go_at_call 19; (first | (with_reducible refine (H3.out _ hT).mono ?_) | (with_reducible refine (H5.out _ hT).mono ?_)); rintro r w6 ⟨rfl, ht6⟩; dsimp only; replace hT := hT.then0 ht6; clear ht6))
    all_goals
      go_wp2_with fail
      go_ret
      exact ⟨rfl, HT0.out.then0 hT⟩
end Go.Proofs.YtpbknnkobhjjcaaDoor
