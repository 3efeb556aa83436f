/- The laws OutcomeCost, OutcomeCeiling and OutcomeFollows: their walks. -/
import Derived.Test.YtpbknnkobhjjcaaDoorOc16
namespace Go.Proofs.YtpbknnkobhjjcaaDoor
open Go.RowKit
set_option linter.unusedSimpArgs false

instance (o : Ox) : Decidable o.small := by unfold Ox.small; infer_instance
theorem Ox.forms {o : Ox} {w : World} (h : o.Ok w) : ∃ Aw cw Ax cx Aa ca, o.wv = .slice Aw o.W.length cw ∧ o.xv = .slice Ax o.X.length cx ∧ o.av = .slice Aa o.A.length ca := by
  obtain ⟨Aw, cw, e1⟩ := h.1.form
  obtain ⟨Ax, cx, e2⟩ := h.2.1.form
  obtain ⟨Aa, ca, e3⟩ := h.2.2.1.form
  exact ⟨Aw, cw, Ax, cx, Aa, ca, e1, e2, e3⟩
set_option maxRecDepth 100000 in
set_option maxHeartbeats 8000000 in
theorem small_any (o : Ox) (w : World) (ho : o.Ok w) : Calls Tryd.prog 7 #[o.val] w fun r w' => r = .returned (.bool (decide o.small)) ∧ Touch [] w w' := by
  have HF : Hid (¬ o.small → decide o.small = false) := Lib.hid (fun h => decide_eq_false h)
  have HTT : Hid (o.small → decide o.small = true) := Lib.hid (fun h => decide_eq_true h)
  generalize decide o.small = q at *
  obtain ⟨hW, hX, hA, hf⟩ := ho
  obtain ⟨wv, xv, av, W, X, A, cost⟩ := o
  simp only [Ox.val, Ox.small] at *
  obtain ⟨Aw, cw, rfl⟩ := hW.form
  obtain ⟨Ax, cx, rfl⟩ := hX.form
  obtain ⟨Aa, ca, rfl⟩ := hA.form
  clear hW hX hA
  by_cases h1 : W.length ≤ 20
  case neg =>
    obtain rfl : q = false := HF.out (fun h => h1 h.1)
    clear HF HTT
    have d1 : decide (W.length ≤ 20) = false := decide_eq_false h1
    have d1' : decide ((W.length : Int) ≤ 20) = false := decide_eq_false (by omega)
    go_enter Tryd.func7, Tryd.ntmps7
    go_wp2_with fail
    go_ret
    exact ⟨rfl, (Touch.refl _ _).alloc _⟩
  have d1 : decide (W.length ≤ 20) = true := decide_eq_true h1
  have d1' : decide ((W.length : Int) ≤ 20) = true := decide_eq_true (by omega)
  by_cases h2 : X.length ≤ 20
  case neg =>
    obtain rfl : q = false := HF.out (fun h => h2 h.2.1)
    clear HF HTT
    have d2 : decide (X.length ≤ 20) = false := decide_eq_false h2
    have d2' : decide ((X.length : Int) ≤ 20) = false := decide_eq_false (by omega)
    go_enter Tryd.func7, Tryd.ntmps7
    go_wp2_with fail
    go_ret
    exact ⟨rfl, (Touch.refl _ _).alloc _⟩
  have d2 : decide (X.length ≤ 20) = true := decide_eq_true h2
  have d2' : decide ((X.length : Int) ≤ 20) = true := decide_eq_true (by omega)
  by_cases h3 : A.length ≤ 40
  case neg =>
    obtain rfl : q = false := HF.out (fun h => h3 h.2.2)
    clear HF HTT
    have d3 : decide (A.length ≤ 40) = false := decide_eq_false h3
    have d3' : decide ((A.length : Int) ≤ 40) = false := decide_eq_false (by omega)
    go_enter Tryd.func7, Tryd.ntmps7
    go_wp2_with fail
    go_ret
    exact ⟨rfl, (Touch.refl _ _).alloc _⟩
  obtain rfl : q = true := HTT.out ⟨h1, h2, h3⟩
  clear HF HTT
  have d3 : decide (A.length ≤ 40) = true := decide_eq_true h3
  have d3' : decide ((A.length : Int) ≤ 40) = true := decide_eq_true (by omega)
  go_enter Tryd.func7, Tryd.ntmps7
  go_wp2_with fail
  go_ret
  exact ⟨rfl, (Touch.refl _ _).alloc _⟩
set_option maxRecDepth 100000 in
set_option maxHeartbeats 8000000 in
theorem ceiling_law (v : Value) (l : List Tx) (op : Int) (w : World) (hw : Worths w) (hv : Trips w v l) : Calls Tryd.prog 4 #[v, .int .i64 op] w fun r w' => r = .returned (.bool true) ∧ Touch [] w w' := by
  obtain ⟨A, cap, rfl⟩ := hv.form
  by_cases hl : 40 < l.length
  · have hl' : (40 : Int) < (l.length : Int) := by omega
    go_enter Tryd.func4, Tryd.ntmps4
    go_wp2_with fail
    refine (known_any _ hw).mono ?_
    rintro r w1 ⟨rfl, ht1⟩
    go_wp2_with fail
    go_ret
    exact ⟨rfl, ht1⟩
  have hl' : ¬ (40 : Int) < (l.length : Int) := by omega
  have H1 := Lib.hid (ceiling_any _ l op w hw hv (by omega))
  have H2 := Lib.hid (fun (w' : World) (h : Touch [] w w') => refCeiling_any _ l op w' (hv.touch0 h) (by omega))
  generalize ceilRes l op = x at *
  obtain ⟨x1, x2⟩ := x
  unfold PairPost at H1 H2
  simp only at H1 H2
  go_enter Tryd.func4, Tryd.ntmps4
  go_wp2_with fail
  refine H1.out.mono ?_
  rintro r w1 ⟨rfl, ht1⟩
  go_wp2_with fail
  refine (H2.out w1 ht1).mono ?_
  rintro r w2 ⟨rfl, ht2⟩
  go_wp2_with fail
  refine (known_any _ (hw.touch (ht1.then0 ht2))).mono ?_
  rintro r w3 ⟨rfl, ht3⟩
  go_wp2_with fail
  go_ret
  exact ⟨rfl, (ht1.then0 ht2).then0 ht3⟩
set_option maxRecDepth 100000 in
set_option maxHeartbeats 8000000 in
theorem follows_law (o : Ox) (v : Value) (l : List Tx) (op : Int) (w : World) (hw : Worths w) (ho : o.Ok w) (hv : Trips w v l) : Calls Tryd.prog 5 #[o.val, v, .int .i64 op] w fun r w' => r = .returned (.bool true) ∧ Touch [] w w' := by
  have HS := Lib.hid (small_any o (w.alloc (.cells #[o.wv, o.xv, o.av, .int .i64 o.cost] 26)) (ho.touch0 ((Touch.refl _ _).alloc _)))
  have H1 := Lib.hid (fun (hs : o.small) (hl : l.length ≤ 40) (w' : World) (h : Touch [] w w') => follows_any o v l op w' (hw.touch h) (ho.touch0 h) hs (hv.touch0 h) hl)
  have H2 := Lib.hid (fun (hs : o.small) (hl : l.length ≤ 40) (w' : World) (h : Touch [] w w') => refFollows_any o v l op w' (ho.touch0 h) hs (hv.touch0 h) hl)
  have HBK := Lib.hid (Blk.new w 26 #[o.wv, o.xv, o.av, .int .i64 o.cost])
  have HT0 : Hid (Touch [] w (w.alloc (.cells #[o.wv, o.xv, o.av, .int .i64 o.cost] 26))) := Lib.hid ((Touch.refl _ _).alloc _)
  unfold FolPost at H1 H2
  generalize folRes o l op = x at *
  obtain ⟨x1, x2⟩ := x
  simp only at H1 H2
  obtain ⟨A0, c0, rfl⟩ := hv.form
  obtain ⟨Aw, cw, Ax, cx, Aa, ca, e1, e2, e3⟩ := Ox.forms ho
  clear hv
  by_cases hs : o.small
  case neg =>
    rw [decide_eq_false hs] at HS
    clear H1 H2 ho hs
    obtain ⟨wv, xv, av, W, X, A, cost⟩ := o
    simp only [Ox.val] at *
    subst e1 e2 e3
    go_enter Tryd.func5, Tryd.ntmps5
    go_wp2_with fail
    refine HS.out.mono ?_
    rintro r w1 ⟨rfl, ht1⟩
    go_wp2_with fail
    refine (known_any _ (hw.touch (HT0.out.then0 ht1))).mono ?_
    rintro r w3 ⟨rfl, ht3⟩
    go_wp2_with fail
    go_ret
    exact ⟨rfl, (HT0.out.then0 ht1).then0 ht3⟩
  rw [decide_eq_true hs] at HS
  by_cases hl : 40 < l.length
  · have hl' : (40 : Int) < (l.length : Int) := by omega
    clear H1 H2 ho hs
    obtain ⟨wv, xv, av, W, X, A, cost⟩ := o
    simp only [Ox.val] at *
    subst e1 e2 e3
    go_enter Tryd.func5, Tryd.ntmps5
    go_wp2_with fail
    refine HS.out.mono ?_
    rintro r w1 ⟨rfl, ht1⟩
    go_wp2_with fail
    refine (known_any _ (hw.touch (HT0.out.then0 ht1))).mono ?_
    rintro r w3 ⟨rfl, ht3⟩
    go_wp2_with fail
    go_ret
    exact ⟨rfl, (HT0.out.then0 ht1).then0 ht3⟩
  have hl' : ¬ (40 : Int) < (l.length : Int) := by omega
  have H1 := Lib.hid (H1.out hs (by omega))
  have H2 := Lib.hid (H2.out hs (by omega))
  clear ho hs
  obtain ⟨wv, xv, av, W, X, A, cost⟩ := o
  simp only [Ox.val] at *
  subst e1 e2 e3
  go_enter Tryd.func5, Tryd.ntmps5
  go_wp2_with fail
  refine HS.out.mono ?_
  rintro r w1 ⟨rfl, ht1⟩
  have b1 := HBK.out.touch ht1 (by simp)
  have o0 := b1.cell 0
  have o1 := b1.cell 1
  have o2 := b1.cell 2
  have o3 := b1.cell 3
  simp at o0 o1 o2 o3
  have htt1 := HT0.out.then0 ht1
  go_wp2_with fail
  refine (H1.out w1 htt1).mono ?_
  rintro r w2 ⟨rfl, ht2⟩
  have b2 := b1.touch ht2 (by simp)
  clear o0 o1 o2 o3
  have o0 := b2.cell 0
  have o1 := b2.cell 1
  have o2 := b2.cell 2
  have o3 := b2.cell 3
  simp at o0 o1 o2 o3
  have htt2 := htt1.then0 ht2
  go_wp2_with fail
  refine (H2.out w2 htt2).mono ?_
  rintro r w3 ⟨rfl, ht3⟩
  have htt3 := htt2.then0 ht3
  clear o0 o1 o2 o3 H1 H2
  go_wp2_with fail
  refine (known_any _ (hw.touch htt3)).mono ?_
  rintro r w4 ⟨rfl, ht4⟩
  go_wp2_with fail
  go_ret
  exact ⟨rfl, htt3.then0 ht4⟩
set_option maxRecDepth 100000 in
set_option maxHeartbeats 8000000 in
theorem cost_law (v : Value) (l : List Tx) (o : Ox) (st : Int) (w : World) (hw : Worths w) (hv : Trips w v l) (ho : o.Ok w) : Calls Tryd.prog 3 #[v, o.val, .int .i64 st] w fun r w' => r = .returned (.bool true) ∧ Touch [] w w' := by
  have HS := Lib.hid (small_any o (w.alloc (.cells #[o.wv, o.xv, o.av, .int .i64 o.cost] 26)) (ho.touch0 ((Touch.refl _ _).alloc _)))
  have H1 := Lib.hid (fun (hl : l.length ≤ 1000) (w' : World) (h : Touch [] w w') => cost_any v l w' (hv.touch0 h) hl)
  have H2 := Lib.hid (fun (hl : l.length ≤ 1000) (w' : World) (h : Touch [] w w') => refCost_any v l w' (hv.touch0 h) hl)
  have H3 := Lib.hid (fun (hs : o.small) (w' : World) (h : Touch [] w w') => payment_any o st w' (ho.touch0 h) hs)
  have H4 := Lib.hid (fun (hs : o.small) (w' : World) (h : Touch [] w w') => refPayment_any o st w' (ho.touch0 h) hs)
  have HBK := Lib.hid (Blk.new w 26 #[o.wv, o.xv, o.av, .int .i64 o.cost])
  have HT0 : Hid (Touch [] w (w.alloc (.cells #[o.wv, o.xv, o.av, .int .i64 o.cost] 26))) := Lib.hid ((Touch.refl _ _).alloc _)
  have hcp : ∃ c1 c2 : Int, (if wOk l = true then Value.tuple #[.int .i64 (sumC l), .int .i64 0] else .tuple #[.int .i64 0, .int .i64 2]) = .tuple #[.int .i64 c1, .int .i64 c2] := by
    split
    · exact ⟨_, _, rfl⟩
    · exact ⟨_, _, rfl⟩
  obtain ⟨c1, c2, hcp⟩ := hcp
  unfold CostPost at H1 H2
  rw [hcp] at H1 H2
  unfold PayPost at H3 H4
  generalize payRes o st = x at *
  obtain ⟨x1, x2⟩ := x
  simp only at H3 H4
  obtain ⟨A0, c0, rfl⟩ := hv.form
  obtain ⟨Aw, cw, Ax, cx, Aa, ca, e1, e2, e3⟩ := Ox.forms ho
  clear hv hcp
  by_cases hl : 20 < l.length
  · have hl' : (20 : Int) < (l.length : Int) := by omega
    clear H1 H2 H3 H4 ho HS
    obtain ⟨wv, xv, av, W, X, A, cost⟩ := o
    simp only [Ox.val] at *
    subst e1 e2 e3
    go_enter Tryd.func3, Tryd.ntmps3
    go_wp2_with fail
    refine (known_any _ (hw.touch HT0.out)).mono ?_
    rintro r w3 ⟨rfl, ht3⟩
    go_wp2_with fail
    go_ret
    exact ⟨rfl, HT0.out.then0 ht3⟩
  have hl' : ¬ (20 : Int) < (l.length : Int) := by omega
  by_cases hs : o.small
  case neg =>
    rw [decide_eq_false hs] at HS
    clear H1 H2 H3 H4 ho hs
    obtain ⟨wv, xv, av, W, X, A, cost⟩ := o
    simp only [Ox.val] at *
    subst e1 e2 e3
    go_enter Tryd.func3, Tryd.ntmps3
    go_wp2_with fail
    refine HS.out.mono ?_
    rintro r w1 ⟨rfl, ht1⟩
    go_wp2_with fail
    refine (known_any _ (hw.touch (HT0.out.then0 ht1))).mono ?_
    rintro r w3 ⟨rfl, ht3⟩
    go_wp2_with fail
    go_ret
    exact ⟨rfl, (HT0.out.then0 ht1).then0 ht3⟩
  rw [decide_eq_true hs] at HS
  have H1 := Lib.hid (H1.out (by omega))
  have H2 := Lib.hid (H2.out (by omega))
  have H3 := Lib.hid (H3.out hs)
  have H4 := Lib.hid (H4.out hs)
  clear ho hs
  obtain ⟨wv, xv, av, W, X, A, cost⟩ := o
  simp only [Ox.val] at *
  subst e1 e2 e3
  go_enter Tryd.func3, Tryd.ntmps3
  go_wp2_with fail
  refine HS.out.mono ?_
  rintro r w1 ⟨rfl, ht1⟩
  have htt1 := HT0.out.then0 ht1
  go_wp2_with fail
  refine (H1.out w1 htt1).mono ?_
  rintro r w2 ⟨rfl, ht2⟩
  have htt2 := htt1.then0 ht2
  go_wp2_with fail
  refine (H2.out w2 htt2).mono ?_
  rintro r w3 ⟨rfl, ht3⟩
  have htt3 := htt2.then0 ht3
  have b3 := ((HBK.out.touch ht1 (by simp)).touch ht2 (by simp)).touch ht3 (by simp)
  have o0 := b3.cell 0
  have o1 := b3.cell 1
  have o2 := b3.cell 2
  have o3 := b3.cell 3
  simp at o0 o1 o2 o3
  go_wp2_with fail
  refine (H3.out w3 htt3).mono ?_
  rintro r w4 ⟨rfl, ht4⟩
  have htt4 := htt3.then0 ht4
  have b4 := b3.touch ht4 (by simp)
  clear o0 o1 o2 o3
  have o0 := b4.cell 0
  have o1 := b4.cell 1
  have o2 := b4.cell 2
  have o3 := b4.cell 3
  simp at o0 o1 o2 o3
  go_wp2_with fail
  refine (H4.out w4 htt4).mono ?_
  rintro r w5 ⟨rfl, ht5⟩
  have htt5 := htt4.then0 ht5
  clear o0 o1 o2 o3 H1 H2 H3 H4
  go_wp2_with fail
  refine (known_any _ (hw.touch htt5)).mono ?_
  rintro r w6 ⟨rfl, ht6⟩
  go_wp2_with fail
  go_ret
  exact ⟨rfl, htt5.then0 ht6⟩
end Go.Proofs.YtpbknnkobhjjcaaDoor
