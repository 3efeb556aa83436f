/- The result's lines, step by step (plain), and bandplanref52.Result. -/
import Derived.Test.YtedpaajpfaoffaaGreatDoorSd5
import Derived.Test.YtedpaajpfaoffaaGreatDoorSd6a
set_option linter.all false
set_option maxHeartbeats 8000000
set_option maxRecDepth 100000
namespace Go.Proofs.YtedpaajpfaoffaaGreatDoor
open Go.RowKit
def resE (o : Option (List (List UInt8))) : Int := match o with
 | some _ => 0
 | none => 6
def LinesPost (o : Option (List (List UInt8))) (w : World) (r : Ending) (w' : World) : Prop := ∃ u, r = .returned (.tuple #[u, .int .i64 (resE o)]) ∧ StrsAt w' u (o.getD []) ∧ Touch [] w w'
theorem lines_none (w w' : World) (t : Touch [] w w') : LinesPost none w (.returned (.tuple #[.slice none 0 0, .int .i64 6])) w' := ⟨_, rfl, Reads.nil _ _, t⟩
def LinesOwn (o : Option (List (List UInt8))) (w : World) (r : Ending) (w' : World) : Prop := ∃ u, r = .returned (.tuple #[u, .int .i64 (resE o)]) ∧ StrsAt w' u (o.getD []) ∧ Touch [] w w' ∧ ∀ x, o = some x → OwnS w' u x ∧ ∀ b ∈ blk u, w.heap.size ≤ b
theorem lines_none2 (w w' : World) (t : Touch [] w w') : LinesOwn none w (.returned (.tuple #[.slice none 0 0, .int .i64 6])) w' := ⟨_, rfl, Reads.nil _ _, t, fun x h => by cases h⟩
theorem lines_own2 {w w' : World} {u : Value} {xs : List (List UInt8)} (h : OwnS w' u xs) (t : Touch [] w w') (f : ∀ b ∈ blk u, w.heap.size ≤ b) : LinesOwn (some xs) w (.returned (.tuple #[u, .int .i64 0])) w' :=
 ⟨u, rfl, h.reads, t, fun x hx => by injection hx with hx; subst hx; exact ⟨h, f⟩⟩
theorem own_of {w : World} {v : Value} {y x : List UInt8} {b : List (List UInt8)} (h : Own w 9 1 v (1 + b.length + 1) ([.string ⟨y.toArray⟩] ++ b.map str ++ [.string ⟨x.toArray⟩])) : OwnS w v (y :: b ++ [x]) := by
 have e1 : (y :: b ++ [x]).length = 1 + b.length + 1 := by simp; omega
 have e2 : (y :: b ++ [x]).map str = [.string ⟨y.toArray⟩] ++ b.map str ++ [.string ⟨x.toArray⟩] := by simp [str]
 unfold OwnS
 rw [e1, e2]
 exact h
theorem RS.start {w : World} {A : Option Addr} {n c : Nat} {l : List UInt8} (h : Bytes w (.slice A n c) l) : RS w w.heap.size l (.agg #[.slice A n c, .int .i64 0]) (0, 0) := ⟨A, n, c, rfl, fun _ => ⟨by simpa using h, by simp, Reads.lt h⟩⟩
theorem Ev41.norm {w' : World} {bd : Nat} {l : List UInt8} {u v : Value} {o : Option (List (List UInt8) × Nat)} {ph : Int} {res : Option (List (List UInt8))} (hx : match o with
 | some x => OwnS w' u x.1 ∧ (∀ b ∈ blk u, bd ≤ b) ∧ RS w' bd l v (0, x.2)
 | none => ∃ e a, e ≠ 0 ∧ RS w' bd l v (e, a)) (hb : ∀ x, o = some x → x.1.length ≤ 512) (hs : res = tailL l ph (o.map fun x => (x.1, (0, x.2)))) :
  ∃ s, RS w' bd l v s ∧ (s.1 ≠ 0 → res = none) ∧ (s.1 = 0 → ∃ b, OwnS w' u b ∧ b.length ≤ 600 ∧ res = tailL l ph (some (b, s))) := by
 cases o with
 | some x =>
  obtain ⟨h1, -, h2⟩ := hx
  exact ⟨_, h2, fun h => absurd rfl h, fun _ => ⟨x.1, h1, by have := hb x rfl; omega, hs⟩⟩
 | none =>
  obtain ⟨e, a, h1, h2⟩ := hx
  exact ⟨_, h2, fun _ => hs, fun h => absurd h h1⟩
theorem tailL_err {l : List UInt8} {ph : Int} {b : List (List UInt8)} {s : Int × Nat} (h : s.1 ≠ 0) : tailL l ph (some (b, s)) = none := by
 unfold tailL limO
 rw [Option.bind_some, if_neg h]
 rfl
theorem listLine_plain_le {xs : List Int} (h : ∀ n ∈ xs, Fits n) (hl : xs.length ≤ 128) : (rowL Lib.itoa xs).length ≤ 100000 := by
 unfold rowL
 split
 ·simp
 ·have := flat_le (f := Lib.itoa) (m := 100) xs (fun n hn => Nat.le_trans (itoa_le20 n (h n hn).1 (h n hn).2) (by omega))
  omega
theorem listLine_money_le {xs : List Int} (h : ∀ n ∈ xs, Fits n) (hl : xs.length ≤ 128) : (rowL moneyL xs).length ≤ 100000 := by
 unfold rowL
 split
 ·simp
 ·have := flat_le (f := moneyL) (m := 100) xs (fun n hn => money_le n (h n hn).1 (h n hn).2)
  omega
theorem refResult_own (l : List UInt8) (v : Value) (w : World) (h : Bytes w v l) (hl : l.length ≤ 65536) : Calls Tryz.prog 16 #[v] w (LinesOwn (resL l) w) := by
 have h' := h
 obtain ⟨A, c, rfl, -⟩ := h'
 have HR0 := Lib.hid (RS.start h)
 generalize hR1 : rRead 0 (pUint l) (0, 0) = x1
 obtain ⟨ph, e, a⟩ := x1
 have HR1 := Lib.hid hR1
 have HL := Lib.hid hl
 clear h
 generalize hres : resL l = res
 have HRES := Lib.hid hres
 clear hres
 have HUI := Lib.hid (fun (u : Value) (s : Int × Nat) W (hr : RS W w.heap.size l u s) => uint41_any w.heap.size l u s W hr (by omega))
 have HEV := Lib.hid (fun (u : Value) W (hr : RS W w.heap.size l u (0, a)) (hs : w.heap.size ≤ W.heap.size) => refEvents_any w.heap.size l u a W hr hs (by omega))
 have HAR := Lib.hid (fun (u : Value) W (hr : RS W w.heap.size l u (0, a)) (hs : w.heap.size ≤ W.heap.size) => refAreas_any w.heap.size l u a W hr hs (by omega))
 have HLI := Lib.hid (fun (u : Value) (s : Int × Nat) W (hr : RS W w.heap.size l u s) => list41_any w.heap.size l u s 128 W hr (by omega))
 have HEN := Lib.hid (fun (u : Value) (s : Int × Nat) W (hr : RS W w.heap.size l u s) => end41_any w.heap.size l u s W hr)
 have HIN := Lib.hid (fun (s : Int × Nat) (h : s.2 ≤ l.length) => rInts_in l 128 s (by omega) h)
 have HAL : Hid (e = 0 → a ≤ l.length) := Lib.hid (fun h => by subst h; exact rUint_le hR1)
 generalize hn : l.length = n at *
 clear hn hl hR1
 go_enter Tryz.func16, Tryz.ntmps16
 go_wp2_with fail
 with_reducible refine Calls.mono (HUI.out _ (0, 0) _ HR0.out) ?_
 rintro r w1 ⟨u, v1, rfl, rfl, hr1, ht1⟩
 rw [HR1.out] at hr1 ⊢
 obtain ⟨A1, n1, c1, rfl⟩ := hr1.form
 dsimp only at hr1 ⊢
 unfold iv
 have hrc := RC.new (s := (e, a)) hr1
 have HT1 : Hid (Touch [] w (w1.alloc (.cells #[.slice A1 n1 c1, .int .i64 e] 83))) := Lib.hid (ht1.alloc _)
 have HT9 := Lib.hid (fun e' : Int => ht1.alloc (.cells #[.slice A1 n1 c1, .int .i64 e'] 83))
 have HGG : Hid (w.heap.size ≤ w1.heap.size) := Lib.hid ht1.size
 clear hr1 HR0
 by_cases hok : e = 0 ∧ 1 ≤ ph ∧ ph ≤ 3
 rotate_left
 ·have HN : Hid (res = none) := Lib.hid (HRES.out.symm.trans (resL_bad HR1.out (by omega)))
  clear hrc
  go_wp2_with fail
  all_goals (first | (exfalso; omega) | skip)
  all_goals
   go_ret2
   rw [HN.out]
   exact lines_none2 _ _ (HT9.out _)
 obtain ⟨rfl, hp1, hp3⟩ := hok
 have HS : Hid (res = tailL l ph (bodyL l ph a)) := Lib.hid (HRES.out.symm.trans (resL_good HR1.out hp1 hp3))
 have HAL2 := Lib.hid (HAL.out rfl)
 have HPH : Hid (∀ (m : Nat), 1 ≤ m → m ≤ 5 → ∀ W, Calls Tryz.prog 51 #[] W fun r w' => ∃ b, r = .returned (.slice (some ⟨b, 0, none⟩) 6 6) ∧ W.heap.size ≤ b ∧ w'.cell? ⟨b, m, none⟩ = some (.string ⟨(phaseL (m : Int)).toArray⟩) ∧ Touch [] W w') := Lib.hid (fun m h1 h5 W => (phases_any W).mono fun r w' h => by
  obtain ⟨b, cs, h1', h2, h3, h4, h5'⟩ := h
  exact ⟨b, h1', h2, (h3.cell m).trans (h4 m h1 h5), h5'⟩)
 clear HR1 HRES ht1 HAL HT9
 have hph : ph = 1 ∨ ph = 2 ∨ ph = 3 := by omega
 clear hp1 hp3
 rcases hph with rfl | rfl | rfl
 have HP := HPH.out 1 (by omega) (by omega)
 go_wp2_with fail
 generalize (w1.alloc (.cells #[.slice A1 n1 c1, .int .i64 0] 83)) = w2 at *
 generalize w1.heap.size = g at *
 with_reducible refine (HP w2).mono ?_
 rintro r w3 ⟨bb, rfl, hbb, cb, ht3⟩
 dsimp only
 have ht3a := ht3.alloc (.cells #[.string ⟨(phaseL 1).toArray⟩] 9)
 have ho6 := ownLit w3 _ rfl 9 1 1 [.string ⟨(phaseL 1).toArray⟩] rfl (by simp [maxLen])
 have hrc3 := hrc.touch0 ht3a
 have HT3 := Lib.hid (HT1.out.then0 ht3a)
 have HG6 : Hid (w.heap.size ≤ w3.heap.size) := Lib.hid (by have := HT1.out.size; have := ht3.size; omega)
 obtain ⟨A0, n0, c0, hr0, q0, q1, f0, f1⟩ := hrc3.cells
 dsimp only at hr0 q0 q1
 clear hrc HT1 HP
 go_wp2_with fail
 generalize (w3.alloc (.cells #[.string ⟨(phaseL 1).toArray⟩] 9)) = w3a at *
 generalize w3.heap.size = g6 at *
 clear cb hbb ht3 ht3a
 clear q0 q1 f0 f1
 with_reducible refine (HEV.out _ _ hr0 (HT3.out.size)).mono ?_
 rintro r w4 ⟨u, v4, rfl, ht4, hx⟩
 obtain ⟨s, hr4, hbad, hgood⟩ := Ev41.norm (ph := 1) (res := res) hx (fun _ => evL_len) (by rw [HS.out]; rfl)
 obtain ⟨A4, n4, c4, rfl⟩ := hr4.form
 obtain ⟨hrc4, htk, hr9⟩ := hrc3.put (s' := s) ht4 hr4
 obtain ⟨_, _, _, -, q0, q1, f0, f1⟩ := (hrc3.touch0 ht4).cells
 have ho6b := (ho6.touch0 ht4).touch ((Touch.refl [g] w4).trans (((Touch.refl [g] w4).setCell (p := ⟨g, 0, none⟩) (.inl (by simp)) (.slice A4 n4 c4)).setCell (p := ⟨g, 1, none⟩) (.inl (by simp)) (.int .i64 s.1))) (fun b hb hm => by rw [List.mem_singleton] at hm; subst hm; exact (hrc3.touch0 ht4).far (ho6.touch0 ht4) hb)
 have HBAD := Lib.hid hbad
 have HGOOD : Hid (s.1 = 0 → ∃ b, OwnS ((w4.setCell ⟨g, 0, none⟩ (.slice A4 n4 c4)).setCell ⟨g, 1, none⟩ (.int .i64 s.1)) u b ∧ b.length ≤ 600 ∧ res = tailL l 1 (some (b, s))) := Lib.hid (fun h0 => by
  obtain ⟨b, h1, h2, h3⟩ := hgood h0
  exact ⟨b, h1.touch (((Touch.refl [g] w4).setCell (p := ⟨g, 0, none⟩) (.inl (by simp)) (.slice A4 n4 c4)).setCell (p := ⟨g, 1, none⟩) (.inl (by simp)) (.int .i64 s.1)) (fun x hb hm => by rw [List.mem_singleton] at hm; subst hm; exact (hrc3.touch0 ht4).far h1 hb), h2, h3⟩)
 have HT7 : Hid (Touch [] w ((w4.setCell ⟨g, 0, none⟩ (.slice A4 n4 c4)).setCell ⟨g, 1, none⟩ (.int .i64 s.1))) := Lib.hid ((HT3.out.then0 ht4).step (((Touch.refl [g] w4).setCell (p := ⟨g, 0, none⟩) (.inl (by simp)) (.slice A4 n4 c4)).setCell (p := ⟨g, 1, none⟩) (.inl (by simp)) (.int .i64 s.1)) (fun m hm => .inr (by rw [List.mem_singleton] at hm; rw [hm]; exact HGG.out)))
 dsimp only
 clear hx hbad hgood hr4 hr0 htk hrc3 ho6 ht4 HT3
 go_wp2_with fail
 generalize ((w4.setCell ⟨g, 0, none⟩ (.slice A4 n4 c4)).setCell ⟨g, 1, none⟩ (.int .i64 s.1)) = w7 at *
 clear q0 q1 f0 f1
 rotate_left
 rotate_left
 have HP := HPH.out 3 (by omega) (by omega)
 go_wp2_with fail
 generalize (w1.alloc (.cells #[.slice A1 n1 c1, .int .i64 0] 83)) = w2 at *
 generalize w1.heap.size = g at *
 with_reducible refine (HP w2).mono ?_
 rintro r w3 ⟨bb, rfl, hbb, cb, ht3⟩
 dsimp only
 have ht3a := ht3.alloc (.cells #[.string ⟨(phaseL 3).toArray⟩] 9)
 have ho6 := ownLit w3 _ rfl 9 1 1 [.string ⟨(phaseL 3).toArray⟩] rfl (by simp [maxLen])
 have hrc3 := hrc.touch0 ht3a
 have HT3 := Lib.hid (HT1.out.then0 ht3a)
 have HG6 : Hid (w.heap.size ≤ w3.heap.size) := Lib.hid (by have := HT1.out.size; have := ht3.size; omega)
 obtain ⟨A0, n0, c0, hr0, q0, q1, f0, f1⟩ := hrc3.cells
 dsimp only at hr0 q0 q1
 clear hrc HT1 HP
 go_wp2_with fail
 generalize (w3.alloc (.cells #[.string ⟨(phaseL 3).toArray⟩] 9)) = w3a at *
 generalize w3.heap.size = g6 at *
 clear cb hbb ht3 ht3a
 clear q0 q1 f0 f1
 with_reducible refine (HAR.out _ _ hr0 (HT3.out.size)).mono ?_
 rintro r w4 ⟨u, v4, rfl, ht4, hx⟩
 obtain ⟨s, hr4, hbad, hgood⟩ := Ev41.norm (ph := 3) (res := res) hx (fun _ => areasL_len) (by rw [HS.out]; rfl)
 obtain ⟨A4, n4, c4, rfl⟩ := hr4.form
 obtain ⟨hrc4, htk, hr9⟩ := hrc3.put (s' := s) ht4 hr4
 obtain ⟨_, _, _, -, q0, q1, f0, f1⟩ := (hrc3.touch0 ht4).cells
 have ho6b := (ho6.touch0 ht4).touch ((Touch.refl [g] w4).trans (((Touch.refl [g] w4).setCell (p := ⟨g, 0, none⟩) (.inl (by simp)) (.slice A4 n4 c4)).setCell (p := ⟨g, 1, none⟩) (.inl (by simp)) (.int .i64 s.1))) (fun b hb hm => by rw [List.mem_singleton] at hm; subst hm; exact (hrc3.touch0 ht4).far (ho6.touch0 ht4) hb)
 have HBAD := Lib.hid hbad
 have HGOOD : Hid (s.1 = 0 → ∃ b, OwnS ((w4.setCell ⟨g, 0, none⟩ (.slice A4 n4 c4)).setCell ⟨g, 1, none⟩ (.int .i64 s.1)) u b ∧ b.length ≤ 600 ∧ res = tailL l 3 (some (b, s))) := Lib.hid (fun h0 => by
  obtain ⟨b, h1, h2, h3⟩ := hgood h0
  exact ⟨b, h1.touch (((Touch.refl [g] w4).setCell (p := ⟨g, 0, none⟩) (.inl (by simp)) (.slice A4 n4 c4)).setCell (p := ⟨g, 1, none⟩) (.inl (by simp)) (.int .i64 s.1)) (fun x hb hm => by rw [List.mem_singleton] at hm; subst hm; exact (hrc3.touch0 ht4).far h1 hb), h2, h3⟩)
 have HT7 : Hid (Touch [] w ((w4.setCell ⟨g, 0, none⟩ (.slice A4 n4 c4)).setCell ⟨g, 1, none⟩ (.int .i64 s.1))) := Lib.hid ((HT3.out.then0 ht4).step (((Touch.refl [g] w4).setCell (p := ⟨g, 0, none⟩) (.inl (by simp)) (.slice A4 n4 c4)).setCell (p := ⟨g, 1, none⟩) (.inl (by simp)) (.int .i64 s.1)) (fun m hm => .inr (by rw [List.mem_singleton] at hm; rw [hm]; exact HGG.out)))
 dsimp only
 clear hx hbad hgood hr4 hr0 htk hrc3 ho6 ht4 HT3
 go_wp2_with fail
 generalize ((w4.setCell ⟨g, 0, none⟩ (.slice A4 n4 c4)).setCell ⟨g, 1, none⟩ (.int .i64 s.1)) = w7 at *
 clear q0 q1 f0 f1
 rotate_left
 rotate_left
 have HP := HPH.out 2 (by omega) (by omega)
 go_wp2_with fail
 generalize (w1.alloc (.cells #[.slice A1 n1 c1, .int .i64 0] 83)) = w2 at *
 generalize w1.heap.size = g at *
 with_reducible refine (HP w2).mono ?_
 rintro r w3 ⟨bb, rfl, hbb, cb, ht3⟩
 dsimp only
 have ht3a := ht3.alloc (.cells #[.string ⟨(phaseL 2).toArray⟩] 9)
 have ho6 := ownLit w3 _ rfl 9 1 1 [.string ⟨(phaseL 2).toArray⟩] rfl (by simp [maxLen])
 have hrc3 := hrc.touch0 ht3a
 have HT3 := Lib.hid (HT1.out.then0 ht3a)
 have HG6 : Hid (w.heap.size ≤ w3.heap.size) := Lib.hid (by have := HT1.out.size; have := ht3.size; omega)
 obtain ⟨A0, n0, c0, hr0, q0, q1, f0, f1⟩ := hrc3.cells
 dsimp only at hr0 q0 q1
 clear hrc HT1 HP
 go_wp2_with fail
 generalize (w3.alloc (.cells #[.string ⟨(phaseL 2).toArray⟩] 9)) = w3a at *
 generalize w3.heap.size = g6 at *
 clear cb hbb ht3 ht3a
 generalize hR1 : rRead [] (pInts l 128) (0, a) = x1
 obtain ⟨xs, oe, oa⟩ := x1
 generalize hR2 : rRead [] (pInts l 128) (oe, oa) = x2
 obtain ⟨ys, s⟩ := x2
 have F1 := HIN.out (0, a) HAL2.out
 rw [hR1] at F1
 dsimp only at F1
 have F2 := HIN.out (oe, oa) F1.2.2
 rw [hR2] at F2
 dsimp only at F2
 have HF := Lib.hid (And.intro F1 F2)
 have HS2 : Hid (res = tailL l 2 (some ([listLine appliedB Lib.itoa xs, listLine pricesB moneyL ys], s))) := Lib.hid (by
  rw [HS.out]
  unfold bodyL
  rw [if_neg (by decide), if_pos rfl]
  simp only [hR1, hR2])
 have HR1 := Lib.hid hR1
 have HR2 := Lib.hid hR2
 clear hR1 hR2 F1 F2 q0 q1 f0 f1
 with_reducible refine (HLI.out _ (0, a) _ hr0).mono ?_
 rintro r w4 ⟨u1, v4, rfl, hu1, hr4, ht4⟩
 rw [HR1.out] at hu1 hr4
 obtain ⟨A4, n4, c4, rfl⟩ := hr4.form
 dsimp only at hu1 hr4 ⊢
 have hrcx := hrc3.touch0 ht4
 obtain ⟨hrc4, htk, hr9⟩ := hrc3.put (s' := (oe, oa)) ht4 hr4
 obtain ⟨_, _, _, -, q0, q1, f0, f1⟩ := hrcx.cells
 have ho6b := (ho6.touch0 ht4).touch (((Touch.refl [g] w4).setCell (p := ⟨g, 0, none⟩) (.inl (by simp)) (.slice A4 n4 c4)).setCell (p := ⟨g, 1, none⟩) (.inl (by simp)) (.int .i64 oe)) (fun b hb hm => by rw [List.mem_singleton] at hm; subst hm; exact hrcx.far (ho6.touch0 ht4) hb)
 have hgb : ∃ A n c, Blk w4 g 83 #[.slice A n c, .int .i64 0] := by
  obtain ⟨A, n, c, h, -⟩ := hrcx
  exact ⟨A, n, c, h⟩
 obtain ⟨_, _, _, hgb⟩ := hgb
 have HU1 := Lib.hid (Own.touch (hu1) (((Touch.refl [g] w4).setCell (p := ⟨g, 0, none⟩) (.inl (by simp)) (.slice A4 n4 c4)).setCell (p := ⟨g, 1, none⟩) (.inl (by simp)) (.int .i64 oe)) (fun b hb hm => by rw [List.mem_singleton] at hm; subst hm; exact Own.ne_blk (hu1) hgb (by decide) hb))
 have HT4 : Hid (Touch [] w ((w4.setCell ⟨g, 0, none⟩ (.slice A4 n4 c4)).setCell ⟨g, 1, none⟩ (.int .i64 oe))) := Lib.hid ((HT3.out.then0 ht4).step (((Touch.refl [g] w4).setCell (p := ⟨g, 0, none⟩) (.inl (by simp)) (.slice A4 n4 c4)).setCell (p := ⟨g, 1, none⟩) (.inl (by simp)) (.int .i64 oe)) (fun m hm => .inr (by rw [List.mem_singleton] at hm; rw [hm]; exact HGG.out)))
 try dsimp only at hrc4 hr9
 clear htk hgb hrcx ht4 hr4 hr0 hrc3 ho6
 go_wp2_with fail
 generalize ((w4.setCell ⟨g, 0, none⟩ (.slice A4 n4 c4)).setCell ⟨g, 1, none⟩ (.int .i64 oe)) = w5 at *
 clear q0 q1 f0 f1
 have hr0 := hr9
 have hrc5 := hrc4
 have ho7 := ho6b
 have HT5 := HT4
 clear hr9 hrc4 ho6b HT4
 obtain ⟨_, _, _, -, q0, q1, f0, f1⟩ := hrc5.cells
 with_reducible refine (HLI.out _ (oe, oa) _ hr0).mono ?_
 rintro r w4 ⟨u2, v4, rfl, hu2, hr4, ht4⟩
 rw [HR2.out] at hu2 hr4
 obtain ⟨A4, n4, c4, rfl⟩ := hr4.form
 try dsimp only at hu2 hr4 ⊢
 have hrcx := hrc5.touch0 ht4
 obtain ⟨hrc4, htk, hr9⟩ := hrc5.put (s' := s) ht4 hr4
 obtain ⟨_, _, _, -, q0, q1, f0, f1⟩ := hrcx.cells
 have ho6b := (ho7.touch0 ht4).touch (((Touch.refl [g] w4).setCell (p := ⟨g, 0, none⟩) (.inl (by simp)) (.slice A4 n4 c4)).setCell (p := ⟨g, 1, none⟩) (.inl (by simp)) (.int .i64 s.1)) (fun b hb hm => by rw [List.mem_singleton] at hm; subst hm; exact hrcx.far (ho7.touch0 ht4) hb)
 have hgb : ∃ A n c, Blk w4 g 83 #[.slice A n c, .int .i64 oe] := by
  obtain ⟨A, n, c, h, -⟩ := hrcx
  exact ⟨A, n, c, h⟩
 obtain ⟨_, _, _, hgb⟩ := hgb
 have HU1 := Lib.hid (Own.touch (HU1.out.touch0 ht4) (((Touch.refl [g] w4).setCell (p := ⟨g, 0, none⟩) (.inl (by simp)) (.slice A4 n4 c4)).setCell (p := ⟨g, 1, none⟩) (.inl (by simp)) (.int .i64 s.1)) (fun b hb hm => by rw [List.mem_singleton] at hm; subst hm; exact Own.ne_blk (HU1.out.touch0 ht4) hgb (by decide) hb))
 have HU2 := Lib.hid (Own.touch (hu2) (((Touch.refl [g] w4).setCell (p := ⟨g, 0, none⟩) (.inl (by simp)) (.slice A4 n4 c4)).setCell (p := ⟨g, 1, none⟩) (.inl (by simp)) (.int .i64 s.1)) (fun b hb hm => by rw [List.mem_singleton] at hm; subst hm; exact Own.ne_blk (hu2) hgb (by decide) hb))
 have HT4 : Hid (Touch [] w ((w4.setCell ⟨g, 0, none⟩ (.slice A4 n4 c4)).setCell ⟨g, 1, none⟩ (.int .i64 s.1))) := Lib.hid ((HT5.out.then0 ht4).step (((Touch.refl [g] w4).setCell (p := ⟨g, 0, none⟩) (.inl (by simp)) (.slice A4 n4 c4)).setCell (p := ⟨g, 1, none⟩) (.inl (by simp)) (.int .i64 s.1)) (fun m hm => .inr (by rw [List.mem_singleton] at hm; rw [hm]; exact HGG.out)))
 try dsimp only at hrc4 hr9
 clear htk hgb hrcx ht4 hr4 hr0 hrc5 ho7
 go_wp2_with fail
 generalize ((w4.setCell ⟨g, 0, none⟩ (.slice A4 n4 c4)).setCell ⟨g, 1, none⟩ (.int .i64 s.1)) = w5 at *
 clear q0 q1 f0 f1
 have HL1 := Lib.hid (listLine_plain_le HF.out.1.1 (by have := HF.out.1.2.1; omega))
 have HL2 := Lib.hid (listLine_money_le HF.out.2.1 (by have := HF.out.2.2.1; omega))
 have HP1 := Lib.hid (rowPlain_any _ xs w5 HU1.out HF.out.1.1 (by have := HF.out.1.2.1; omega))
 have HP2 := Lib.hid (fun W (t : Touch [] w5 W) => rowMoney_any _ ys W (HU2.out.touch0 t) HF.out.2.1 (by have := HF.out.2.2.1; omega))
 have HBAD : Hid (s.1 ≠ 0 → res = none) := Lib.hid (fun h => HS2.out.trans (tailL_err h))
 rw [listLine_row, listLine_row] at HS2
 generalize rowL Lib.itoa xs = y1 at *
 generalize rowL moneyL ys = y2 at *
 have hs1 : ¬ 9223372036854775807 < 7 + y1.length := by have := HL1.out; omega
 have hs2 : ¬ 9223372036854775807 < 6 + y2.length := by have := HL2.out; omega
 clear HU1 HU2
 with_reducible refine HP1.out.mono ?_
 rintro r w6 ⟨rfl, ht6⟩
 go_wp2_with fail
 with_reducible refine (HP2.out w6 ht6).mono ?_
 rintro r w7 ⟨rfl, ht7⟩
 dsimp only
 have HB1 : Hid (ByteArray.mk #[97, 112, 112, 108, 105, 101, 100] ++ ByteArray.mk y1.toArray = ByteArray.mk (appliedB ++ y1).toArray) := Lib.hid (tx_add _ _)
 have HB2 : Hid (ByteArray.mk #[112, 114, 105, 99, 101, 115] ++ ByteArray.mk y2.toArray = ByteArray.mk (pricesB ++ y2).toArray) := Lib.hid (tx_add _ _)
 have tz := (ht6.then0 ht7).alloc (.cells #[.string (ByteArray.mk #[97, 112, 112, 108, 105, 101, 100] ++ ByteArray.mk y1.toArray), .string (ByteArray.mk #[112, 114, 105, 99, 101, 115] ++ ByteArray.mk y2.toArray)] 9)
 have hob := ownLit w7 _ rfl 9 1 2 [.string (ByteArray.mk #[97, 112, 112, 108, 105, 101, 100] ++ ByteArray.mk y1.toArray), .string (ByteArray.mk #[112, 114, 105, 99, 101, 115] ++ ByteArray.mk y2.toArray)] rfl (by simp [maxLen])
 have hrc5 := hrc4.touch0 tz
 obtain ⟨A6, n6, c6, hr6, q0, q1, f0, f1⟩ := hrc5.cells
 have ho7 := ho6b.touch0 tz
 have HT7 := Lib.hid (HT4.out.then0 tz)
 clear hrc4 ho6b hr9 tz ht6 ht7 HT4
 go_wp2_with fail
 generalize (w7.alloc (.cells #[.string (ByteArray.mk #[97, 112, 112, 108, 105, 101, 100] ++ ByteArray.mk y1.toArray), .string (ByteArray.mk #[112, 114, 105, 99, 101, 115] ++ ByteArray.mk y2.toArray)] 9)) = w8 at *
 rw [HB1.out, HB2.out] at hob
 have HGOOD : Hid (s.1 = 0 → ∃ b, OwnS w8 (.slice (some ⟨w7.heap.size, 0, none⟩) 2 2) b ∧ b.length ≤ 600 ∧ res = tailL l 2 (some (b, s))) := Lib.hid (fun _ => ⟨[appliedB ++ y1, pricesB ++ y2], hob, by simp, HS2.out⟩)
 have hrc4 := hrc5
 have ho6b := ho7
 have hr9 := hr6
 clear hrc5 ho7 hr6 q0 q1 f0 f1 HB1 HB2 hob
 generalize hug : Value.slice (some ⟨w7.heap.size, 0, none⟩) 2 2 = u at *
 clear hug
 rotate_left
 all_goals
  have ho6c := Lib.hid ho6b
  have HRC7 := Lib.hid hrc4
  generalize hR : rRead 0 (pUint l) s = x2
  obtain ⟨nv, ne, na⟩ := x2
  have HR := Lib.hid hR
  have HNV := Lib.hid (rUint_in hR)
  clear hR ho6b hrc4
  with_reducible refine Calls.mono (HUI.out _ s _ hr9) ?_
  rintro r w8 ⟨u8, v8, rfl, rfl, hr8, ht8⟩
  rw [HR.out] at hr8 ⊢
  obtain ⟨A8, n8, c8, rfl⟩ := hr8.form
  dsimp only at hr8 ⊢
  unfold iv
  have hrc8 := RC.new (s := (ne, na)) hr8
  have ht9 := ht8.alloc (.cells #[.slice A8 n8 c8, .int .i64 ne] 83)
  clear hr9
  obtain ⟨A9, n9, c9, hr9, p0, p1, pf0, pf1⟩ := hrc8.cells
  dsimp only at hr9 p0 p1
  clear hr8 ht8
  go_wp2_with fail
  generalize (w8.alloc (.cells #[.slice A8 n8 c8, .int .i64 ne] 83)) = w9 at *
  clear p0 p1 pf0 pf1
  with_reducible refine (HEN.out _ (ne, na) _ hr9).mono ?_
  rintro r w10 ⟨rfl, ht10⟩
  dsimp only at ht10 ⊢
  have HT10 := Lib.hid ((HT7.out.then0 ht9).then0 ht10)
  have HO6 := Lib.hid ((ho6c.out.touch0 ht9).touch0 ht10)
  have HTT := Lib.hid (ht9.then0 ht10)
  generalize hE : rEnd l ne na = E at *
  have HE := Lib.hid hE
  clear hE ht9 ht10 hr9 hrc8 ho6c
  by_cases hok : E = 0 ∧ 1 ≤ nv ∧ nv ≤ 5
  rotate_left
  ·have HNN : Hid (res = none) := Lib.hid (by
    by_cases h0 : s.1 = 0
    ·obtain ⟨b, -, -, hr⟩ := HGOOD.out h0
     rw [hr]
     exact tailL_bad HR.out (by rw [HE.out]; omega)
    ·exact HBAD.out h0)
   clear HGOOD HBAD
   go_wp2_with fail
   all_goals (first | (exfalso; omega) | skip)
   all_goals
    go_ret2
    rw [HNN.out]
    exact lines_none2 _ _ HT10.out
  ·obtain ⟨rfl, hn1, hn5⟩ := hok
   obtain ⟨nm, rfl⟩ : ∃ nm : Nat, nv = (nm : Int) := ⟨nv.toNat, by omega⟩
   have h0 : s.1 = 0 := by
    have e0 : ne = 0 := by
     have := HE.out
     unfold rEnd at this
     split at this
     ·rename_i h; exact h
     ·exact this
    subst e0
    exact read_ok (e := s.1) (a := s.2) HR.out
   obtain ⟨b, hob, hlb, hrs⟩ := HGOOD.out h0
   have HRS : Hid (res = some (phaseL _ :: b ++ [Lib.join [nextB, phaseL (nm : Int)] [32]])) := Lib.hid (hrs.trans (tailL_good HR.out HE.out hn1 hn5))
   have HOB := Lib.hid ((hob.touch0 HTT.out).reads)
   have hn5' : (nm : Int) < 6 := by omega
   have hn0 : ((nm : Int) < 1) = False := eq_false (by omega)
   have hn6 : ((5 : Int) < (nm : Int)) = False := eq_false (by omega)
   have HPN := Lib.hid (HPH.out nm (by omega) (by omega))
   have HLN := Lib.hid (phase_le (nm : Int))
   obtain ⟨Ab, cb, rfl⟩ := hob.form
   clear HGOOD HBAD hrs h0 hob hn1 hn5 HR HE HRC7 HTT
   have hlb2 : (1 + b.length) * 16 ≤ 140737488355328 := by omega
   have hbf : ∀ m ∈ blk (Value.slice (some ⟨g6, 0, none⟩) 1 1), w.heap.size ≤ m := fun m hm => by
    simp [blk] at hm
    rw [hm]
    exact HG6.out
   have HBF := Lib.hid hbf
   clear hbf
   go_wp2_with (at_builtin; go_must (refine app_reads elem_str HO6.out HOB.out (by simp [str, Value.oneCell']) (by omega) (by unfold maxLen; omega) ?_); intro v11 w11 ho11 ht11 hf11)
   obtain ⟨A11, c11, rfl⟩ := Own.form ho11
   with_reducible refine (HPN.out _).mono ?_
   rintro r w12 ⟨bn, rfl, hbn, cbn, ht12⟩
   have HO12 := Lib.hid (ho11.touch0 ht12)
   have HF11 := Lib.hid hf11
   have HT12 := Lib.hid ((HT10.out.step ht11 (fun m hm => .inr (HBF.out m hm))).then0 ht12)
   have HZ := Lib.hid HT10.out.size
   clear ho11 hf11 ht11 ht12 hbn
   have hj : Lib.join [nextB, phaseL (nm : Int)] [32] = [110, 101, 120, 116, 32] ++ phaseL (nm : Int) := by
    unfold nextB
    rw [Lib.join_cons]
    simp [Lib.joinTail]
   have hs5 : ¬ 9223372036854775807 < 5 + (phaseL (nm : Int)).length := by have := HLN.out; omega
   have hs6 : 1 + b.length ≤ 700 := by omega
   generalize phaseL (nm : Int) = pn at *
   dsimp only
   go_wp2_with (at_builtin; go_must (refine app_new elem_str HO12.out [.string (ByteArray.mk #[110, 101, 120, 116, 32] ++ ByteArray.mk pn.toArray)] 1 1 (by omega) (by unfold maxLen; omega) ?_); intro v13 w13 ho13 ht13 hf13)
   go_ret2
   rw [HRS.out]
   have hBW : ∀ m ∈ blk (Value.slice A11 (1 + b.length) c11), w.heap.size ≤ m := fun m hm => by
    rcases HF11.out m hm with h | h
    ·exact HBF.out m h
    ·exact Nat.le_trans HZ.out h
   refine lines_own2 (own_of (by rw [hj]; exact (show ByteArray.mk ([110, 101, 120, 116, 32] ++ pn).toArray = _ from (tx_add _ _).symm) ▸ ho13)) (HT12.out.step ht13 (fun m hm => .inr (hBW m hm))) (fun m hm => ?_)
   rcases hf13 m hm with h | h
   ·exact hBW m h
   ·exact Nat.le_trans HT12.out.size h
theorem refResult_any (l : List UInt8) (v : Value) (w : World) (h : Bytes w v l) (hl : l.length ≤ 65536) : Calls Tryz.prog 16 #[v] w (LinesPost (resL l) w) :=
 (refResult_own l v w h hl).mono fun r w' ⟨u, h1, h2, h3, _⟩ => ⟨u, h1, h2, h3⟩
end Go.Proofs.YtedpaajpfaoffaaGreatDoor
