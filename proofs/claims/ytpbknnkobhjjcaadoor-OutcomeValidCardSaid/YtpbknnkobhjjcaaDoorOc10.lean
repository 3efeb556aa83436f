/- Equality of outcomes by the reference; payments. -/
import Derived.Test.YtpbknnkobhjjcaaDoorOc9
namespace Go.Proofs.YtpbknnkobhjjcaaDoor
open Go.RowKit
set_option linter.unusedSimpArgs false

def SRel (W0 : World) (X Y : List Int) (e : Bool) (ti : Value) (wr : World) : Prop := ∃ k : Nat, k ≤ X.length ∧ ti = .int .i64 k ∧ Drew W0 wr ∧ e = decide (X.drop k = Y.drop k)
theorem Drew.blk {w w' : World} {g : Nat} {t : TypeId} {cs : Array Value} (h : Drew w w') (hb : Blk w g t cs) : Blk w' g t cs := hb.touch h.touch (by simp)
set_option maxRecDepth 100000 in
set_option maxHeartbeats 8000000 in
theorem refSame_any (o o2 : Ox) (w : World) (ho : o.Ok w) (ho2 : o2.Ok w) (hs : o.small) (hs' : o2.small) : Calls Tryd.prog 20 #[o.val, o2.val] w fun r w' => r = .returned (.bool (sameB o o2)) ∧ Touch [] w w' := by
  obtain ⟨hW, hX, hA, hf⟩ := ho
  obtain ⟨hV, hY, hB, hg⟩ := ho2
  obtain ⟨hs1, hs2, hs3⟩ := hs
  obtain ⟨hz1, hz2, hz3⟩ := hs'
  obtain ⟨wv, xv, av, W, X, A, cost⟩ := o
  obtain ⟨wv2, xv2, av2, V, Y, B, cost2⟩ := o2
  simp only [Ox.val, sameB] at *
  obtain ⟨Aw, cw, rfl⟩ := hW.form
  obtain ⟨Ax, cx, rfl⟩ := hX.form
  obtain ⟨Aa, ca, rfl⟩ := hA.form
  obtain ⟨Bw, dw, rfl⟩ := hV.form
  obtain ⟨Bx, dx, rfl⟩ := hY.form
  obtain ⟨Ba, da, rfl⟩ := hB.form
  obtain ⟨hcx1, hcx2⟩ := hX.cap
  obtain ⟨hdx1, hdx2⟩ := hY.cap
  have ht0 : Touch [] w ((w.alloc (.cells #[.slice Aw W.length cw, .slice Ax X.length cx, .slice Aa A.length ca, .int .i64 cost] 26)).alloc (.cells #[.slice Bw V.length dw, .slice Bx Y.length dx, .slice Ba B.length da, .int .i64 cost2] 26)) := ((Touch.refl _ _).alloc _).alloc _
  have HT := Lib.hid ht0
  by_cases hxy : X.length = Y.length
  case neg =>
    rw [decide_eq_false (fun e : X = Y => hxy (by rw [e]))]
    simp only [Bool.false_and, Bool.and_false]
    have b1 : ((X.length : Int) != (Y.length : Int)) = true := by simp; omega
    have b2 : ((X.length : Int) == (Y.length : Int)) = false := by simp; omega
    clear hxy hW hX hA hV hY hB ht0
    go_enter Tryd.func20, Tryd.ntmps20
    go_wp2_with fail
    go_ret
    exact ⟨rfl, HT.out⟩
  have b1 : ((X.length : Int) != (Y.length : Int)) = false := by simp; omega
  have b2 : ((X.length : Int) == (Y.length : Int)) = true := by simp; omega
  have hst : SRel ((w.alloc (.cells #[.slice Aw W.length cw, .slice Ax X.length cx, .slice Aa A.length ca, .int .i64 cost] 26)).alloc (.cells #[.slice Bw V.length dw, .slice Bx Y.length dx, .slice Ba B.length da, .int .i64 cost2] 26)) X Y (decide (X = Y)) (.int .i64 0) ((w.alloc (.cells #[.slice Aw W.length cw, .slice Ax X.length cx, .slice Aa A.length ca, .int .i64 cost] 26)).alloc (.cells #[.slice Bw V.length dw, .slice Bx Y.length dx, .slice Ba B.length da, .int .i64 cost2] 26)) := ⟨0, by omega, rfl, Drew.refl _, rfl⟩
  have HK1 : Hid (Blk ((w.alloc (.cells #[.slice Aw W.length cw, .slice Ax X.length cx, .slice Aa A.length ca, .int .i64 cost] 26)).alloc (.cells #[.slice Bw V.length dw, .slice Bx Y.length dx, .slice Ba B.length da, .int .i64 cost2] 26)) w.heap.size _ _) := Lib.hid ((Blk.new w 26 #[.slice Aw W.length cw, .slice Ax X.length cx, .slice Aa A.length ca, .int .i64 cost]).alloc _)
  have HK2 : Hid (Blk ((w.alloc (.cells #[.slice Aw W.length cw, .slice Ax X.length cx, .slice Aa A.length ca, .int .i64 cost] 26)).alloc (.cells #[.slice Bw V.length dw, .slice Bx Y.length dx, .slice Ba B.length da, .int .i64 cost2] 26)) (w.heap.size + 1) _ _) := Lib.hid (by have := Blk.new (w.alloc (.cells #[.slice Aw W.length cw, .slice Ax X.length cx, .slice Aa A.length ca, .int .i64 cost] 26)) 26 #[.slice Bw V.length dw, .slice Bx Y.length dx, .slice Ba B.length da, .int .i64 cost2]; simpa using this)
  have H1 := Lib.hid (fun W' (h : Drew ((w.alloc (.cells #[.slice Aw W.length cw, .slice Ax X.length cx, .slice Aa A.length ca, .int .i64 cost] 26)).alloc (.cells #[.slice Bw V.length dw, .slice Bx Y.length dx, .slice Ba B.length da, .int .i64 cost2] 26)) W') => sameWinners_any _ _ W V W' ((hW.touch0 ht0).touch0 h.touch) ((hV.touch0 ht0).touch0 h.touch) (by omega))
  have H3 := Lib.hid (fun W' (h : Drew ((w.alloc (.cells #[.slice Aw W.length cw, .slice Ax X.length cx, .slice Aa A.length ca, .int .i64 cost] 26)).alloc (.cells #[.slice Bw V.length dw, .slice Bx Y.length dx, .slice Ba B.length da, .int .i64 cost2] 26)) W') => sameChoices_any _ _ A B W' ((hA.touch0 ht0).touch0 h.touch) ((hB.touch0 ht0).touch0 h.touch) (by omega))
  have HX0 := Lib.hid (hX.touch0 ht0)
  have HY0 := Lib.hid (hY.touch0 ht0)
  have HXY := Lib.hid hxy
  have hxy1 : X.length ≤ Y.length := by omega
  have hxy2 : Y.length ≤ X.length := by omega
  generalize decide (W = V) = e1 at *
  generalize decide (X = Y) = e2 at *
  generalize decide (A = B) = e3 at *
  clear hxy hW hX hA hV hY hB ht0
  go_enter Tryd.func20, Tryd.ntmps20
  go_wp2_with fail
  generalize hW0 : ((w.alloc (.cells #[.slice Aw W.length cw, .slice Ax X.length cx, .slice Aa A.length ca, .int .i64 cost] 26)).alloc (.cells #[.slice Bw V.length dw, .slice Bx Y.length dx, .slice Ba B.length da, .int .i64 cost2] 26)) = W0 at *
  clear hW0
  go_loopw [5] (fun ti wr => SRel W0 X Y e2 ti wr) (fun ti _ => X.length - (intOf ti).toNat)
  case atStart => exact hst
  case round =>
    clear hst
    obtain ⟨k, hk, rfl, hd, hres⟩ := hrel
    have HRES := Lib.hid hres
    clear hres
    have k1 := hd.blk HK1.out
    have k2 := hd.blk HK2.out
    have a0 := k1.cell 0
    have a1 := k1.cell 1
    have a2 := k1.cell 2
    have a3 := k1.cell 3
    have d0 := k2.cell 0
    have d1 := k2.cell 1
    have d2 := k2.cell 2
    have d3 := k2.cell 3
    simp at a0 a1 a2 a3 d0 d1 d2 d3
    clear k1 k2
    by_cases hlt : k < X.length
    · have hlt' : (k : Int) < (X.length : Int) := by omega
      have hlty : k < Y.length := by omega
      have hlty' : (k : Int) < (Y.length : Int) := by omega
      have hXr := HX0.out.touch0 hd.touch
      have hYr := HY0.out.touch0 hd.touch
      obtain ⟨b, off, rfl, hb⟩ := hXr.addr hlt
      obtain ⟨b', off', rfl, hb'⟩ := hYr.addr hlty
      have c0 := Nums.at_ hXr hlt
      have c1 := Nums.at_ hYr hlty
      have HS := Lib.hid (same_step HXY.out hlt)
      generalize hxk : X[k] = xa at *
      generalize hyk : Y[k] = ya at *
      clear hxk hyk hXr hYr
      by_cases hq : xa = ya
      · have HG : Hid (e2 = decide (X.drop (k + 1) = Y.drop (k + 1))) := Lib.hid (by rw [HRES.out, HS.out, if_pos hq])
        have q1 : (xa != ya) = false := by simp [hq]
        have q2 : (xa == ya) = true := by simp [hq]
        clear hq
        go_wp2_with fail
        go_quiet (fail)
        go_wp2_with fail
        go_roundw
        case rel => exact ⟨k + 1, hlt, by go_num, hd.drewN _, HG.out⟩
        case measure => simp [intOf]; omega
      · have HG : Hid (e2 = false) := Lib.hid (by rw [HRES.out, HS.out, if_neg hq])
        have q1 : (xa != ya) = true := by simpa using hq
        have q2 : (xa == ya) = false := by simpa using hq
        clear hq
        go_wp2_with fail
        go_quiet (fail)
        go_wp2_with fail
        go_ret
        exact ⟨ret_b (by rw [HG.out]; simp), (HT.out.then0 hd.touch).drewN _⟩
    have hlt' : ¬ (k : Int) < (X.length : Int) := by omega
    have HG : Hid (e2 = true) := Lib.hid (by rw [HRES.out, List.drop_eq_nil_of_le (by omega), List.drop_eq_nil_of_le (by omega)]; simp)
    have HU1 := Lib.hid (H1.out wr hd)
    have HU3 := Lib.hid (fun n => H3.out (wr.drewN n) (hd.drewN n))
    have HTT := Lib.hid (fun n => (HT.out.then0 hd.touch).drewN n)
    clear H1 H3 HRES
    cases e1 with
    | false =>
      go_wp2_with fail
      refine HU1.out.mono ?_
      rintro r w1 ⟨rfl, n1, rfl⟩
      go_wp2_with fail
      go_ret
      exact ⟨rfl, HTT.out _⟩
    | true =>
    cases e3 with
    | false =>
      go_wp2_with fail
      refine HU1.out.mono ?_
      rintro r w1 ⟨rfl, n1, rfl⟩
      go_wp2_with fail
      refine (HU3.out n1).mono ?_
      rintro r w1 ⟨rfl, n2, rfl⟩
      rw [World.drewN_drewN]
      go_wp2_with fail
      go_ret
      exact ⟨ret_b (by simp), HTT.out _⟩
    | true =>
    generalize hq : (cost == cost2) = q at *
    go_wp2_with fail
    refine HU1.out.mono ?_
    rintro r w1 ⟨rfl, n1, rfl⟩
    go_wp2_with fail
    refine (HU3.out n1).mono ?_
    rintro r w1 ⟨rfl, n2, rfl⟩
    rw [World.drewN_drewN]
    go_wp2_with fail
    go_ret
    exact ⟨ret_b (by rw [HG.out]; simp [hq]), HTT.out _⟩
/-- What a station is paid. -/
def payOf (s : Int) : List Tx → Option Int
  | [] => none
  | x :: xs => if x.a = s then some x.c else payOf s xs
def payM : Option Int → Int × Int
  | some c => (c, 0)
  | none => (0, 9)
def payRes (o : Ox) (s : Int) : Int × Int := if validP o = true then payM (payOf s o.W) else (0, 2)
theorem payRes_eq (o : Ox) (s : Int) : payRes o s = if validP o = true then payM (payOf s o.W) else (0, 2) := rfl
def PayPost (o : Ox) (s : Int) (w : World) (r : Ending) (w' : World) : Prop := r = .returned (.tuple #[.int .i64 (payRes o s).1, .int .i64 (payRes o s).2]) ∧ Touch [] w w'
theorem pay_step {l : List Tx} {s : Int} {k : Nat} (hk : k < l.length) : payOf s (l.drop k) = if l[k].a = s then some l[k].c else payOf s (l.drop (k + 1)) := by rw [List.drop_eq_getElem_cons hk]; rfl
theorem pay_ix (s : Int) : ∀ (l : List Tx) (k : Nat), (ixFrom s k l = -1 ∧ payOf s l = none) ∨ ∃ j x, ixFrom s k l = ((k + j : Nat) : Int) ∧ l[j]? = some x ∧ payOf s l = some x.c
  | [], k => .inl ⟨rfl, rfl⟩
  | x :: l, k => by
    simp only [ixFrom, payOf]
    by_cases h : x.a = s
    · rw [if_pos h, if_pos h]
      exact .inr ⟨0, x, rfl, rfl, rfl⟩
    · rw [if_neg h, if_neg h]
      rcases pay_ix s l (k + 1) with h1 | ⟨j, y, h1, h2, h3⟩
      · exact .inl h1
      · exact .inr ⟨j + 1, y, by rw [h1]; congr 1; omega, h2, h3⟩
def PRel (Wb : World) (W : List Tx) (s : Int) (res : Option Int) (ti : Value) (wr : World) : Prop := ∃ k : Nat, k ≤ W.length ∧ ti = .int .i64 k ∧ Touch [] Wb wr ∧ res = payOf s (W.drop k)
set_option maxRecDepth 100000 in
set_option maxHeartbeats 8000000 in
theorem payment_any (o : Ox) (s : Int) (w : World) (ho : o.Ok w) (hs : o.small) : Calls Tryd.prog 11 #[o.val, .int .i64 s] w (PayPost o s w) := by
  have hv0 := ho
  obtain ⟨hW, hX, hA, hf⟩ := ho
  obtain ⟨hs1, hs2, hs3⟩ := hs
  have hs0 : o.small := ⟨hs1, hs2, hs3⟩
  have ht0 : Touch [] w (w.alloc (.cells #[o.wv, o.xv, o.av, .int .i64 o.cost] 26)) := (Touch.refl _ _).alloc _
  have HV := Lib.hid (valid_any o _ (hv0.touch0 ht0) hs0)
  have HT0 := Lib.hid ht0
  have HPR := Lib.hid (payRes_eq o s)
  have HBK := Lib.hid (Blk.new w 26 #[o.wv, o.xv, o.av, .int .i64 o.cost])
  unfold PayPost
  generalize payRes o s = pr at *
  obtain ⟨pc, pe⟩ := pr
  simp only at HPR ⊢
  generalize hvq : validP o = vq at *
  clear hvq hv0 ht0 hs0
  obtain ⟨wv, xv, av, W, X, A, cost⟩ := o
  simp only [Ox.val] at *
  obtain ⟨Aw, cw, rfl⟩ := hW.form
  obtain ⟨Ax, cx, rfl⟩ := hX.form
  obtain ⟨Aa, ca, rfl⟩ := hA.form
  obtain ⟨hcw1, hcw2⟩ := hW.cap
  cases vq with
  | false =>
    simp only [Bool.false_eq_true, if_false] at HPR
    have HPR1 : Hid (pc = 0) := Lib.hid (by have := HPR.out; simp only [Prod.mk.injEq] at this; exact this.1)
    have HPR2 : Hid (pe = 2) := Lib.hid (by have := HPR.out; simp only [Prod.mk.injEq] at this; exact this.2)
    clear HPR
    go_enter Tryd.func11, Tryd.ntmps11
    go_wp2_with fail
    refine HV.out.mono ?_
    rintro r w1 ⟨rfl, ht1⟩
    go_wp2_with fail
    go_ret2
    exact ⟨by rw [HPR1.out, HPR2.out]; rfl, HT0.out.then0 ht1⟩
  | true =>
  simp only [if_true] at HPR
  have HPO : Hid (payOf s W = payOf s (W.drop 0)) := Lib.hid rfl
  generalize payOf s W = res at *
  go_enter Tryd.func11, Tryd.ntmps11
  go_wp2_with fail
  refine HV.out.mono ?_
  rintro r w1 ⟨rfl, ht1⟩
  have hbk := HBK.out.touch ht1 (by simp)
  have k0 := hbk.cell 0
  simp at k0
  have htt := HT0.out.then0 ht1
  clear HV HT0 HBK
  go_wp2_with fail
  go_loopw [14] (fun ti wr => PRel w1 W s res ti wr) (fun ti _ => W.length - (intOf ti).toNat)
  case atStart => exact ⟨0, by omega, rfl, Touch.refl _ _, HPO.out⟩
  case round =>
    clear HPO
    obtain ⟨k, hk, rfl, htb, hres⟩ := hrel
    have HRES := Lib.hid hres
    clear hres
    by_cases hlt : k < W.length
    case neg =>
      have hlt' : ¬ (k : Int) < (W.length : Int) := by omega
      have HR : Hid (res = none) := Lib.hid (by rw [HRES.out, List.drop_eq_nil_of_le (by omega)]; rfl)
      have HP2 : Hid (pc = 0 ∧ pe = 9) := Lib.hid (by have := HPR.out; rw [HR.out] at this; simpa [payM] using this)
      go_wp2_with fail
      go_ret2
      exact ⟨by rw [HP2.out.1, HP2.out.2]; rfl, htt.then0 htb⟩
    have hlt' : (k : Int) < (W.length : Int) := by omega
    have hWr := hW.touch0 (htt.then0 htb)
    obtain ⟨b, off, rfl, hb⟩ := hWr.addr hlt
    obtain ⟨c0, c1, c2⟩ := Trips.at_ hWr hlt
    have HS := Lib.hid (pay_step hlt (s := s))
    generalize hxk : W[k] = x at *
    obtain ⟨xa, xb, xc⟩ := x
    simp only at c0 c1 c2 HS
    clear hxk hWr hW
    by_cases hq : xa = s
    · have HR : Hid (res = some xc) := Lib.hid (by rw [HRES.out, HS.out, if_pos hq])
      have HP2 : Hid (pc = xc ∧ pe = 0) := Lib.hid (by have := HPR.out; rw [HR.out] at this; simpa [payM] using this)
      have q1 : (xa == s) = true := by simpa using hq
      clear hq
      go_wp2_with fail
      go_ret2
      exact ⟨by rw [HP2.out.1, HP2.out.2]; rfl, (htt.then0 htb).alloc _⟩
    · have HR : Hid (res = payOf s (W.drop (k + 1))) := Lib.hid (by rw [HRES.out, HS.out, if_neg hq])
      have q1 : (xa == s) = false := by simpa using hq
      clear hq
      go_wp2_with fail
      go_roundw
      case rel => exact ⟨k + 1, hlt, by go_num, htb.alloc _, HR.out⟩
      case measure => simp [intOf]; omega
set_option maxRecDepth 100000 in
set_option maxHeartbeats 8000000 in
theorem refPayment_any (o : Ox) (s : Int) (w : World) (ho : o.Ok w) (hs : o.small) : Calls Tryd.prog 12 #[o.val, .int .i64 s] w (PayPost o s w) := by
  have hv0 := ho
  obtain ⟨hW, hX, hA, hf⟩ := ho
  obtain ⟨hs1, hs2, hs3⟩ := hs
  have hs0 : o.small := ⟨hs1, hs2, hs3⟩
  have ht0 : Touch [] w (w.alloc (.cells #[o.wv, o.xv, o.av, .int .i64 o.cost] 26)) := (Touch.refl _ _).alloc _
  have HV := Lib.hid (refValid_any o _ (hv0.touch0 ht0) hs0)
  have HT0 := Lib.hid ht0
  have HPR := Lib.hid (payRes_eq o s)
  have HBK := Lib.hid (Blk.new w 26 #[o.wv, o.xv, o.av, .int .i64 o.cost])
  unfold PayPost
  generalize payRes o s = pr at *
  obtain ⟨pc, pe⟩ := pr
  simp only at HPR ⊢
  generalize hvq : validP o = vq at *
  clear hvq hv0 ht0 hs0
  obtain ⟨wv, xv, av, W, X, A, cost⟩ := o
  simp only [Ox.val] at *
  obtain ⟨Aw, cw, rfl⟩ := hW.form
  obtain ⟨Ax, cx, rfl⟩ := hX.form
  obtain ⟨Aa, ca, rfl⟩ := hA.form
  obtain ⟨hcw1, hcw2⟩ := hW.cap
  cases vq with
  | false =>
    simp only [Bool.false_eq_true, if_false] at HPR
    have HPR1 : Hid (pc = 0) := Lib.hid (by have := HPR.out; simp only [Prod.mk.injEq] at this; exact this.1)
    have HPR2 : Hid (pe = 2) := Lib.hid (by have := HPR.out; simp only [Prod.mk.injEq] at this; exact this.2)
    clear HPR
    go_enter Tryd.func12, Tryd.ntmps12
    go_wp2_with fail
    refine HV.out.mono ?_
    rintro r w1 ⟨rfl, ht1⟩
    go_wp2_with fail
    go_ret2
    exact ⟨by rw [HPR1.out, HPR2.out]; rfl, HT0.out.then0 ht1⟩
  | true =>
  simp only [if_true] at HPR
  have HIX := Lib.hid (pay_ix s W 0)
  have HWI := Lib.hid (fun W' h => refWinner_any _ W s W' (hW.touch0 (w' := W') h) (by omega))
  generalize ixFrom s 0 W = ix at *
  go_enter Tryd.func12, Tryd.ntmps12
  go_wp2_with fail
  refine HV.out.mono ?_
  rintro r w1 ⟨rfl, ht1⟩
  have hbk := HBK.out.touch ht1 (by simp)
  have k0 := hbk.cell 0
  simp at k0
  have htt := HT0.out.then0 ht1
  clear HV HT0 HBK
  go_wp2_with fail
  refine (HWI.out w1 htt).mono ?_
  rintro r w1' ⟨rfl, rfl⟩
  rcases HIX.out with ⟨h1, h2⟩ | ⟨j, x, h1, h2, h3⟩
  · have HP2 : Hid (pc = 0 ∧ pe = 9) := Lib.hid (by have := HPR.out; rw [h2] at this; simpa [payM] using this)
    subst h1
    clear h2 HIX HPR HWI
    go_wp2_with fail
    go_ret2
    exact ⟨by rw [HP2.out.1, HP2.out.2]; rfl, htt⟩
  · have HP2 : Hid (pc = x.c ∧ pe = 0) := Lib.hid (by have := HPR.out; rw [h3] at this; simpa [payM] using this)
    rw [Nat.zero_add] at h1
    subst h1
    have hlt : j < W.length := (List.getElem?_eq_some_iff.1 h2).1
    have hx : W[j] = x := (List.getElem?_eq_some_iff.1 h2).2
    have hlt' : (j : Int) < (W.length : Int) := by omega
    have hWr := hW.touch0 htt
    obtain ⟨b, off, rfl, hb⟩ := hWr.addr hlt
    obtain ⟨c0, c1, c2⟩ := Trips.at_ hWr hlt
    rw [hx] at c0 c1 c2
    obtain ⟨xa, xb, xc⟩ := x
    simp only at c0 c1 c2
    clear h2 h3 hx hWr hW HIX HPR HWI
    go_wp2_with fail
    go_ret2
    exact ⟨by rw [HP2.out.1, HP2.out.2]; rfl, htt⟩
end Go.Proofs.YtpbknnkobhjjcaaDoor
