/- Which outcomes are valid, by the reference. -/
import Derived.Test.YtpbknnkobhjjcaaDoorOc7
namespace Go.Proofs.YtpbknnkobhjjcaaDoor
open Go.RowKit
set_option linter.unusedSimpArgs false

def goodW2 (X : List Int) (A : List Cx) (x : Tx) : Bool := decide (onB x.a A = x.b) && !decide (x.a ∈ X)
def goodX2 (A : List Cx) (n : Int) : Bool := decide (onB n A ≠ 0)
theorem won_iff (W : List Tx) (n : Int) : isWon W n = true ↔ ∃ x ∈ W, x.a = n := by unfold isWon; simp
theorem good_same (W : List Tx) (X : List Int) (A : List Cx) : (W.all (goodW2 X A) && X.all (goodX2 A)) = (W.all (goodW A) && X.all (goodX W A)) := by
  rw [Bool.eq_iff_iff]
  simp only [Bool.and_eq_true, List.all_eq_true, goodW2, goodX2, goodW, goodX, decide_eq_true_eq, Bool.not_eq_true', decide_eq_false_iff_not]
  constructor
  · rintro ⟨h1, h2⟩
    refine ⟨fun x hx => (h1 x hx).1, fun n hn => ⟨h2 n hn, ?_⟩⟩
    cases hw : isWon W n with
    | false => rfl
    | true =>
      obtain ⟨x, hx, rfl⟩ := (won_iff W n).1 hw
      exact absurd hn (h1 x hx).2
  · rintro ⟨h1, h2⟩
    refine ⟨fun x hx => ⟨h1 x hx, fun hm => ?_⟩, fun n hn => (h2 n hn).1⟩
    have := (h2 _ hm).2
    rw [(won_iff W x.a).2 ⟨x, hx, rfl⟩] at this
    cases this
theorem valid_same (o : Ox) : validP o = (wOk o.W && sOk o.X && cOk o.A && decide (o.cost = sumC o.W) && (o.W.all (goodW2 o.X o.A) && o.X.all (goodX2 o.A))) := by
  rw [good_same]
  unfold validP
  cases wOk o.W <;> cases sOk o.X <;> cases cOk o.A <;> cases decide (o.cost = sumC o.W) <;> simp
theorem quiet_left {P : Program} {f : FuncId} {args : Array Value} {w : World} {n : Nat} {v : Value}
    (h : Calls P f args (w.drewN n) fun e w' => e = .returned v ∧ w.drewN n = w') : Calls P f args (w.drewN n) fun e w'' => e = .returned v ∧ ∃ m, w'' = w.drewN m :=
  h.mono fun _ _ ⟨he, hm⟩ => ⟨he, n, hm.symm⟩
def RW (o : Ox) (res : Bool) (Wb : World) (ti : Value) (wr : World) : Prop :=
  ∃ k : Nat, k ≤ o.W.length ∧ ti = .int .i64 k ∧ Touch [] Wb wr ∧ res = ((o.W.drop k).all (goodW2 o.X o.A) && o.X.all (goodX2 o.A))
def RX (o : Ox) (res : Bool) (Wb : World) (ti : Value) (wr : World) : Prop :=
  ∃ k : Nat, k ≤ o.X.length ∧ ti = .int .i64 k ∧ Touch [] Wb wr ∧ res = (o.X.drop k).all (goodX2 o.A)
set_option maxRecDepth 100000 in
set_option maxHeartbeats 8000000 in
theorem refValid_any (o : Ox) (w : World) (ho : o.Ok w) (hs : o.small) : Calls Tryd.prog 18 #[o.val] w fun r w' => r = .returned (.bool (validP o)) ∧ Touch [] w w' := by
  rw [valid_same]
  obtain ⟨hW, hX, hA, hf⟩ := ho
  obtain ⟨hs1, hs2, hs3⟩ := hs
  obtain ⟨wv, xv, av, W, X, A, cost⟩ := o
  simp only [Ox.val] at *
  obtain ⟨Aw, cw, rfl⟩ := hW.form
  obtain ⟨Ax, cx, rfl⟩ := hX.form
  obtain ⟨Aa, ca, rfl⟩ := hA.form
  obtain ⟨hcw1, hcw2⟩ := hW.cap
  obtain ⟨hcx1, hcx2⟩ := hX.cap
  have ht0 : ∀ n, Touch [] w ((w.alloc (.cells #[.slice Aw W.length cw, .slice Ax X.length cx, .slice Aa A.length ca, .int .i64 cost] 26)).drewN n) := fun n => ((Touch.refl _ _).alloc _).drewN n
  have HQ1 := Lib.hid (fun n => refWinners_any _ W ((w.alloc (.cells #[.slice Aw W.length cw, .slice Ax X.length cx, .slice Aa A.length ca, .int .i64 cost] 26)).drewN n) (hW.touch0 (ht0 n)) (by omega))
  have HQ2 := Lib.hid (fun n => refStations_any _ X ((w.alloc (.cells #[.slice Aw W.length cw, .slice Ax X.length cx, .slice Aa A.length ca, .int .i64 cost] 26)).drewN n) (hX.touch0 (ht0 n)) (by omega))
  have HQ3 := Lib.hid (fun n => refChoices_any _ A ((w.alloc (.cells #[.slice Aw W.length cw, .slice Ax X.length cx, .slice Aa A.length ca, .int .i64 cost] 26)).drewN n) (hA.touch0 (ht0 n)) (by omega))
  have HQ4 := Lib.hid (fun (hp : Pays W) n => refSum_any _ W ((w.alloc (.cells #[.slice Aw W.length cw, .slice Ax X.length cx, .slice Aa A.length ca, .int .i64 cost] 26)).drewN n) (hW.touch0 (ht0 n)) (by omega) hp)
  generalize hres : (wOk W && sOk X && cOk A && decide (cost = sumC W) && (W.all (goodW2 X A) && X.all (goodX2 A))) = res
  have HRES := Lib.hid hres.symm
  clear hres
  have HT0 := Lib.hid ht0
  clear ht0
  cases hw : wOk W with
  | false =>
    rw [hw] at HQ1
    have HG : Hid (res = false) := Lib.hid (by rw [HRES.out, hw]; rfl)
    have e1 : (wOk W) = false := hw
    clear hw e1
    go_enter Tryd.func18, Tryd.ntmps18
    go_wp2_with fail
    go_quiet ((first | (go_at_call 22; exact Calls.quiet_of (HQ1.out _)) | (go_at_call 34; exact Calls.quiet_of (HQ2.out _)) | (go_at_call 35; exact Calls.quiet_of (HQ3.out _)) | (go_at_call 23; exact quiet_left (HQ4.out _))))
    go_wp2_with fail
    go_ret
    exact ⟨ret_b HG.out.symm, ((Touch.refl _ _).alloc _).drewN _⟩
  | true =>
  rw [hw] at HQ1
  have HQ4 := Lib.hid (HQ4.out (ok_pays hw))
  cases hx : sOk X with
  | false =>
    rw [hx] at HQ2
    have HG : Hid (res = false) := Lib.hid (by rw [HRES.out, hx]; simp)
    clear hw hx
    go_enter Tryd.func18, Tryd.ntmps18
    go_wp2_with fail
    go_quiet ((first | (go_at_call 22; exact Calls.quiet_of (HQ1.out _)) | (go_at_call 34; exact Calls.quiet_of (HQ2.out _)) | (go_at_call 35; exact Calls.quiet_of (HQ3.out _)) | (go_at_call 23; exact quiet_left (HQ4.out _))))
    go_wp2_with fail
    go_ret
    exact ⟨ret_b HG.out.symm, ((Touch.refl _ _).alloc _).drewN _⟩
  | true =>
  rw [hx] at HQ2
  cases hc : cOk A with
  | false =>
    rw [hc] at HQ3
    have HG : Hid (res = false) := Lib.hid (by rw [HRES.out, hc]; simp)
    clear hw hx hc
    go_enter Tryd.func18, Tryd.ntmps18
    go_wp2_with fail
    go_quiet ((first | (go_at_call 22; exact Calls.quiet_of (HQ1.out _)) | (go_at_call 34; exact Calls.quiet_of (HQ2.out _)) | (go_at_call 35; exact Calls.quiet_of (HQ3.out _)) | (go_at_call 23; exact quiet_left (HQ4.out _))))
    go_wp2_with fail
    go_ret
    exact ⟨ret_b HG.out.symm, ((Touch.refl _ _).alloc _).drewN _⟩
  | true =>
  rw [hc] at HQ3
  by_cases hcost : cost = sumC W
  case neg =>
    have HG : Hid (res = false) := Lib.hid (by rw [HRES.out, decide_eq_false hcost]; simp)
    have hc1 : (cost != sumC W) = true := by simpa using hcost
    generalize sumC W = tot at *
    clear hw hx hc hcost HRES
    go_enter Tryd.func18, Tryd.ntmps18
    go_wp2_with fail
    go_quiet ((first | (go_at_call 22; exact Calls.quiet_of (HQ1.out _)) | (go_at_call 34; exact Calls.quiet_of (HQ2.out _)) | (go_at_call 35; exact Calls.quiet_of (HQ3.out _)) | (go_at_call 23; exact quiet_left (HQ4.out _))))
    go_wp2_with fail
    go_ret
    exact ⟨ret_b HG.out.symm, ((Touch.refl _ _).alloc _).drewN _⟩
  have HR2 : Hid (res = (W.all (goodW2 X A) && X.all (goodX2 A))) := Lib.hid (by rw [HRES.out, hw, hx, hc, decide_eq_true hcost]; rfl)
  have hc1 : (cost != sumC W) = false := by simpa using hcost
  generalize sumC W = tot at *
  have HBK := Lib.hid (fun n => (Blk.new w 26 #[.slice Aw W.length cw, .slice Ax X.length cx, .slice Aa A.length ca, .int .i64 cost]).drewN n)
  clear hw hx hc hcost HRES
  go_enter Tryd.func18, Tryd.ntmps18
  go_wp2_with fail
  go_quiet ((first | (go_at_call 22; exact Calls.quiet_of (HQ1.out _)) | (go_at_call 34; exact Calls.quiet_of (HQ2.out _)) | (go_at_call 35; exact Calls.quiet_of (HQ3.out _)) | (go_at_call 23; exact quiet_left (HQ4.out _))))
  go_wp2_with fail
  have httb := HT0.out nq
  have hbkb := HBK.out nq
  clear HT0 HBK HQ1 HQ2 HQ3 HQ4
  generalize (w.alloc (.cells #[.slice Aw W.length cw, .slice Ax X.length cx, .slice Aa A.length ca, .int .i64 cost] 26)).drewN nq = Wb at httb hbkb ⊢
  have HWB := Lib.hid (hW.touch0 httb)
  have HXB := Lib.hid (hX.touch0 httb)
  have HAB := Lib.hid (hA.touch0 httb)
  have HBKB := Lib.hid hbkb
  have HTB := Lib.hid httb
  clear hbkb httb hW hX hA
  go_loopw [3] (fun ti wr => RW ⟨.slice Aw W.length cw, .slice Ax X.length cx, .slice Aa A.length ca, W, X, A, cost⟩ res Wb ti wr) (fun ti _ => W.length - (intOf ti).toNat)
  case atStart => exact ⟨0, by simp, rfl, Touch.refl _ _, HR2.out⟩
  case round =>
    obtain ⟨k, hk, rfl, htb, hres⟩ := hrel
    simp only at hk hres
    have HRES := Lib.hid hres
    clear hres HR2
    have hko := HBKB.out.touch htb (by simp)
    have k0 := hko.cell 0
    have k1 := hko.cell 1
    have k2 := hko.cell 2
    simp at k0 k1 k2
    by_cases hlt : k < W.length
    · have hlt' : (k : Int) < (W.length : Int) := by omega
      have hWr := HWB.out.touch0 htb
      obtain ⟨b, off, rfl, hb⟩ := hWr.addr hlt
      obtain ⟨c0, c1, c2⟩ := Trips.at_ hWr hlt
      have HALL : Hid ((W.drop k).all (goodW2 X A) = ((decide (onB W[k].a A = W[k].b) && !decide (W[k].a ∈ X)) && (W.drop (k + 1)).all (goodW2 X A))) := Lib.hid (all_step hlt)
      generalize hxk : W[k] = x at *
      obtain ⟨xa, xb, xc⟩ := x
      simp only at c0 c1 c2 HALL
      have HON := Lib.hid (fun n => refOn_any _ A xa (wr.drewN n) ((HAB.out.touch0 htb).touch0 ((Touch.refl _ _).drewN n)) (by omega))
      have HHA := Lib.hid (fun n => refHas_any _ X xa (wr.drewN n) ((HXB.out.touch0 htb).touch0 ((Touch.refl _ _).drewN n)) (by omega))
      clear hxk hWr
      generalize hqq : onB xa A = q at *
      generalize hvv : decide (xa ∈ X) = hs at *
      clear hqq hvv
      have HTT : Hid (∀ n, Touch [] w (wr.drewN n)) := Lib.hid (fun n => (HTB.out.then0 htb).drewN n)
      by_cases hq : q = xb
      case neg =>
        have HG : Hid (res = false) := Lib.hid (by rw [HRES.out, HALL.out, decide_eq_false hq]; simp)
        have hq1 : (q != xb) = true := by simpa using hq
        have hq2 : (q == xb) = false := by simpa using hq
        clear hq
        go_wp2_with fail
        go_quiet ((first | (go_at_call 31; exact quiet_left (HON.out _)) | (go_at_call 30; exact quiet_left (HHA.out _))))
        go_wp2_with fail
        go_ret
        exact ⟨ret_b HG.out.symm, HTT.out _⟩
      have hq1 : (q != xb) = false := by simp [hq]
      have hq2 : (q == xb) = true := by simp [hq]
      cases hs with
      | true =>
        have HG : Hid (res = false) := Lib.hid (by rw [HRES.out, HALL.out]; simp)
        clear hq
        go_wp2_with fail
        go_quiet ((first | (go_at_call 31; exact quiet_left (HON.out _)) | (go_at_call 30; exact quiet_left (HHA.out _))))
        go_wp2_with fail
        go_ret
        exact ⟨ret_b HG.out.symm, HTT.out _⟩
      | false =>
        have HG : Hid (res = ((W.drop (k + 1)).all (goodW2 X A) && X.all (goodX2 A))) := Lib.hid (by rw [HRES.out, HALL.out, decide_eq_true hq]; simp)
        clear hq
        go_wp2_with fail
        go_quiet ((first | (go_at_call 31; exact quiet_left (HON.out _)) | (go_at_call 30; exact quiet_left (HHA.out _))))
        go_wp2_with fail
        go_roundw
        case rel => exact ⟨k + 1, hlt, by go_num, htb.drewN _, HG.out⟩
        case measure => simp [intOf]; omega
    have hlt' : ¬ (k : Int) < (W.length : Int) := by omega
    have HR3 : Hid (res = (X.drop 0).all (goodX2 A)) := Lib.hid (by rw [HRES.out, List.drop_eq_nil_of_le (by omega)]; rfl)
    obtain ⟨wo, rfl⟩ : ∃ wo : World, wo = wr := ⟨_, rfl⟩
    clear HRES hlt hko
    go_wp2_with fail
    go_loopw [4] (fun ti wr => RX ⟨.slice Aw W.length cw, .slice Ax X.length cx, .slice Aa A.length ca, W, X, A, cost⟩ res wo ti wr) (fun ti _ => X.length - (intOf ti).toNat)
    case atStart => exact ⟨0, by simp, rfl, Touch.refl _ _, HR3.out⟩
    case round =>
      obtain ⟨j, hj, rfl, htb2, hres⟩ := hrel
      simp only at hj hres
      have HRES := Lib.hid hres
      clear hres HR3 k0 k1 k2
      have htb3 := htb.then0 htb2
      have hko := HBKB.out.touch htb3 (by simp)
      have k1 := hko.cell 1
      have k2 := hko.cell 2
      simp at k1 k2
      by_cases hlj : j < X.length
      case neg =>
        have hlj' : ¬ (j : Int) < (X.length : Int) := by omega
        go_wp2_with fail
        go_ret
        exact ⟨ret_b (by rw [HRES.out, List.drop_eq_nil_of_le (by omega)]; rfl), HTB.out.then0 htb3⟩
      have hlj' : (j : Int) < (X.length : Int) := by omega
      have hXr := HXB.out.touch0 htb3
      obtain ⟨b, off, rfl, hb⟩ := hXr.addr hlj
      have c0 := Nums.at_ hXr hlj
      have HALL : Hid ((X.drop j).all (goodX2 A) = (decide (onB X[j] A ≠ 0) && (X.drop (j + 1)).all (goodX2 A))) := Lib.hid (all_step hlj)
      generalize hxk : X[j] = xa at *
      have HON := Lib.hid (fun n => refOn_any _ A xa (wr.drewN n) ((HAB.out.touch0 htb3).touch0 ((Touch.refl _ _).drewN n)) (by omega))
      clear hxk hXr
      generalize hqq : onB xa A = q at *
      clear hqq
      by_cases hq : q = 0
      · have HG : Hid (res = false) := Lib.hid (by rw [HRES.out, HALL.out]; simp [hq])
        have hq1 : (q == 0) = true := by simpa using hq
        clear hq
        go_wp2_with fail
        go_quiet ((first | (go_at_call 31; exact quiet_left (HON.out _))))
        go_wp2_with fail
        go_ret
        exact ⟨ret_b HG.out.symm, (HTB.out.then0 htb3).drewN _⟩
      · have HG : Hid (res = (X.drop (j + 1)).all (goodX2 A)) := Lib.hid (by rw [HRES.out, HALL.out]; simp [hq])
        have hq1 : (q == 0) = false := by simpa using hq
        clear hq
        go_wp2_with fail
        go_quiet ((first | (go_at_call 31; exact quiet_left (HON.out _))))
        go_wp2_with fail
        go_roundw
        case rel => exact ⟨j + 1, hlj, by go_num, htb2.drewN _, HG.out⟩
        case measure => simp [intOf]; omega
end Go.Proofs.YtpbknnkobhjjcaaDoor
