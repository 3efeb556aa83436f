/- The cost of winners; which outcomes are valid, by the program. -/
import Derived.Test.YtpbknnkobhjjcaaDoorOc6
namespace Go.Proofs.YtpbknnkobhjjcaaDoor
open Go.RowKit
set_option linter.unusedSimpArgs false

def CostPost (l : List Tx) (w : World) (r : Ending) (w' : World) : Prop :=
  r = .returned (if wOk l = true then .tuple #[.int .i64 (sumC l), .int .i64 0] else .tuple #[.int .i64 0, .int .i64 2]) ∧ Touch [] w w'
def SumRelW (w : World) (l : List Tx) (tot : Int) (tn ti : Value) (wr : World) : Prop := SumRel l tot tn ti ∧ Touch [] w wr
set_option maxRecDepth 100000 in
set_option maxHeartbeats 4000000 in
theorem cost_any (v : Value) (l : List Tx) (w : World) (hv : Trips w v l) (hl : l.length ≤ 1000) : Calls Tryd.prog 9 #[v] w (CostPost l w) := by
  obtain ⟨A, cap, rfl⟩ := hv.form
  obtain ⟨hc1, hc2⟩ := hv.cap
  have HV := Lib.hid (validWinners_any _ l w hv (by omega))
  unfold CostPost
  cases hok : wOk l with
  | false =>
    rw [hok] at HV
    simp only [Bool.false_eq_true, if_false]
    clear hok
    go_enter Tryd.func9, Tryd.ntmps9
    go_wp2_with fail
    refine HV.out.mono ?_
    rintro r w1 ⟨rfl, ht⟩
    go_wp2_with fail
    go_ret2
    exact ⟨rfl, ht⟩
  | true =>
    rw [hok] at HV
    have hp := ok_pays hok
    simp only [if_true]
    have hst : SumRel l (sumC l) (.int .i64 0) (.int .i64 0) := ⟨0, 0, by omega, rfl, rfl, by omega, by omega, by simp⟩
    generalize sumC l = tot at *
    clear hok
    have HP := Lib.hid hp
    clear hp
    go_enter Tryd.func9, Tryd.ntmps9
    go_wp2_with fail
    refine HV.out.mono ?_
    rintro r w1 ⟨rfl, ht1⟩
    go_wp2_with fail
    go_loopw [4, 12] (fun tn ti wr => SumRelW w l tot tn ti wr) (fun _ ti _ => l.length - (intOf ti).toNat)
    case atStart => exact ⟨hst, ht1⟩
    case round =>
      clear hst ht1
      obtain ⟨⟨k, n, hk, rfl, rfl, hn0, hn1, htot⟩, ht⟩ := hrel
      have HT := Lib.hid htot
      clear htot
      by_cases hlt : k < l.length
      · have hlt' : (k : Int) < (l.length : Int) := by omega
        obtain ⟨b, off, rfl, hb⟩ := hv.addr hlt
        obtain ⟨c0, c1, c2⟩ := Trips.at_ (hv.touch0 ht) hlt
        have hb' : b < wr.heap.size := by have := ht.size; omega
        obtain ⟨p1, p2⟩ := HP.out l[k] (List.getElem_mem hlt)
        have HS := Lib.hid (sum_step hlt)
        generalize hxk : l[k] = x at *
        obtain ⟨xa, xb, xc⟩ := x
        simp only at c0 c1 c2 p1 p2 HS
        clear hxk hv
        go_wp2_with fail
        go_roundw
        case rel => exact ⟨⟨k + 1, n + xc, by omega, by go_num, rfl, by omega, by omega, by rw [HT.out, HS.out]; omega⟩, ht.alloc _⟩
        case measure => simp [intOf]; omega
      · have hlt' : ¬ (k : Int) < (l.length : Int) := by omega
        go_wp2_with fail
        go_ret2
        exact ⟨ret_2 (by rw [HT.out, List.drop_eq_nil_of_le (by omega)]; simp [sumC]), ht⟩
set_option maxRecDepth 100000 in
set_option maxHeartbeats 4000000 in
theorem refCost_any (v : Value) (l : List Tx) (w : World) (hv : Trips w v l) (hl : l.length ≤ 1000) : Calls Tryd.prog 10 #[v] w (CostPost l w) := by
  obtain ⟨A, cap, rfl⟩ := hv.form
  have HV := Lib.hid (refWinners_any _ l w hv (by omega))
  unfold CostPost
  cases hok : wOk l with
  | false =>
    rw [hok] at HV
    simp only [Bool.false_eq_true, if_false]
    clear hok
    go_enter Tryd.func10, Tryd.ntmps10
    go_wp2_with fail
    refine HV.out.mono ?_
    rintro r w1 ⟨rfl, m1, rfl⟩
    go_wp2_with fail
    go_ret2
    exact ⟨rfl, (Touch.refl _ _).drewN _⟩
  | true =>
    rw [hok] at HV
    have hp := ok_pays hok
    have HU := Lib.hid (fun m => refSum_any _ l (w.drewN m) (hv.touch0 ((Touch.refl _ _).drewN m)) hl hp)
    simp only [if_true]
    generalize sumC l = tot at *
    clear hok hp hv
    go_enter Tryd.func10, Tryd.ntmps10
    go_wp2_with fail
    refine HV.out.mono ?_
    rintro r w1 ⟨rfl, m1, rfl⟩
    go_wp2_with fail
    refine (HU.out m1).mono ?_
    rintro r w1 ⟨rfl, rfl⟩
    go_wp2_with fail
    go_ret2
    exact ⟨rfl, (Touch.refl _ _).drewN _⟩

/-- An outcome by value. -/
structure Ox where
  wv : Value
  xv : Value
  av : Value
  W : List Tx
  X : List Int
  A : List Cx
  cost : Int
def Ox.val (o : Ox) : Value := .agg #[o.wv, o.xv, o.av, .int .i64 o.cost]
def Ox.Ok (o : Ox) (w : World) : Prop := Trips w o.wv o.W ∧ Nums w o.xv o.X ∧ Pairs w o.av o.A ∧ Fits o.cost
def Ox.small (o : Ox) : Prop := o.W.length ≤ 20 ∧ o.X.length ≤ 20 ∧ o.A.length ≤ 40
theorem Ox.Ok.touch0 {o : Ox} {w w' : World} (h : o.Ok w) (ht : Touch [] w w') : o.Ok w' := ⟨h.1.touch0 ht, h.2.1.touch0 ht, h.2.2.1.touch0 ht, h.2.2.2⟩
def goodW (A : List Cx) (x : Tx) : Bool := decide (onB x.a A = x.b)
def isWon (W : List Tx) (n : Int) : Bool := W.any fun x => decide (x.a = n)
def goodX (W : List Tx) (A : List Cx) (n : Int) : Bool := decide (onB n A ≠ 0) && !isWon W n
def validP (o : Ox) : Bool := wOk o.W && decide (o.cost = sumC o.W) && sOk o.X && cOk o.A && o.W.all (goodW o.A) && o.X.all (goodX o.W o.A)
def wonF (l : List Tx) : Int → Option Value := fun n => if isWon l n = true then some (.bool true) else none
theorem won_snoc (l : List Tx) (x : Tx) : (fun m => if m = x.a then some (Value.bool true) else wonF l m) = wonF (l ++ [x]) := by
  funext m
  unfold wonF isWon
  rw [List.any_append]
  by_cases h : m = x.a
  · subst h; simp
  · have : ¬ x.a = m := fun e => h e.symm
    simp [h, this]
theorem bandF_get (A : List Cx) (n : Int) : (bandF A n).getD (.int .i64 0) = .int .i64 (onB n A) := by
  unfold bandF
  split
  · rename_i h; rw [h]; rfl
  · rfl
theorem bandF_is (A : List Cx) (n : Int) : (bandF A n).isSome = (onB n A != 0) := by
  unfold bandF
  split
  · rename_i h; simp [h]
  · rename_i h; simp [h]
theorem wonF_get (l : List Tx) (n : Int) : (wonF l n).getD (.bool false) = .bool (isWon l n) := by
  unfold wonF
  cases isWon l n <;> rfl
def VW (o : Ox) (res : Bool) (bw : Nat) (Wb : World) (ti : Value) (wr : World) : Prop :=
  ∃ k : Nat, k ≤ o.W.length ∧ ti = .int .i64 k ∧ IMap wr bw (wonF (o.W.take k)) ∧ Touch [bw] Wb wr ∧ res = ((o.W.drop k).all (goodW o.A) && o.X.all (goodX o.W o.A))
def VX (o : Ox) (res : Bool) (ti : Value) : Prop :=
  ∃ k : Nat, k ≤ o.X.length ∧ ti = .int .i64 k ∧ res = (o.X.drop k).all (goodX o.W o.A)
theorem zero_int (w : World) : (zeroValue 3).run Tryd.prog w = .ok (.int .i64 0) w := by kernel_rfl
theorem zero_bool (w : World) : (zeroValue 4).run Tryd.prog w = .ok (.bool false) w := by kernel_rfl
theorem look_band {w : World} {b : Nat} {A : List Cx} (h : IMap w b (bandF A)) (n : Int) (c : Bool) : (Instr.lookup 60 (.map (some b)) (.int .i64 n) c).run Tryd.prog w = .ok (if c then .tuple #[.int .i64 (onB n A), .bool (onB n A != 0)] else .int .i64 (onB n A)) w := by
  have := h.lookup (P := Tryd.prog) (t := 60) (k := 3) (e := 3) (by kernel_rfl) (by kernel_rfl) (zero_int w) n c
  rw [bandF_get, bandF_is] at this
  exact this
theorem look_won {w : World} {b : Nat} {l : List Tx} (h : IMap w b (wonF l)) (n : Int) : (Instr.lookup 66 (.map (some b)) (.int .i64 n) false).run Tryd.prog w = .ok (.bool (isWon l n)) w := by
  have := h.lookup (P := Tryd.prog) (t := 66) (k := 3) (e := 4) (by kernel_rfl) (by kernel_rfl) (zero_bool w) n false
  rw [wonF_get] at this
  exact this
theorem all_step {α : Type} {l : List α} {f : α → Bool} {k : Nat} (hk : k < l.length) : (l.drop k).all f = (f l[k] && (l.drop (k + 1)).all f) := by rw [List.drop_eq_getElem_cons hk]; rfl
set_option maxRecDepth 100000 in
set_option maxHeartbeats 4000000 in
theorem valid_any (o : Ox) (w : World) (ho : o.Ok w) (hs : o.small) : Calls Tryd.prog 17 #[o.val] w fun r w' => r = .returned (.bool (validP o)) ∧ Touch [] w w' := by
  obtain ⟨hW, hX, hA, hf⟩ := ho
  obtain ⟨hs1, hs2, hs3⟩ := hs
  obtain ⟨wv, xv, av, W, X, A, cost⟩ := o
  simp only [Ox.val] at *
  obtain ⟨Aw, cw, rfl⟩ := hW.form
  obtain ⟨Ax, cx, rfl⟩ := hX.form
  obtain ⟨Aa, ca, rfl⟩ := hA.form
  obtain ⟨hcw1, hcw2⟩ := hW.cap
  obtain ⟨hcx1, hcx2⟩ := hX.cap
  obtain ⟨W0, hW0⟩ : ∃ W0, W0 = w.alloc (.cells #[.slice Aw W.length cw, .slice Ax X.length cx, .slice Aa A.length ca, .int .i64 cost] 26) := ⟨_, rfl⟩
  have ht0 : Touch [] w W0 := by rw [hW0]; exact (Touch.refl _ _).alloc _
  have HBK : Hid (Blk W0 w.heap.size 26 #[.slice Aw W.length cw, .slice Ax X.length cx, .slice Aa A.length ca, .int .i64 cost]) := Lib.hid (by rw [hW0]; exact Blk.new _ _ _)
  have HC := Lib.hid (cost_any _ W W0 (hW.touch0 ht0) (by omega))
  rw [hW0] at HC
  have HO : Hid (validP ⟨_, _, _, W, X, A, cost⟩ = validP ⟨.slice Aw W.length cw, .slice Ax X.length cx, .slice Aa A.length ca, W, X, A, cost⟩) := Lib.hid rfl
  clear HO
  cases hok : wOk W with
  | false =>
    have e : validP ⟨.slice Aw W.length cw, .slice Ax X.length cx, .slice Aa A.length ca, W, X, A, cost⟩ = false := by unfold validP; simp only [hok, Bool.false_and]
    rw [e]
    unfold CostPost at HC
    rw [hok] at HC
    simp only [Bool.false_eq_true, if_false] at HC
    clear hW0 e hok
    go_enter Tryd.func17, Tryd.ntmps17
    go_wp2_with fail
    refine HC.out.mono ?_
    rintro r w1 ⟨rfl, ht1⟩
    go_wp2_with fail
    go_ret
    exact ⟨rfl, ((Touch.refl _ _).alloc _).then0 ht1⟩
  | true =>
    unfold CostPost at HC
    rw [hok] at HC
    simp only [if_true] at HC
    by_cases hcost : sumC W = cost
    case neg =>
      have e : validP ⟨.slice Aw W.length cw, .slice Ax X.length cx, .slice Aa A.length ca, W, X, A, cost⟩ = false := by unfold validP; simp only [decide_eq_false (fun e : cost = sumC W => hcost e.symm), Bool.and_false, Bool.false_and]
      rw [e]
      have hc1 : (sumC W != cost) = true := by simpa using hcost
      generalize sumC W = tot at *
      have HBK2 := HBK.out
      rw [hW0] at HBK2
      have HBK3 := Lib.hid HBK2
      clear hW0 e hok hcost HBK2
      go_enter Tryd.func17, Tryd.ntmps17
      go_wp2_with fail
      refine HC.out.mono ?_
      rintro r w1 ⟨rfl, ht1⟩
      have hbk := HBK3.out.touch ht1 (by simp)
      have k3 := hbk.cell 3
      simp at k3
      go_wp2_with fail
      go_ret
      exact ⟨rfl, ((Touch.refl _ _).alloc _).then0 ht1⟩
    have e : validP ⟨.slice Aw W.length cw, .slice Ax X.length cx, .slice Aa A.length ca, W, X, A, cost⟩ = (sOk X && cOk A && W.all (goodW A) && X.all (goodX W A)) := by unfold validP; simp only [hok, hcost, decide_true, Bool.true_and, Bool.and_true]
    rw [e]
    generalize hres : (sOk X && cOk A && W.all (goodW A) && X.all (goodX W A)) = res
    have HRES := Lib.hid hres.symm
    have hc1 : (sumC W != cost) = false := by simpa using hcost
    have hc2 : (sumC W == cost) = true := by simpa using hcost
    generalize sumC W = tot at *
    have HBK2 := HBK.out
    rw [hW0] at HBK2 ht0
    have HBK3 := Lib.hid HBK2
    have HT0 := Lib.hid ht0
    have hmm := fun (n : Int) (w : World) => run_makeMap_n (P := Tryd.prog) (t := 66) (k := 3) (e := 4) (by kernel_rfl) n w
    clear hW0 e hok hcost HBK2 HBK ht0 hres
    go_enter Tryd.func17, Tryd.ntmps17
    go_wp2_with fail
    refine HC.out.mono ?_
    rintro r w1 ⟨rfl, ht1⟩
    have hbk := HBK3.out.touch ht1 (by simp)
    have htt1 := HT0.out.then0 ht1
    clear HBK3 HC HT0
    have k1 := hbk.cell 1
    have k3 := hbk.cell 3
    simp at k1 k3
    go_wp2_with fail
    refine (validStations_any _ X w1 (hX.touch0 htt1) (by omega)).mono ?_
    rintro r w2 ⟨rfl, ht2⟩
    have htt2 := htt1.then0 ht2
    cases hsx : sOk X with
    | false =>
      have HSX := Lib.hid hsx
      clear hsx
      go_wp2_with fail
      go_ret
      exact ⟨ret_b (by rw [HRES.out, HSX.out]; rfl), htt2⟩
    | true =>
    have HSX := Lib.hid hsx
    have hbk2 := hbk.touch ht2 (by simp)
    have k2 := hbk2.cell 2
    simp at k2
    clear hsx k1 k3
    go_wp2_with fail
    refine (validList_any _ A w2 (hA.touch0 htt2) (by omega)).mono ?_
    rintro r w3 ⟨rfl, ht3⟩
    have htt3 := htt2.then0 ht3
    cases hca : cOk A with
    | false =>
      have HCA := Lib.hid hca
      clear hca
      go_wp2_with fail
      go_ret
      exact ⟨ret_b (by rw [HRES.out, HSX.out, HCA.out]; rfl), htt3⟩
    | true =>
    have HR2 : Hid (res = (W.all (goodW A) && X.all (goodX W A))) := Lib.hid (by rw [HRES.out, HSX.out, hca]; rfl)
    have hbk3 := hbk2.touch ht3 (by simp)
    have k2' := hbk3.cell 2
    simp at k2'
    have HBA := Lib.hid (bands_any _ A w3 (hA.touch0 htt3) (by omega) hca)
    clear hca k2 HRES HSX
    go_wp2_with fail
    refine HBA.out.mono ?_
    rintro r w4 ⟨bb, rfl, hbb, hm4, ht4⟩
    have hbk4 := hbk3.touch ht4 (by simp)
    have k0 := hbk4.cell 0
    simp at k0
    have htt4 := htt3.then0 ht4
    have hbkb := hbk4.alloc (.map #[] 0)
    have k0b := hbkb.cell 0
    have k1b := hbkb.cell 1
    simp at k0b k1b
    clear HBA
    go_wp2_with fail
    have hbw : bb < w4.heap.size := hm4.lt
    have hws : w.heap.size < w4.heap.size := hbk4.lt
    generalize hWb : w4.alloc (.map #[] 0) = Wb at *
    have hmb : IMap Wb bb (bandF A) := by rw [← hWb]; exact hm4.touch0 ((Touch.refl _ _).alloc _)
    have httb : Touch [] w Wb := by rw [← hWb]; exact htt4.alloc _
    have hst : VW ⟨.slice Aw W.length cw, .slice Ax X.length cx, .slice Aa A.length ca, W, X, A, cost⟩ res w4.heap.size Wb (.int .i64 0) Wb := ⟨0, by simp, rfl, by have := IMap.new w4; rw [hWb] at this; exact this, Touch.refl _ _, HR2.out⟩
    have HMB := Lib.hid hmb
    have HBKB := Lib.hid hbkb
    have HWB := Lib.hid (hW.touch0 httb)
    have HXB := Lib.hid (hX.touch0 httb)
    have HLW := Lib.hid hW.lt
    have HLX := Lib.hid hX.lt
    clear hWb hm4 ht4 htt4 hbk4 hbk3 hbk2 hbk ht1 ht2 ht3 htt1 htt2 htt3 hmm hmb hbkb k0 k0b k1b k2' HR2 hW hX hA
    generalize hbwn : w4.heap.size = bw at *
    clear hbwn
    go_loopw [51] (fun ti wr => VW ⟨.slice Aw W.length cw, .slice Ax X.length cx, .slice Aa A.length ca, W, X, A, cost⟩ res bw Wb ti wr) (fun ti _ => W.length - (intOf ti).toNat)
    case atStart => exact hst
    case round =>
      clear hst
      obtain ⟨k, hk, rfl, hmw, htb, hres⟩ := hrel
      simp only at hk hmw hres
      have HRES := Lib.hid hres
      clear hres
      have hws2 : w.heap.size ≤ bw := by omega
      by_cases hlt : k < W.length
      · have hlt' : (k : Int) < (W.length : Int) := by omega
        have hWr := HWB.out.touch htb (fun g hg hm => by have := HLW.out g hg; simp at hm; omega)
        obtain ⟨b, off, rfl, hb⟩ := hWr.addr hlt
        obtain ⟨c0, c1, c2⟩ := Trips.at_ hWr hlt
        have HALL : Hid ((W.drop k).all (goodW A) = (decide (onB W[k].a A = W[k].b) && (W.drop (k + 1)).all (goodW A))) := Lib.hid (all_step hlt)
        have HTK : Hid (W.take (k + 1) = W.take k ++ [W[k]]) := Lib.hid (List.take_succ_eq_append_getElem hlt)
        generalize hxk : W[k] = x at *
        obtain ⟨xa, xb, xc⟩ := x
        simp only at c0 c1 c2
        simp only at HALL
        have hmbr := HMB.out.touch htb (by simp; omega)
        have hlk := look_band (hmbr.touch0 ((Touch.refl [] wr).alloc (.cells #[.int .i64 xa, .int .i64 xb, .int .i64 xc] 48))) xa true
        have hma := hmw.touch0 ((Touch.refl [] wr).alloc (.cells #[.int .i64 xa, .int .i64 xb, .int .i64 xc] 48))
        obtain ⟨hq0, hq3⟩ := on_range xa A
        have HTU := Lib.hid (won_snoc (W.take k) ⟨xa, xb, xc⟩)
        simp only at HTU
        have hbwr : bw < wr.heap.size := hmw.lt
        clear hxk hWr hmbr
        generalize hqq : onB xa A = q at *
        clear hqq
        have HMW := Lib.hid hmw
        have HMA := Lib.hid hma
        clear hmw hma
        simp only [if_true] at hlk
        by_cases hq : q = xb
        · have HG : Hid (res = ((W.drop (k + 1)).all (goodW A) && X.all (goodX W A))) := Lib.hid (by rw [HRES.out, HALL.out, decide_eq_true hq, Bool.true_and])
          subst hq
          have hqe : (q != q) = false := by simp
          by_cases hz : q = 0
          · subst hz
            go_wp2_with (at_mapUpdate; go_must (refine upd_imap (t := 66) (k := 3) (e := 4) HMA.out (by kernel_rfl) (by kernel_rfl) ?_); intro w7 hm7 ht7)
            go_roundw
            case rel =>
              refine ⟨k + 1, hlt, by go_num, ?_, ?_, HG.out⟩
              · rw [HTK.out, ← HTU.out]; exact hm7
              · exact (htb.alloc _).trans ht7
            case measure => simp [intOf]; omega
          · have hz1 : (q != 0) = true := by simpa using hz
            clear hz
            go_wp2_with (at_mapUpdate; go_must (refine upd_imap (t := 66) (k := 3) (e := 4) HMA.out (by kernel_rfl) (by kernel_rfl) ?_); intro w7 hm7 ht7)
            go_roundw
            case rel =>
              refine ⟨k + 1, hlt, by go_num, ?_, ?_, HG.out⟩
              · rw [HTK.out, ← HTU.out]; exact hm7
              · exact (htb.alloc _).trans ht7
            case measure => simp [intOf]; omega
        · have HG : Hid (res = false) := Lib.hid (by rw [HRES.out, HALL.out, decide_eq_false hq, Bool.false_and, Bool.false_and])
          have hq1 : (q != xb) = true := by simpa using hq
          have hq2 : (q == xb) = false := by simpa using hq
          have HTT : Hid (∀ o, Touch [] w (wr.alloc o)) := Lib.hid (fun o => (httb.step htb (fun m hm => by simp at hm; subst hm; exact .inr hws2)).alloc o)
          by_cases hz : q = 0
          · subst hz
            have hb1 : (xb != 0) = true := by simpa using Ne.symm hq
            clear hq
            go_wp2_with fail
            go_ret
            exact ⟨ret_b HG.out.symm, HTT.out _⟩
          · have hz1 : (q != 0) = true := by simpa using hz
            clear hz hq
            by_cases hb0 : xb = 0
            · subst hb0
              go_wp2_with fail
              go_ret
              exact ⟨ret_b HG.out.symm, HTT.out _⟩
            · have hb1 : (xb != 0) = true := by simpa using hb0
              clear hb0
              go_wp2_with fail
              go_ret
              exact ⟨ret_b HG.out.symm, HTT.out _⟩
      have hlt' : ¬ (k : Int) < (W.length : Int) := by omega
      have hko : Blk wr w.heap.size 26 _ := HBKB.out.touch htb (by simp; omega)
      have k1 := hko.cell 1
      simp at k1
      have HR3 : Hid (res = (X.drop 0).all (goodX W A)) := Lib.hid (by rw [HRES.out, List.drop_eq_nil_of_le (by omega)]; rfl)
      rw [List.take_of_length_le (by omega)] at hmw
      have hmbr := HMB.out.touch htb (by simp; omega)
      have HMW := Lib.hid hmw
      have HMR := Lib.hid hmbr
      have HXR := Lib.hid (HXB.out.touch htb (fun g hg hm => by have := HLX.out g hg; simp at hm; omega))
      have HTT : Hid (Touch [] w wr) := Lib.hid (httb.step htb (fun m hm => by simp at hm; subst hm; exact .inr hws2))
      clear hko hmw hmbr HRES htb HWB HXB HMB HBKB
      go_wp2_with fail
      go_loop [80] (fun ti => VX ⟨.slice Aw W.length cw, .slice Ax X.length cx, .slice Aa A.length ca, W, X, A, cost⟩ res ti) (fun ti => X.length - (intOf ti).toNat)
      case atStart => exact ⟨0, by simp, rfl, HR3.out⟩
      case round =>
        obtain ⟨j, hj, rfl, hres⟩ := hrel
        simp only at hj hres
        have HRES := Lib.hid hres
        clear hres HR3
        by_cases hlj : j < X.length
        case neg =>
          have hlj' : ¬ (j : Int) < (X.length : Int) := by omega
          go_wp2_with fail
          go_ret
          exact ⟨ret_b (by rw [HRES.out, List.drop_eq_nil_of_le (by omega)]; rfl), HTT.out⟩
        have hlj' : (j : Int) < (X.length : Int) := by omega
        have hXr := HXR.out
        obtain ⟨b, off, rfl, hb⟩ := hXr.addr hlj
        have c0 := Nums.at_ hXr hlj
        have HALL : Hid ((X.drop j).all (goodX W A) = ((decide (onB X[j] A ≠ 0) && !isWon W X[j]) && (X.drop (j + 1)).all (goodX W A))) := Lib.hid (all_step hlj)
        generalize hxk : X[j] = xa at *
        have hl1 := look_band HMR.out xa true
        have hl2 := look_won HMW.out xa
        simp only [if_true] at hl1
        clear hxk hXr
        generalize hqq : onB xa A = q at *
        generalize hvv : isWon W xa = wn at *
        clear hqq hvv
        by_cases hz : q = 0
        · subst hz
          have HG : Hid (res = false) := Lib.hid (by rw [HRES.out, HALL.out]; simp)
          go_wp2_with fail
          go_ret
          exact ⟨ret_b HG.out.symm, HTT.out⟩
        · have hz1 : (q != 0) = true := by simpa using hz
          cases wn with
          | true =>
            have HG : Hid (res = false) := Lib.hid (by rw [HRES.out, HALL.out]; simp)
            clear hz
            go_wp2_with fail
            go_ret
            exact ⟨ret_b HG.out.symm, HTT.out⟩
          | false =>
            have HG : Hid (res = (X.drop (j + 1)).all (goodX W A)) := Lib.hid (by rw [HRES.out, HALL.out]; simp [hz])
            clear hz
            go_wp2_with fail
            go_round
            case rel => exact ⟨j + 1, hlj, by go_num, HG.out⟩
            case measure => simp [intOf]; omega
end Go.Proofs.YtpbknnkobhjjcaaDoor
