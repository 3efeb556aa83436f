/- Whether an outcome follows from entrants, by the reference. -/
import Derived.Test.YtpbknnkobhjjcaaDoorOc14
namespace Go.Proofs.YtpbknnkobhjjcaaDoor
open Go.RowKit
set_option linter.unusedSimpArgs false

set_option maxRecDepth 100000 in
set_option maxHeartbeats 8000000 in
theorem refFollows_any (o : Ox) (v : Value) (l : List Tx) (op : Int) (w : World) (ho : o.Ok w) (hs : o.small) (hv : Trips w v l) (hl : l.length ≤ 40) : Calls Tryd.prog 16 #[o.val, v, .int .i64 op] w (FolPost o l op w) := by
  have hs0 := hs
  obtain ⟨hs1, hs2, hs3⟩ := hs
  have HV := Lib.hid (refValid_any o (w.alloc (.cells #[o.wv, o.xv, o.av, .int .i64 o.cost] 26)) (ho.touch0 ((Touch.refl _ _).alloc _)) hs0)
  have HR1 : Hid (validP o = false → folRes o l op = (false, 2)) := Lib.hid (fun h => by unfold folRes; rw [h]; rfl)
  have HR2 : Hid (goodE l op = false → folRes o l op = (false, 2)) := Lib.hid (fun h => by unfold folRes; rw [h, Bool.and_false]; rfl)
  have HR3 : Hid (validP o = true → goodE l op = true → ¬ o.W.length + o.X.length = l.length → folRes o l op = (false, 0)) := Lib.hid (fun h1 h2 h3 => by unfold folRes; rw [h1, h2, if_neg h3]; rfl)
  have HR4 : Hid (validP o = true → goodE l op = true → o.W.length + o.X.length = l.length → folRes o l op = (l.all (condR op o.W o.X o.A), 0)) := Lib.hid (fun h1 h2 h3 => by unfold folRes; rw [h1, h2, if_pos h3]; rfl)
  have HSM := Lib.hid (follow_same o l op)
  have HVA : Hid (validP o = true → wOk o.W = true ∧ cOk o.A = true) := Lib.hid (fun h => by
    unfold validP at h
    simp only [Bool.and_eq_true] at h
    exact ⟨h.1.1.1.1.1, h.1.1.2⟩)
  have HEG : Hid (goodE l op = true → eOk l = true ∧ (∀ x ∈ l, ¬ eBad x) ∧ 1 ≤ op ∧ op ≤ 1000000000) := Lib.hid (fun h => by
    unfold goodE at h
    rw [Bool.and_eq_true, Bool.and_eq_true, decide_eq_true_eq, decide_eq_true_eq] at h
    exact ⟨h.1, ok_ents (by exact h.1), h.2.1, h.2.2⟩)
  have HFIN := Lib.hid (fun (a : Bool) (b : Int) (w' : World) (h : folRes o l op = (a, b)) (ht : Touch [] w w') => FolPost.mk_ h ht)
  have HBK := Lib.hid (Blk.new w 26 #[o.wv, o.xv, o.av, .int .i64 o.cost])
  have HD := Lib.hid (fun (w' : World) (h : Touch [] w w') => refGood_any v l op w' (hv.touch0 h) (by omega))
  generalize folRes o l op = x at *
  generalize hvq : validP o = vq at *
  generalize hgq : goodE l op = gq at *
  obtain ⟨hW, hX, hA, hf⟩ := ho
  obtain ⟨wv, xv, av, W, X, A, cost⟩ := o
  simp only [Ox.val] at *
  generalize hPost : FolPost ⟨wv, xv, av, W, X, A, cost⟩ l op w = Post at *
  clear hPost hvq hgq hs0
  obtain ⟨Al, cl, rfl⟩ := hv.form
  obtain ⟨Aw, cw, rfl⟩ := hW.form
  obtain ⟨Ax, cx, rfl⟩ := hX.form
  obtain ⟨Aa, ca, rfl⟩ := hA.form
  obtain ⟨hcl1, hcl2⟩ := hv.cap
  obtain ⟨hcw1, hcw2⟩ := hW.cap
  obtain ⟨hcx1, hcx2⟩ := hX.cap
  have ht0 : Touch [] w (w.alloc (.cells #[.slice Aw W.length cw, .slice Ax X.length cx, .slice Aa A.length ca, .int .i64 cost] 26)) := (Touch.refl _ _).alloc _
  cases vq with
  | false =>
    have HX := Lib.hid (HR1.out rfl)
    clear HR1 HR2 HR3 HR4 HSM HVA HEG HD
    go_enter Tryd.func16, Tryd.ntmps16
    go_wp2_with fail
    refine HV.out.mono ?_
    rintro r w1 ⟨rfl, ht1⟩
    go_wp2_with fail
    exact HFIN.out _ _ _ HX.out (ht0.then0 ht1)
  | true =>
  cases gq with
  | false =>
    have HX := Lib.hid (HR2.out rfl)
    clear HR1 HR2 HR3 HR4 HSM HVA HEG
    go_enter Tryd.func16, Tryd.ntmps16
    go_wp2_with fail
    refine HV.out.mono ?_
    rintro r w1 ⟨rfl, ht1⟩
    go_wp2_with fail
    refine (HD.out w1 (ht0.then0 ht1)).mono ?_
    rintro r w2 ⟨rfl, ht2⟩
    go_wp2_with fail
    exact HFIN.out _ _ _ HX.out ((ht0.then0 ht1).then0 ht2)
  | true =>
  have HR3' := Lib.hid (HR3.out rfl rfl)
  have HR4' := Lib.hid (HR4.out rfl rfl)
  obtain ⟨hew, heb, ho1, ho2⟩ := HEG.out rfl
  obtain ⟨hwk, hck⟩ := HVA.out rfl
  clear HR1 HR2 HR3 HR4 HVA HEG
  by_cases hn : W.length + X.length = l.length
  case neg =>
    have HX := Lib.hid (HR3'.out hn)
    have q1 : ((W.length : Int) + (X.length : Int) != (l.length : Int)) = true := by simp; omega
    have q2 : ((W.length : Int) + (X.length : Int) == (l.length : Int)) = false := by simp; omega
    clear hn HR3' HR4' hew heb hwk hck HSM
    go_enter Tryd.func16, Tryd.ntmps16
    go_wp2_with fail
    refine HV.out.mono ?_
    rintro r w1 ⟨rfl, ht1⟩
    go_wp2_with fail
    refine (HD.out w1 (ht0.then0 ht1)).mono ?_
    rintro r w2 ⟨rfl, ht2⟩
    have hbk := (HBK.out.touch ht1 (by simp)).touch ht2 (by simp)
    have k0 := hbk.cell 0
    have k1 := hbk.cell 1
    simp at k0 k1
    go_wp2_with fail
    exact HFIN.out _ _ _ HX.out ((ht0.then0 ht1).then0 ht2)
  have q1 : ((W.length : Int) + (X.length : Int) != (l.length : Int)) = false := by simp; omega
  have q2 : ((W.length : Int) + (X.length : Int) == (l.length : Int)) = true := by simp; omega
  have HX := Lib.hid (HR4'.out hn)
  generalize hresq : l.all (condR op W X A) = res at *
  have HRES : Hid (res = ((l.drop 0).all (condR op W X A) && true)) := Lib.hid (by rw [Bool.and_true]; exact hresq.symm)
  clear hn HR3' HR4' hew heb hwk hck HSM hresq
  go_enter Tryd.func16, Tryd.ntmps16
  go_wp2_with fail
  refine HV.out.mono ?_
  rintro r w1 ⟨rfl, ht1⟩
  go_wp2_with fail
  refine (HD.out w1 (ht0.then0 ht1)).mono ?_
  rintro r w2 ⟨rfl, ht2⟩
  have hbk := (HBK.out.touch ht1 (by simp)).touch ht2 (by simp)
  have k0 := hbk.cell 0
  have k1 := hbk.cell 1
  simp at k0 k1
  have htt := (ht0.then0 ht1).then0 ht2
  clear HV HD HBK ht0 ht1 ht2
  go_wp2_with fail
  have HKO := Lib.hid hbk
  have HTT := Lib.hid htt
  clear hbk k0 k1 htt
  go_loopw [8] (fun ti wr => FWRel l (condR op W X A) true res w2 ti wr) (fun ti _ => l.length - (intOf ti).toNat)
  case atStart => exact ⟨0, by omega, rfl, Touch.refl _ _, HRES.out⟩
  case round =>
    clear HRES
    obtain ⟨k, hk, rfl, htb, hres⟩ := hrel
    have HRES := Lib.hid hres
    clear hres
    have htw := HTT.out.then0 htb
    by_cases hlt : k < l.length
    case neg =>
      have hlt' : ¬ (k : Int) < (l.length : Int) := by omega
      go_wp2_with fail
      exact HFIN.out _ _ _ (by rw [HX.out, HRES.out, List.drop_eq_nil_of_le (by omega)]; rfl) htw
    have hlt' : (k : Int) < (l.length : Int) := by omega
    have hLr := hv.touch0 htw
    obtain ⟨b, off, rfl, hb⟩ := hv.addr hlt
    obtain ⟨c0, c1, c2⟩ := Trips.at_ hLr hlt
    have HLT := Lib.hid (fun (W' : World) (h : Touch [] w W') => Trips.at_ (hv.touch0 h) hlt)
    have HST : Hid ((l.drop k).all (condR op W X A) = (condR op W X A l[k] && (l.drop (k + 1)).all (condR op W X A))) := Lib.hid (all_step hlt)
    generalize hxk : l[k] = x' at *
    obtain ⟨xa, xb, xc⟩ := x'
    simp only at c0 c1 c2 HLT
    have hko := HKO.out.touch htb (by simp)
    have k0 := hko.cell 0
    simp at k0
    have HWN := Lib.hid (fun n => refWinner_any _ W xa (wr.drewN n) ((hW.touch0 htw).touch0 ((Touch.refl _ _).drewN n)) (by omega))
    have HIX := Lib.hid (find_ix xa W 0)
    have HCR : Hid (condR op W X A ⟨xa, xb, xc⟩ = match findT xa W with | none => decide (xa ∈ X) && decide (onB xa A = xb) | some w => condW op ⟨xa, xb, xc⟩ w) := Lib.hid rfl
    generalize ixFrom xa 0 W = ix at *
    clear hxk hLr hko
    go_wp2_with fail
    go_quiet ((first | (go_at_call 24; exact quiet_left (HWN.out _))))
    have htb1 := htb.drewN nq
    have htw1 := htw.drewN nq
    clear htb htw c0 c1 c2 k0 HWN
    generalize wr.drewN nq = W1 at htb1 htw1 ⊢
    obtain ⟨c0, c1, c2⟩ := HLT.out W1 htw1
    have hko := HKO.out.touch htb1 (by simp)
    have k0 := hko.cell 0
    have k1 := hko.cell 1
    have k2 := hko.cell 2
    simp at k0 k1 k2
    have hb1 : b < W1.heap.size := by have := htw1.size; omega
    rcases HIX.out with ⟨h1, h2⟩ | ⟨j, y, h1, h2, h3⟩
    · have HCR2 : Hid (condR op W X A ⟨xa, xb, xc⟩ = (decide (xa ∈ X) && decide (onB xa A = xb))) := Lib.hid (by rw [HCR.out, h2])
      subst h1
      have HHA := Lib.hid (fun n => refHas_any _ X xa (W1.drewN n) ((hX.touch0 htw1).touch0 ((Touch.refl _ _).drewN n)) (by omega))
      have HON := Lib.hid (fun n => refOn_any _ A xa (W1.drewN n) ((hA.touch0 htw1).touch0 ((Touch.refl _ _).drewN n)) (by omega))
      clear h2 HIX HCR hko
      generalize decide (xa ∈ X) = hs at *
      generalize onB xa A = q at *
      cases hs with
      | false =>
        have HG : Hid (res = false) := Lib.hid (by rw [HRES.out, HST.out, HCR2.out]; simp)
        clear HCR2
        go_wp2_with fail
        go_quiet ((first | (go_at_call 30; exact quiet_left (HHA.out _)) | (go_at_call 31; exact quiet_left (HON.out _))))
        go_wp2_with fail
        exact HFIN.out _ _ _ (by rw [HX.out, HG.out]) (htw1.drewN _)
      | true =>
      by_cases hq : q = xb
      · have HG : Hid (res = ((l.drop (k + 1)).all (condR op W X A) && true)) := Lib.hid (by rw [HRES.out, HST.out, HCR2.out, decide_eq_true hq]; simp)
        have q1' : (q != xb) = false := by simp [hq]
        have q2' : (q == xb) = true := by simp [hq]
        clear hq HCR2
        go_wp2_with fail
        go_quiet ((first | (go_at_call 30; exact quiet_left (HHA.out _)) | (go_at_call 31; exact quiet_left (HON.out _))))
        go_wp2_with fail
        go_roundw
        case rel => exact ⟨k + 1, hlt, by go_num, htb1.drewN _, HG.out⟩
        case measure => simp [intOf]; omega
      · have HG : Hid (res = false) := Lib.hid (by rw [HRES.out, HST.out, HCR2.out, decide_eq_false hq]; simp)
        have q1' : (q != xb) = true := by simpa using hq
        have q2' : (q == xb) = false := by simpa using hq
        clear hq HCR2
        go_wp2_with fail
        go_quiet ((first | (go_at_call 30; exact quiet_left (HHA.out _)) | (go_at_call 31; exact quiet_left (HON.out _))))
        go_wp2_with fail
        exact HFIN.out _ _ _ (by rw [HX.out, HG.out]) (htw1.drewN _)
    · have HCR2 : Hid (condR op W X A ⟨xa, xb, xc⟩ = condW op ⟨xa, xb, xc⟩ y) := Lib.hid (by rw [HCR.out, h3])
      rw [Nat.zero_add] at h1
      subst h1
      have hlj : j < W.length := (List.getElem?_eq_some_iff.1 h2).1
      have hy : W[j] = y := (List.getElem?_eq_some_iff.1 h2).2
      have hlj' : (j : Int) < (W.length : Int) := by omega
      have hWr := hW.touch0 htw1
      obtain ⟨bw, offw, rfl, hbw⟩ := hWr.addr hlj
      obtain ⟨d0, d1, d2⟩ := Trips.at_ hWr hlj
      rw [hy] at d0 d1 d2
      obtain ⟨ya, yb, yc⟩ := y
      simp only at d0 d1 d2
      unfold condW at HCR2
      simp only at HCR2
      have HOF := Lib.hid (fun n => refOffer_any xc op xb yb ((W1.alloc (.cells #[.int .i64 ya, .int .i64 yb, .int .i64 yc] 48)).drewN n))
      generalize offer xc op xb yb = pe at *
      obtain ⟨pp, ee⟩ := pe
      unfold PairSame at HOF
      simp only at HOF HCR2
      clear h2 h3 hy hWr HIX HCR hko
      by_cases hee : ee = 0
      case neg =>
        have HG : Hid (res = false) := Lib.hid (by rw [HRES.out, HST.out, HCR2.out, decide_eq_false hee]; simp)
        have he1 : (ee != 0) = true := by simpa using hee
        clear hee HCR2
        go_wp2_with fail
        go_quiet ((first | (go_at_call 28; exact quiet_left (HOF.out _))))
        go_wp2_with fail
        go_quiet (fail)
        go_wp2_with fail
        exact HFIN.out _ _ _ (by rw [HX.out, HG.out]) (by first | exact ((htw1.alloc _).drewN _).drewN _ | exact (htw1.alloc _).drewN _)
      subst hee
      by_cases hbb : yb < xb
      case neg =>
        have HG : Hid (res = false) := Lib.hid (by rw [HRES.out, HST.out, HCR2.out, decide_eq_false hbb]; simp)
        have hb2 : decide (xb ≤ yb) = true := decide_eq_true (by omega)
        clear HCR2
        go_wp2_with fail
        go_quiet ((first | (go_at_call 28; exact quiet_left (HOF.out _))))
        go_wp2_with fail
        go_quiet (fail)
        go_wp2_with fail
        exact HFIN.out _ _ _ (by rw [HX.out, HG.out]) (by first | exact ((htw1.alloc _).drewN _).drewN _ | exact (htw1.alloc _).drewN _)
      have hb2 : decide (xb ≤ yb) = false := decide_eq_false (by omega)
      by_cases hpp : yc ≤ pp
      case neg =>
        have HG : Hid (res = false) := Lib.hid (by rw [HRES.out, HST.out, HCR2.out, decide_eq_false hpp]; simp)
        have hb3 : decide (pp < yc) = true := decide_eq_true (by omega)
        clear HCR2
        go_wp2_with fail
        go_quiet ((first | (go_at_call 28; exact quiet_left (HOF.out _))))
        go_wp2_with fail
        go_quiet (fail)
        go_wp2_with fail
        exact HFIN.out _ _ _ (by rw [HX.out, HG.out]) (by first | exact ((htw1.alloc _).drewN _).drewN _ | exact (htw1.alloc _).drewN _)
      have hb3 : decide (pp < yc) = false := decide_eq_false (by omega)
      have HG : Hid (res = ((l.drop (k + 1)).all (condR op W X A) && true)) := Lib.hid (by rw [HRES.out, HST.out, HCR2.out, decide_eq_true hpp, decide_eq_true hbb]; simp)
      clear HCR2
      go_wp2_with fail
      go_quiet ((first | (go_at_call 28; exact quiet_left (HOF.out _))))
      go_wp2_with fail
      go_quiet (fail)
      go_wp2_with fail
      go_roundw
      case rel => exact ⟨k + 1, hlt, by go_num, by first | exact ((htb1.alloc _).drewN _).drewN _ | exact (htb1.alloc _).drewN _, HG.out⟩
      case measure => simp [intOf]; omega
end Go.Proofs.YtpbknnkobhjjcaaDoor
