/- Whether an outcome follows from entrants, by the program. -/
import Derived.Test.YtpbknnkobhjjcaaDoorOc13
namespace Go.Proofs.YtpbknnkobhjjcaaDoor
open Go.RowKit
set_option linter.unusedSimpArgs false

theorem FolPost.mk_ {o : Ox} {l : List Tx} {op : Int} {a : Bool} {b : Int} {w w' : World} (h : folRes o l op = (a, b)) (ht : Touch [] w w') : FolPost o l op w (.returned (.tuple #[.bool a, .int .i64 b])) w' := by unfold FolPost; rw [h]; exact ⟨rfl, ht⟩
theorem zero_ent (w : World) : (zeroValue 52).run Tryd.prog w = .ok (.agg #[.int .i64 0, .int .i64 0, .int .i64 0]) w := by kernel_rfl
theorem look_ent {w : World} {b : Nat} {l : List Tx} (h : IMap w b (entF l)) (n : Int) : (Instr.lookup 58 (.map (some b)) (.int .i64 n) true).run Tryd.prog w = .ok (.tuple #[((findT n l).map tval).getD (.agg #[.int .i64 0, .int .i64 0, .int .i64 0]), .bool (findT n l).isSome]) w := by
  have := h.lookup (P := Tryd.prog) (t := 58) (k := 3) (e := 52) (by kernel_rfl) (by kernel_rfl) (zero_ent w) n true
  simp only [if_true] at this
  rw [this]
  unfold entF
  rw [Option.isSome_map]
def ERel (l : List Tx) (be : Nat) (Wb : World) (ti : Value) (wr : World) : Prop := ∃ k : Nat, k ≤ l.length ∧ ti = .int .i64 k ∧ IMap wr be ((l.take k).foldl addE (fun _ => none)) ∧ Touch [be] Wb wr
def FWRel (W : List Tx) (f : Tx → Bool) (g : Bool) (res : Bool) (Wb : World) (ti : Value) (wr : World) : Prop := ∃ k : Nat, k ≤ W.length ∧ ti = .int .i64 k ∧ Touch [] Wb wr ∧ res = ((W.drop k).all f && g)
def FXRel (X : List Int) (f : Int → Bool) (res : Bool) (Wb : World) (ti : Value) (wr : World) : Prop := ∃ k : Nat, k ≤ X.length ∧ ti = .int .i64 k ∧ Touch [] Wb wr ∧ res = (X.drop k).all f
set_option maxRecDepth 100000 in
set_option maxHeartbeats 8000000 in
theorem follows_any (o : Ox) (v : Value) (l : List Tx) (op : Int) (w : World) (hw : Worths w) (ho : o.Ok w) (hs : o.small) (hv : Trips w v l) (hl : l.length ≤ 40) : Calls Tryd.prog 15 #[o.val, v, .int .i64 op] w (FolPost o l op w) := by
  have hs0 := hs
  obtain ⟨hs1, hs2, hs3⟩ := hs
  have HV := Lib.hid (valid_any o (w.alloc (.cells #[o.wv, o.xv, o.av, .int .i64 o.cost] 26)) (ho.touch0 ((Touch.refl _ _).alloc _)) hs0)
  have HR1 : Hid (validP o = false → folRes o l op = (false, 2)) := Lib.hid (fun h => by unfold folRes; rw [h]; rfl)
  have HR2 : Hid (goodE l op = false → folRes o l op = (false, 2)) := Lib.hid (fun h => by unfold folRes; rw [h, Bool.and_false]; rfl)
  have HR3 : Hid (validP o = true → goodE l op = true → ¬ o.W.length + o.X.length = l.length → folRes o l op = (false, 0)) := Lib.hid (fun h1 h2 h3 => by unfold folRes; rw [h1, h2, if_neg h3]; rfl)
  have HR4 : Hid (validP o = true → goodE l op = true → o.W.length + o.X.length = l.length → folRes o l op = (l.all (condR op o.W o.X o.A), 0)) := Lib.hid (fun h1 h2 h3 => by unfold folRes; rw [h1, h2, if_pos h3]; rfl)
  have HSM := Lib.hid (follow_same o l op)
  have HVA : Hid (validP o = true → wOk o.W = true ∧ cOk o.A = true) := Lib.hid (fun h => by
    unfold validP at h
    simp only [Bool.and_eq_true] at h
    exact ⟨h.1.1.1.1.1, h.1.1.2⟩)
  have HEG : Hid (goodE l op = true → eOk l = true ∧ (∀ x ∈ l, ¬ eBad x) ∧ 1 ≤ op ∧ op ≤ 1000000000) := Lib.hid (fun h => by
    unfold goodE at h
    rw [Bool.and_eq_true, Bool.and_eq_true, decide_eq_true_eq, decide_eq_true_eq] at h
    exact ⟨h.1, ok_ents (by exact h.1), h.2.1, h.2.2⟩)
  have HFIN := Lib.hid (fun (a : Bool) (b : Int) (w' : World) (h : folRes o l op = (a, b)) (ht : Touch [] w w') => FolPost.mk_ h ht)
  have HBK := Lib.hid (Blk.new w 26 #[o.wv, o.xv, o.av, .int .i64 o.cost])
  have HD := Lib.hid (fun (w' : World) (h : Touch [] w w') => defined_any v l op w' (hv.touch0 h) (by omega))
  generalize folRes o l op = x at *
  generalize hvq : validP o = vq at *
  generalize hgq : goodE l op = gq at *
  obtain ⟨hW, hX, hA, hf⟩ := ho
  obtain ⟨wv, xv, av, W, X, A, cost⟩ := o
  simp only [Ox.val] at *
  generalize hPost : FolPost ⟨wv, xv, av, W, X, A, cost⟩ l op w = Post at *
  clear hPost hvq hgq hs0
  obtain ⟨Al, cl, rfl⟩ := hv.form
  obtain ⟨Aw, cw, rfl⟩ := hW.form
  obtain ⟨Ax, cx, rfl⟩ := hX.form
  obtain ⟨Aa, ca, rfl⟩ := hA.form
  obtain ⟨hcl1, hcl2⟩ := hv.cap
  obtain ⟨hcw1, hcw2⟩ := hW.cap
  obtain ⟨hcx1, hcx2⟩ := hX.cap
  have ht0 : Touch [] w (w.alloc (.cells #[.slice Aw W.length cw, .slice Ax X.length cx, .slice Aa A.length ca, .int .i64 cost] 26)) := (Touch.refl _ _).alloc _
  cases vq with
  | false =>
    have HX := Lib.hid (HR1.out rfl)
    clear HR1 HR2 HR3 HR4 HSM HVA HEG HD
    go_enter Tryd.func15, Tryd.ntmps15
    go_wp2_with fail
    refine HV.out.mono ?_
    rintro r w1 ⟨rfl, ht1⟩
    go_wp2_with fail
    exact HFIN.out _ _ _ HX.out (ht0.then0 ht1)
  | true =>
  cases gq with
  | false =>
    have HX := Lib.hid (HR2.out rfl)
    clear HR1 HR2 HR3 HR4 HSM HVA HEG
    go_enter Tryd.func15, Tryd.ntmps15
    go_wp2_with fail
    refine HV.out.mono ?_
    rintro r w1 ⟨rfl, ht1⟩
    go_wp2_with fail
    refine (HD.out w1 (ht0.then0 ht1)).mono ?_
    rintro r w2 ⟨rfl, ht2⟩
    go_wp2_with fail
    exact HFIN.out _ _ _ HX.out ((ht0.then0 ht1).then0 ht2)
  | true =>
  have HR3' := Lib.hid (HR3.out rfl rfl)
  have HR4' := Lib.hid (HR4.out rfl rfl)
  obtain ⟨hew, heb, ho1, ho2⟩ := HEG.out rfl
  obtain ⟨hwk, hck⟩ := HVA.out rfl
  clear HR1 HR2 HR3 HR4 HVA HEG
  by_cases hn : W.length + X.length = l.length
  case neg =>
    have HX := Lib.hid (HR3'.out hn)
    have q1 : ((W.length : Int) + (X.length : Int) != (l.length : Int)) = true := by simp; omega
    have q2 : ((W.length : Int) + (X.length : Int) == (l.length : Int)) = false := by simp; omega
    clear hn HR3' HR4' hew heb hwk hck HSM
    go_enter Tryd.func15, Tryd.ntmps15
    go_wp2_with fail
    refine HV.out.mono ?_
    rintro r w1 ⟨rfl, ht1⟩
    go_wp2_with fail
    refine (HD.out w1 (ht0.then0 ht1)).mono ?_
    rintro r w2 ⟨rfl, ht2⟩
    have hbk := (HBK.out.touch ht1 (by simp)).touch ht2 (by simp)
    have k0 := hbk.cell 0
    have k1 := hbk.cell 1
    simp at k0 k1
    go_wp2_with fail
    exact HFIN.out _ _ _ HX.out ((ht0.then0 ht1).then0 ht2)
  have q1 : ((W.length : Int) + (X.length : Int) != (l.length : Int)) = false := by simp; omega
  have q2 : ((W.length : Int) + (X.length : Int) == (l.length : Int)) = true := by simp; omega
  have HX : Hid (x = ((W.all (condP op l) && X.all (condQ A l)), 0)) := Lib.hid (by rw [HR4'.out hn, HSM.out rfl hew hn])
  generalize hresq : (W.all (condP op l) && X.all (condQ A l)) = res at *
  have HRES : Hid (res = ((W.drop 0).all (condP op l) && X.all (condQ A l))) := Lib.hid hresq.symm
  have HALL := Lib.hid (ents_all hew)
  have HEB := Lib.hid heb
  have HCK := Lib.hid hck
  have hmm := fun (n : Int) (w : World) => run_makeMap_n (P := Tryd.prog) (t := 58) (k := 3) (e := 52) (by kernel_rfl) n w
  clear hn HR3' HR4' hew heb hwk hck HSM hresq
  go_enter Tryd.func15, Tryd.ntmps15
  go_wp2_with fail
  refine HV.out.mono ?_
  rintro r w1 ⟨rfl, ht1⟩
  go_wp2_with fail
  refine (HD.out w1 (ht0.then0 ht1)).mono ?_
  rintro r w2 ⟨rfl, ht2⟩
  have hbk := (HBK.out.touch ht1 (by simp)).touch ht2 (by simp)
  have k0 := hbk.cell 0
  have k1 := hbk.cell 1
  simp at k0 k1
  have htt := (ht0.then0 ht1).then0 ht2
  clear HV HD HBK ht0 ht1 ht2
  go_wp2_with fail
  have hws : w.heap.size < w2.heap.size := hbk.lt
  have hbkb := hbk.alloc (.map #[] 0)
  have httb := htt.alloc (.map #[] 0)
  have hmb := IMap.new w2
  generalize w2.alloc (.map #[] 0) = Wb at hbkb httb hmb ⊢
  generalize hbe : w2.heap.size = be at *
  clear hbe k0 k1 hbk htt hmm
  have HLB := Lib.hid (hv.touch0 httb)
  have HLL := Lib.hid hv.lt
  have HBKB := Lib.hid hbkb
  have HTB := Lib.hid httb
  clear hbkb httb
  go_loopw [46] (fun ti wr => ERel l be Wb ti wr) (fun ti _ => l.length - (intOf ti).toNat)
  case atStart => exact ⟨0, by omega, rfl, hmb, Touch.refl _ _⟩
  case round =>
    clear hmb
    obtain ⟨k, hk, rfl, hm, htb⟩ := hrel
    by_cases hlt : k < l.length
    · have hlt' : (k : Int) < (l.length : Int) := by omega
      have hLr := HLB.out.touch htb (fun g hg hm => by have := HLL.out g hg; simp at hm; omega)
      obtain ⟨b, off, rfl, hb⟩ := hLr.addr hlt
      obtain ⟨c0, c1, c2⟩ := Trips.at_ hLr hlt
      have HTK : Hid ((l.take (k + 1)).foldl addE (fun _ => none) = addE ((l.take k).foldl addE (fun _ => none)) l[k]) := Lib.hid (by rw [List.take_succ_eq_append_getElem hlt, List.foldl_append]; rfl)
      generalize (l.take k).foldl addE (fun _ => none) = f at *
      generalize hxk : l[k] = x' at *
      obtain ⟨xa, xb, xc⟩ := x'
      simp only at c0 c1 c2
      have hma := hm.touch0 ((Touch.refl [] wr).alloc (.cells #[.int .i64 xa, .int .i64 xb, .int .i64 xc] 52))
      have HMA := Lib.hid hma
      clear hxk hLr hma hm
      go_wp2_with (at_mapUpdate; go_must (refine upd_imap (t := 58) (k := 3) (e := 52) HMA.out (by kernel_rfl) (by kernel_rfl) ?_); intro w7 hm7 ht7)
      go_roundw
      case rel =>
        refine ⟨k + 1, by omega, by go_num, ?_, (htb.alloc _).trans ht7⟩
        rw [HTK.out]
        exact hm7
      case measure => simp [intOf]; omega
    have hlt' : ¬ (k : Int) < (l.length : Int) := by omega
    rw [List.take_of_length_le (by omega), HALL.out] at hm
    have hber : be < wr.heap.size := hm.lt
    have hko : Blk wr w.heap.size 26 _ := HBKB.out.touch htb (by simp; omega)
    have k0 := hko.cell 0
    simp at k0
    have httr : Touch [] w wr := HTB.out.step htb (fun m hm => by simp at hm; subst hm; exact .inr (by omega))
    have HME := Lib.hid hm
    have HKO := Lib.hid hko
    have HTR := Lib.hid httr
    obtain ⟨wo, rfl⟩ : ∃ wo : World, wo = wr := ⟨_, rfl⟩
    clear hm hko httr htb HLB HLL HBKB HTB hlt hk HALL
    go_wp2_with fail
    go_loopw [58] (fun ti wr => FWRel W (condP op l) (X.all (condQ A l)) res wo ti wr) (fun ti _ => W.length - (intOf ti).toNat)
    case atStart => exact ⟨0, by omega, rfl, Touch.refl _ _, HRES.out⟩
    case round =>
      clear HRES k0
      obtain ⟨j, hj, rfl, htb, hres⟩ := hrel
      have HRES := Lib.hid hres
      clear hres
      have htw := HTR.out.then0 htb
      by_cases hlj : j < W.length
      · have hlj' : (j : Int) < (W.length : Int) := by omega
        have hWr := hW.touch0 htw
        obtain ⟨b, off, rfl, hb⟩ := hWr.addr hlj
        obtain ⟨c0, c1, c2⟩ := Trips.at_ hWr hlj
        have HST : Hid ((W.drop j).all (condP op l) = (condP op l W[j] && (W.drop (j + 1)).all (condP op l))) := Lib.hid (all_step hlj)
        generalize hxk : W[j] = x' at *
        obtain ⟨xa, xb, xc⟩ := x'
        simp only at c0 c1 c2
        have hb' : b < wr.heap.size := by have := htw.size; omega
        have hlk := look_ent ((HME.out.touch0 htb).touch0 ((Touch.refl [] wr).alloc (.cells #[.int .i64 xa, .int .i64 xb, .int .i64 xc] 48))) xa
        have HCP : Hid (condP op l ⟨xa, xb, xc⟩ = match findT xa l with | none => false | some y => condW op y ⟨xa, xb, xc⟩) := Lib.hid rfl
        clear hxk hWr
        cases hfd : findT xa l with
        | none =>
          have HG : Hid (res = false) := Lib.hid (by rw [HRES.out, HST.out, HCP.out, hfd]; simp)
          rw [hfd] at hlk
          simp only [Option.map_none, Option.getD_none, Option.isSome_none] at hlk
          clear hfd HCP
          go_wp2_with fail
          exact HFIN.out _ _ _ (by rw [HX.out, HG.out]) ((htw.alloc _).alloc _)
        | some y =>
          have hye := HEB.out y (find_some hfd).1
          have HCP2 : Hid (condP op l ⟨xa, xb, xc⟩ = condW op y ⟨xa, xb, xc⟩) := Lib.hid (by rw [HCP.out, hfd])
          rw [hfd] at hlk
          obtain ⟨ya, yb, yc⟩ := y
          simp only [Option.map_some, Option.getD_some, Option.isSome_some, tval] at hlk
          unfold eBad at hye
          simp only at hye
          clear hfd HCP
          unfold condW at HCP2
          simp only at HCP2
          by_cases hbb : xb < yb
          case neg =>
            have HG : Hid (res = false) := Lib.hid (by rw [HRES.out, HST.out, HCP2.out, decide_eq_false hbb]; simp)
            have hbb2 : yb ≤ xb := by omega
            clear hbb HCP2
            go_wp2_with fail
            exact HFIN.out _ _ _ (by rw [HX.out, HG.out]) ((htw.alloc _).alloc _)
          have HO := Lib.hid (offer_any yc op yb xb ((wr.alloc (.cells #[.int .i64 xa, .int .i64 xb, .int .i64 xc] 48)).alloc (.cells #[.int .i64 ya, .int .i64 yb, .int .i64 yc] 52)) (hw.touch ((htw.alloc _).alloc _)))
          have HKC : Hid (Blk ((wr.alloc (.cells #[.int .i64 xa, .int .i64 xb, .int .i64 xc] 48)).alloc (.cells #[.int .i64 ya, .int .i64 yb, .int .i64 yc] 52)) wr.heap.size 48 #[.int .i64 xa, .int .i64 xb, .int .i64 xc]) := Lib.hid ((Blk.new _ _ _).alloc _)
          rw [decide_eq_true hbb, Bool.true_and] at HCP2
          generalize offer yc op yb xb = pe at *
          obtain ⟨pp, ee⟩ := pe
          simp only at HCP2
          go_wp2_with fail
          refine HO.out.mono ?_
          rintro r w5 ⟨rfl, ht5⟩
          have kc := (HKC.out.touch ht5 (by simp)).cell 2
          simp at kc
          simp only
          have HT5 := Lib.hid (((htw.alloc _).alloc _).then0 ht5)
          have HB5 := Lib.hid (((htb.alloc _).alloc _).then0 ht5)
          clear HO HKC ht5
          by_cases hee : ee = 0
          case neg =>
            have HG : Hid (res = false) := Lib.hid (by rw [HRES.out, HST.out, HCP2.out, decide_eq_false hee]; simp)
            have he1 : (ee != 0) = true := by simpa using hee
            clear hee HCP2
            go_wp2_with fail
            exact HFIN.out _ _ _ (by rw [HX.out, HG.out]) HT5.out
          subst hee
          by_cases hpp : xc ≤ pp
          case neg =>
            have HG : Hid (res = false) := Lib.hid (by rw [HRES.out, HST.out, HCP2.out, decide_eq_false hpp]; simp)
            have hp1 : pp < xc := by omega
            clear hpp HCP2
            go_wp2_with fail
            exact HFIN.out _ _ _ (by rw [HX.out, HG.out]) HT5.out
          have HG : Hid (res = ((W.drop (j + 1)).all (condP op l) && X.all (condQ A l))) := Lib.hid (by rw [HRES.out, HST.out, HCP2.out, decide_eq_true hpp]; simp)
          clear HCP2
          go_wp2_with fail
          go_roundw
          case rel => exact ⟨j + 1, hlj, by go_num, HB5.out, HG.out⟩
          case measure => simp [intOf]; omega
      have hlj' : ¬ (j : Int) < (W.length : Int) := by omega
      have HR0 : Hid (res = (X.drop 0).all (condQ A l)) := Lib.hid (by rw [HRES.out, List.drop_eq_nil_of_le (by omega)]; rfl)
      have hko := HKO.out.touch htb (by simp)
      have k2 := hko.cell 2
      simp at k2
      have HBA := Lib.hid (bands_any _ A wr (hA.touch0 htw) (by omega) HCK.out)
      have HME2 := Lib.hid (HME.out.touch0 htb)
      have HKO2 := Lib.hid hko
      clear HRES hlj hj HME HKO hko
      go_wp2_with fail
      refine HBA.out.mono ?_
      rintro r w6 ⟨bb, rfl, hbb, hm6, ht6⟩
      have hko6 := HKO2.out.touch ht6 (by simp)
      have k1 := hko6.cell 1
      simp at k1
      have HTT6 := Lib.hid (htw.then0 ht6)
      have HM6 := Lib.hid hm6
      have HME6 := Lib.hid (HME2.out.touch0 ht6)
      clear HBA HKO2 HME2 hko6 hm6 ht6 htw htb k2
      go_wp2_with fail
      go_loopw [104] (fun ti wr => FXRel X (condQ A l) res w6 ti wr) (fun ti _ => X.length - (intOf ti).toNat)
      case atStart => exact ⟨0, by omega, rfl, Touch.refl _ _, HR0.out⟩
      case round =>
        clear HR0 k1
        obtain ⟨i, hi, rfl, htb, hres⟩ := hrel
        have HRES := Lib.hid hres
        clear hres
        have htw := HTT6.out.then0 htb
        by_cases hli : i < X.length
        case neg =>
          have hli' : ¬ (i : Int) < (X.length : Int) := by omega
          go_wp2_with fail
          exact HFIN.out _ _ _ (by rw [HX.out, HRES.out, List.drop_eq_nil_of_le (by omega)]; rfl) htw
        have hli' : (i : Int) < (X.length : Int) := by omega
        have hXr := hX.touch0 htw
        obtain ⟨b, off, rfl, hb⟩ := hXr.addr hli
        have c0 := Nums.at_ hXr hli
        have HST : Hid ((X.drop i).all (condQ A l) = (condQ A l X[i] && (X.drop (i + 1)).all (condQ A l))) := Lib.hid (all_step hli)
        generalize hxk : X[i] = xa at *
        have hlk := look_ent (HME6.out.touch0 htb) xa
        have HCQ : Hid (condQ A l xa = match findT xa l with | none => false | some y => decide (onB xa A = y.b)) := Lib.hid rfl
        clear hxk hXr
        cases hfd : findT xa l with
        | none =>
          have HG : Hid (res = false) := Lib.hid (by rw [HRES.out, HST.out, HCQ.out, hfd]; simp)
          rw [hfd] at hlk
          simp only [Option.map_none, Option.getD_none, Option.isSome_none] at hlk
          clear hfd HCQ
          go_wp2_with fail
          exact HFIN.out _ _ _ (by rw [HX.out, HG.out]) (htw.alloc _)
        | some y =>
          have HCQ2 : Hid (condQ A l xa = decide (onB xa A = y.b)) := Lib.hid (by rw [HCQ.out, hfd])
          rw [hfd] at hlk
          obtain ⟨ya, yb, yc⟩ := y
          simp only [Option.map_some, Option.getD_some, Option.isSome_some, tval] at hlk
          have hl2 := look_band ((HM6.out.touch0 htb).touch0 ((Touch.refl [] wr).alloc (.cells #[.int .i64 ya, .int .i64 yb, .int .i64 yc] 52))) xa false
          simp only [Bool.false_eq_true, if_false] at hl2
          simp only at HCQ2
          clear hfd HCQ
          generalize onB xa A = q at *
          by_cases hq : q = yb
          · have HG : Hid (res = (X.drop (i + 1)).all (condQ A l)) := Lib.hid (by rw [HRES.out, HST.out, HCQ2.out, decide_eq_true hq]; simp)
            have q1' : (q != yb) = false := by simp [hq]
            have q2' : (q == yb) = true := by simp [hq]
            clear hq HCQ2
            go_wp2_with fail
            go_roundw
            case rel => exact ⟨i + 1, hli, by go_num, htb.alloc _, HG.out⟩
            case measure => simp [intOf]; omega
          · have HG : Hid (res = false) := Lib.hid (by rw [HRES.out, HST.out, HCQ2.out, decide_eq_false hq]; simp)
            have q1' : (q != yb) = true := by simpa using hq
            have q2' : (q == yb) = false := by simpa using hq
            clear hq HCQ2
            go_wp2_with fail
            exact HFIN.out _ _ _ (by rw [HX.out, HG.out]) (htw.alloc _)
end Go.Proofs.YtpbknnkobhjjcaaDoor
