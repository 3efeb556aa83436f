/- The list of bids of an encoding by the specification. -/
import Derived.Test.YtpbknnkobhjjcaaDec4
namespace Go.Proofs.Ytpbknnkobhjjcaa
open Go.RowKit
set_option linter.unusedSimpArgs false

theorem ug_any (v : Value) (L : List UInt8) (a : Nat) (w : World) (hv : Bytes w v L) (hl : L.length ≤ 100000) (ha : a ≤ 100000) : Calls Try.prog 111 #[v, .int .i64 a] w (CntPost a (pUint L a) w) := by
  refine (ungroup30_any v L a w hv hl ha).mono ?_
  rintro r w' ⟨rfl, rfl⟩
  unfold pUint
  cases pGroup L 9 0 0 a with
  | error k => exact ⟨rfl, rfl⟩
  | ok x => exact ⟨rfl, rfl⟩
/-- The list of what has been read. -/
structure LsSt (w : World) (tv : Value) (xs : List Bx) (W : World) : Prop where
  own : Own W 91 3 tv xs.length (xs.flatMap Bx.cells)
  fbs : ∀ x ∈ xs, BxOk W x
  touch : Touch [] w W
  new : ∀ g ∈ blk tv, w.heap.size ≤ g
section
variable {w W W1 W2 : World} {tv tv2 : Value} {xs : List Bx}
theorem LsSt.aside {M : List Nat} (h : LsSt w tv xs W) (ht : Touch M W W1) (h3 : ∀ g ∈ blk tv, g ∉ M) (h4 : ∀ x ∈ xs, ∀ g ∈ blk x.fv, g ∉ M) (h5 : ∀ m ∈ M, w.heap.size ≤ m) : LsSt w tv xs W1 :=
  ⟨Own.touch h.own ht h3, fun x hx => ⟨Own.touch (h.fbs x hx).1 ht (h4 x hx), (h.fbs x hx).2⟩, h.touch.step ht (fun m hm => .inr (h5 m hm)), h.new⟩
theorem LsSt.touch0 (h : LsSt w tv xs W) (ht : Touch [] W W1) : LsSt w tv xs W1 := h.aside ht (by simp) (by simp) (by simp)
theorem LsSt.push {x : Bx} (h : LsSt w tv xs W) (hx : BxOk W x) (ho : Own W2 91 3 tv2 (xs.length + 1) (xs.flatMap Bx.cells ++ x.cells)) (ht : Touch (blk tv) W W2) (hf : From W tv tv2) : LsSt w tv2 (xs ++ [x]) W2 := by
  refine ⟨?_, fun y hy => ?_, h.touch.fresh h.new ht, From.fresh h.touch h.new hf⟩
  · rw [List.length_append, List.flatMap_append]
    simpa using ho
  · have hk : ∀ z, BxOk W z → BxOk W2 z := fun z hz => ⟨Own.touch hz.1 ht (fun g hg hm => Own.apart h.own hz.1 (by decide) g hm hg), hz.2⟩
    rcases List.mem_append.1 hy with hy | hy
    · exact hk y (h.fbs y hy)
    · rw [List.mem_singleton.1 hy]
      exact hk x hx
theorem LsSt.bids (h : LsSt w tv xs W) : Bids W tv xs := ⟨Own.reads h.own, fun x hx => (h.fbs x hx).ok⟩
end
structure LnSt (w : World) (tv : Value) (xs : List Bx) (q : Nat) (st pf : Int) (fv : Value) (fs : List Int) (W : World) : Prop where
  d : LsSt w tv xs W
  bk : Blk W q 91 #[.int .i64 st, .int .i64 pf, fv]
  fr : RowI W fv fs
  fn : ∀ g ∈ blk fv, q < g
  xl : ∀ x ∈ xs, ∀ g ∈ blk x.fv, g < q
  tl : ∀ g ∈ blk tv, g < q
  nl : w.heap.size ≤ q
section
variable {w W W1 W2 : World} {q : Nat} {tv fv fv2 : Value} {xs : List Bx} {st pf : Int} {fs : List Int}
theorem LnSt.new (h : LsSt w tv xs W) : LnSt w tv xs W.heap.size 0 0 (.slice none 0 0) [] (W.alloc (.cells #[.int .i64 0, .int .i64 0, .slice none 0 0] 91)) :=
  ⟨h.touch0 ((Touch.refl [] W).alloc _), Blk.new W _ _, RowI.nil _, by simp [blk], fun x hx g hg => Own.lt (h.fbs x hx).1 g hg, fun g hg => Own.lt h.own g hg, h.touch.size⟩
theorem LnSt.keepD (h : LnSt w tv xs q st pf fv fs W) (ht : Touch [q] W W1) : LsSt w tv xs W1 := by
  have h2 := h.nl
  refine h.d.aside ht (fun g hg hm => ?_) (fun x hx g hg hm => ?_) (fun m hm => ?_)
  · have := h.tl g hg; simp at hm; omega
  · have := h.xl x hx g hg; simp at hm; omega
  · simp at hm; omega
theorem LnSt.keepR (h : LnSt w tv xs q st pf fv fs W) (ht : Touch [q] W W1) : RowI W1 fv fs := Own.touch h.fr ht (fun g hg hm => by have := h.fn g hg; simp at hm; omega)
theorem LnSt.put0 (h : LnSt w tv xs q st pf fv fs W) (n : Int) : LnSt w tv xs q n pf fv fs (W.setCell ⟨q, 0, none⟩ (.int .i64 n)) := by
  have ht : Touch [q] W (W.setCell ⟨q, 0, none⟩ (.int .i64 n)) := (Touch.refl _ _).setCell (.inl (by simp)) _
  exact ⟨h.keepD ht, by simpa using h.bk.set_ 0 (.int .i64 n), h.keepR ht, h.fn, h.xl, h.tl, h.nl⟩
theorem LnSt.put1 (h : LnSt w tv xs q st pf fv fs W) (n : Int) : LnSt w tv xs q st n fv fs (W.setCell ⟨q, 1, none⟩ (.int .i64 n)) := by
  have ht : Touch [q] W (W.setCell ⟨q, 1, none⟩ (.int .i64 n)) := (Touch.refl _ _).setCell (.inl (by simp)) _
  exact ⟨h.keepD ht, by simpa using h.bk.set_ 1 (.int .i64 n), h.keepR ht, h.fn, h.xl, h.tl, h.nl⟩
theorem LnSt.touch0 (h : LnSt w tv xs q st pf fv fs W) (ht : Touch [] W W1) : LnSt w tv xs q st pf fv fs W1 :=
  ⟨h.d.touch0 ht, h.bk.touch ht (by simp), Own.touch0 h.fr ht, h.fn, h.xl, h.tl, h.nl⟩
theorem LnSt.app {n : Int} (h : LnSt w tv xs q st pf fv fs W) (ho : RowI W2 fv2 (fs ++ [n])) (ht : Touch (blk fv) W W2) (hf : From W fv fv2) : LnSt w tv xs q st pf fv2 (fs ++ [n]) (W2.setCell ⟨q, 2, none⟩ fv2) := by
  have h2 := h.nl
  have hd2 : LsSt w tv xs W2 := by
    refine h.d.aside ht (fun g hg hm => ?_) (fun x hx g hg hm => ?_) (fun m hm => ?_)
    · have := h.fn _ hm; have := h.tl g hg; omega
    · have := h.fn _ hm; have := h.xl x hx g hg; omega
    · have := h.fn _ hm; omega
  have hb2 : Blk W2 q 91 #[.int .i64 st, .int .i64 pf, fv] := h.bk.touch ht (fun hm => by have := h.fn _ hm; omega)
  have hfn2 : ∀ g ∈ blk fv2, q < g := fun g hg => by
    rcases hf g hg with e | e
    · exact h.fn g e
    · have := h.bk.lt; omega
  have ht2 : Touch [q] W2 (W2.setCell ⟨q, 2, none⟩ fv2) := (Touch.refl _ _).setCell (.inl (by simp)) _
  refine ⟨?_, by simpa using hb2.set_ 2 fv2, Own.touch ho ht2 (fun g hg hm => by have := hfn2 g hg; simp at hm; omega), hfn2, h.xl, h.tl, h.nl⟩
  refine hd2.aside ht2 (fun g hg hm => ?_) (fun x hx g hg hm => ?_) (fun m hm => ?_)
  · have := h.tl g hg; simp at hm; omega
  · have := h.xl x hx g hg; simp at hm; omega
  · simp at hm; omega
end
def RDecRel (w : World) (L : List UInt8) (n : Nat) (res : Except Int (List Bd × Nat)) (ta te tv ti : Value) (wr : World) : Prop :=
  ∃ (k a : Nat) (xs : List Bx), k ≤ n ∧ ti = .int .i64 k ∧ ta = .int .i64 a ∧ te = .int .i64 0 ∧ xs.length = k ∧ a ≤ L.length ∧ LsSt w tv xs wr ∧ res = contX (xs.map Bx.data) (pBids L (n - k) a)
def RFbRel (w : World) (L : List UInt8) (tv : Value) (xs : List Bx) (q : Nat) (st pf : Int) (n : Nat) (res : Except Int (List Int × Nat)) (ta te tj : Value) (wr : World) : Prop :=
  ∃ (j aa : Nat) (ee : Int) (fs : List Int) (fv : Value), j ≤ n ∧ tj = .int .i64 j ∧ ta = .int .i64 aa ∧ te = .int .i64 ee ∧ fs.length = j ∧ aa ≤ L.length ∧ LnSt w tv xs q st pf fv fs wr ∧ (ee = 0 → res = contX fs (pNums L (n - j) aa)) ∧ (ee ≠ 0 → res = .error ee) ∧ ∀ m ∈ fs, Fits m
theorem RFbRel.next {w W : World} {L : List UInt8} {tv : Value} {xs : List Bx} {q : Nat} {st pf : Int} {n j aa : Nat} {ee : Int} {res : Except Int (List Int × Nat)} {fs : List Int} {x : Int} {fv2 : Value} (hj : j < n) (hfl : fs.length = j) (ha : aa ≤ L.length)
    (hin : LnSt w tv xs q st pf fv2 (fs ++ [x]) W) (n0 : ee = 0 → res = contX (fs ++ [x]) (pNums L (n - (j + 1)) aa)) (n1 : ee ≠ 0 → res = .error ee) (hff : ∀ z ∈ fs, Fits z) (n2 : Fits x) :
    RFbRel w L tv xs q st pf n res (.int .i64 aa) (.int .i64 ee) (.int .i64 ((j : Int) + 1)) W :=
  ⟨j + 1, aa, ee, fs ++ [x], fv2, hj, by go_num, rfl, rfl, by rw [List.length_append, hfl]; rfl, ha, hin, n0, n1, fun z hz => by rcases List.mem_append.1 hz with hz | hz; exact hff z hz; rw [List.mem_singleton.1 hz]; exact n2⟩

set_option maxRecDepth 100000 in
set_option maxHeartbeats 8000000 in
theorem rdecode_any (v : Value) (L : List UInt8) (w : World) (hv : Bytes w v L) (hl : L.length ≤ 100000) : Calls Try.prog 72 #[v] w (DecPost w (decOf L)) := by
  have HER := Lib.hid (fun (w' : World) (k : Int) => DecPost.err (w := w) (w' := w') (d := decOf L) (k := k))
  have HOK := Lib.hid (fun (w' : World) (v' : Value) (xs : List Bx) => DecPost.ok (w := w) (w' := w') (d := decOf L) (v := v') (xs := xs))
  have HDO : Hid (decOf L = match pCount L 512 0 with
    | .error k => (k, [])
    | .ok c => match pBids L c.1.toNat c.2 with
      | .error k => (k, [])
      | .ok y => if y.2 < L.length then (5, []) else if bidsB (y.1.map Bd.bx) then (0, y.1) else (6, [])) := Lib.hid rfl
  generalize hP : DecPost w (decOf L) = Post at *
  generalize decOf L = dec at *
  clear hP
  obtain ⟨A, cap, hvf, -⟩ := id hv
  have HUG := Lib.hid (fun (W : World) (ht : Touch [] w W) (a : Nat) (ha : a ≤ L.length) => ug_any v L a W (Reads.touch0 hv ht) hl (by omega))
  have HCN := Lib.hid (fun (W : World) (ht : Touch [] w W) (a : Nat) (ha : a ≤ L.length) (lim : Int) (hlim : 0 ≤ lim) => count30_any v L a lim W (Reads.touch0 hv ht) hl (by omega) hlim)
  subst hvf
  clear hv
  have hc0 := HCN.out w (Touch.refl _ _) 0 (by omega) 512 (by omega)
  cases hc : pCount L 512 0 with
  | error k0 =>
    rw [hc] at hc0
    have hd : dec = (k0, []) := by rw [HDO.out, hc]
    have hk0 := pCount_err hc
    have bk : (k0 != 0) = true := by simpa using hk0
    have HD := Lib.hid hd
    have HC0 := Lib.hid hc0
    clear hd hc HDO hk0 hc0
    go_enter Try.func72, Try.ntmps72
    go_wp2_with fail
    refine HC0.out.mono ?_
    rintro r w' ⟨rfl, rfl⟩
    go_wp2_with fail
    exact HER.out _ _ HD.out (Touch.refl _ _)
  | ok c =>
  rw [hc] at hc0
  obtain ⟨c1, c2, c3, c4, c5⟩ := pCount_ok hc
  obtain ⟨n, hn⟩ : ∃ n : Nat, c.1 = (n : Int) := ⟨c.1.toNat, by omega⟩
  have hd : dec = match pBids L n c.2 with
      | .error k => (k, [])
      | .ok y => if y.2 < L.length then (5, []) else if bidsB (y.1.map Bd.bx) then (0, y.1) else (6, []) := by rw [HDO.out, hc]; simp only; rw [hn]; rfl
  have hn2 : n ≤ 512 := by omega
  obtain ⟨res, hres⟩ : ∃ res, res = pBids L n c.2 := ⟨_, rfl⟩
  rw [← hres] at hd
  have HR0 : Hid (res = contX (List.map Bx.data []) (pBids L (n - 0) c.2)) := Lib.hid (by rw [List.map_nil, contX_nil, hres]; rfl)
  have HD := Lib.hid hd
  unfold CntPost at hc0
  simp only at hc0
  rw [hn] at hc0
  have HC0 := Lib.hid hc0
  clear hd hc HDO hn c1 c2 c3 c4 hres hc0
  have hst : LsSt w (.slice none 0 0) [] w := ⟨Own.nil _ _ _, by simp, Touch.refl _ _, by simp [blk]⟩
  go_enter Try.func72, Try.ntmps72
  go_wp2_with fail
  refine HC0.out.mono ?_
  rintro r w' ⟨rfl, rfl⟩
  go_wp2_with fail
  go_loopw [5, 6, 7, 8] (fun ta te tv ti wr => RDecRel w L n res ta te tv ti wr) (fun _ _ _ ti _ => n - (intOf ti).toNat)
  case atStart => exact ⟨0, c.2, [], by omega, rfl, rfl, rfl, rfl, c5, hst, HR0.out⟩
  case round =>
    clear hst
    obtain ⟨k, a, xs, hk, rfl, rfl, rfl, hxl, haL, hst, hres⟩ := hrel
    have HRS := Lib.hid hres
    have HXL := Lib.hid hxl
    clear hres hxl
    by_cases hlt : k < n
    case neg =>
      have hlt' : ¬ (k : Int) < (n : Int) := by omega
      obtain rfl : k = n := by omega
      have hr1 : res = .ok (xs.map Bx.data, a) := by rw [HRS.out, Nat.sub_self]; simp [pBids, contX]
      have hd1 : dec = if a < L.length then (5, []) else if bidsB ((xs.map Bx.data).map Bd.bx) then (0, xs.map Bx.data) else (6, []) := by rw [HD.out, hr1]
      rw [← bidsB_data] at hd1
      have HD1 := Lib.hid hd1
      have hbd := hst.bids
      have htt := hst.touch
      clear hr1 hd1 hst
      by_cases haq : a < L.length
      · have haq' : (a : Int) < (L.length : Int) := by omega
        have hd2 : dec = (5, []) := by rw [HD1.out, if_pos haq]
        have HD2 := Lib.hid hd2
        clear hd2
        go_wp2_with fail
        exact HER.out _ _ HD2.out htt
      · have haq' : ¬ (a : Int) < (L.length : Int) := by omega
        have hd2 : dec = if bidsB xs then (0, xs.map Bx.data) else (6, []) := by rw [HD1.out, if_neg haq]
        have HVB := Lib.hid (rvalidbids_any _ xs wr hbd)
        generalize bidsB xs = bb at *
        have HD2 := Lib.hid hd2
        clear hd2 HD1
        go_wp2_with fail
        refine HVB.out.mono ?_
        rintro r w5 ⟨rfl, ht5⟩
        have hbd5 := hbd.touch0 ht5
        cases bb with
        | false =>
          go_wp2_with fail
          exact HER.out _ _ HD2.out (htt.then0 ht5)
        | true =>
          go_wp2_with fail
          exact HOK.out _ _ _ HD2.out hbd5 (htt.then0 ht5)
    have hlt' : (k : Int) < (n : Int) := by omega
    have HBAD : Hid (∀ ee, pBid L a = .error ee → dec = (ee, [])) := Lib.hid (fun ee h => by
      rw [HD.out, HRS.out, show n - k = (n - (k + 1)) + 1 by omega, bids_badX h])
    have hin := LnSt.new hst
    clear hst
    have HPB : Hid (pBid L a = match pUint L a with
      | .error k => .error k
      | .ok s => match pUint L s.2 with
        | .error k => .error k
        | .ok p => match pCount L 3 p.2 with
          | .error k => .error k
          | .ok c => match pNums L c.1.toNat c.2 with
            | .error k => .error k
            | .ok f => .ok ((s.1, p.1, f.1), f.2)) := Lib.hid rfl
    have hu1 := HUG.out _ hin.d.touch a haL
    generalize hq : wr.heap.size = q at *
    have HQ := Lib.hid hq
    clear hq
    obtain ⟨wa, hwa⟩ : ∃ wa, wa = wr.alloc (.cells #[.int .i64 0, .int .i64 0, .slice none 0 0] 91) := ⟨_, rfl⟩
    rw [← hwa] at hin hu1
    have f0 := hin.bk.frozen 0
    have k0 := hin.bk.cell 0
    simp at k0
    have HWA := Lib.hid hwa
    clear hwa
    cases g1 : pUint L a with
    | error e1 =>
      rw [g1] at hu1 HPB
      have HU1 := Lib.hid hu1
      have hpb := HBAD.out e1 HPB.out
      have hne := pUint_err g1
      have b1 : (e1 == 0) = false := by simpa using hne
      have b2 : (e1 != 0) = true := by simpa using hne
      have HDD := Lib.hid hpb
      have htt := (hin.put0 0).d.touch
      clear hu1 g1 hne hpb
      go_wp2_with fail
      rw [← HWA.out]
      refine HU1.out.mono ?_
      rintro r w' ⟨rfl, rfl⟩
      rw [HQ.out]
      go_wp2_with fail
      refine wp_loop_rounds 1 ?_
      rw [rounds_succ]
      go_wp2_with fail
      exact HER.out _ _ HDD.out htt
    | ok x1 =>
    rw [g1] at hu1 HPB
    have HU1 := Lib.hid hu1
    have fx1 : Fits x1.1 := ⟨by have := (canon_uint g1).1; omega, pUint_le g1⟩
    have ha1 := (pUint_at g1).2
    have hin1 := hin.put0 x1.1
    clear hu1 g1 hin
    simp only at HPB
    obtain ⟨wb, hwb⟩ : ∃ wb, wb = wa.setCell ⟨q, 0, none⟩ (.int .i64 x1.1) := ⟨_, rfl⟩
    rw [← hwb] at hin1
    have HWB := Lib.hid hwb
    clear hwb
    have hu2 := HUG.out _ hin1.d.touch x1.2 ha1
    have f1 := hin1.bk.frozen 1
    have k1 := hin1.bk.cell 1
    simp at k1
    cases g2 : pUint L x1.2 with
    | error e1 =>
      rw [g2] at hu2 HPB
      have HU2 := Lib.hid hu2
      have hpb := HBAD.out e1 HPB.out
      have hne := pUint_err g2
      have b1 : (e1 == 0) = false := by simpa using hne
      have b2 : (e1 != 0) = true := by simpa using hne
      have HDD := Lib.hid hpb
      have htt := (hin1.put1 0).d.touch
      clear hu2 g2 hne hpb
      go_wp2_with fail
      rw [← HWA.out]
      refine HU1.out.mono ?_
      rintro r w' ⟨rfl, rfl⟩
      rw [HQ.out]
      go_wp2_with fail
      rw [← HWB.out]
      refine HU2.out.mono ?_
      rintro r w' ⟨rfl, rfl⟩
      go_wp2_with fail
      refine wp_loop_rounds 1 ?_
      rw [rounds_succ]
      go_wp2_with fail
      exact HER.out _ _ HDD.out htt
    | ok x2 =>
    rw [g2] at hu2 HPB
    have HU2 := Lib.hid hu2
    have fx2 : Fits x2.1 := ⟨by have := (canon_uint g2).1; omega, pUint_le g2⟩
    have ha2 := (pUint_at g2).2
    have hin2 := hin1.put1 x2.1
    clear hu2 g2 hin1
    simp only at HPB
    obtain ⟨wc, hwc⟩ : ∃ wc, wc = wb.setCell ⟨q, 1, none⟩ (.int .i64 x2.1) := ⟨_, rfl⟩
    rw [← hwc] at hin2
    have HWC := Lib.hid hwc
    clear hwc
    have hu3 := HCN.out _ hin2.d.touch x2.2 ha2 3 (by omega)
    cases g3 : pCount L 3 x2.2 with
    | error e1 =>
      rw [g3] at hu3 HPB
      have HU3 := Lib.hid hu3
      have hpb := HBAD.out e1 HPB.out
      have hne := pCount_err g3
      have b1 : (e1 == 0) = false := by simpa using hne
      have b2 : (e1 != 0) = true := by simpa using hne
      have HDD := Lib.hid hpb
      have htt := hin2.d.touch
      clear hu3 g3 hne hpb
      go_wp2_with fail
      rw [← HWA.out]
      refine HU1.out.mono ?_
      rintro r w' ⟨rfl, rfl⟩
      rw [HQ.out]
      go_wp2_with fail
      rw [← HWB.out]
      refine HU2.out.mono ?_
      rintro r w' ⟨rfl, rfl⟩
      go_wp2_with fail
      rw [← HWC.out]
      refine HU3.out.mono ?_
      rintro r w' ⟨rfl, rfl⟩
      go_wp2_with fail
      refine wp_loop_rounds 1 ?_
      rw [rounds_succ]
      go_wp2_with fail
      exact HER.out _ _ HDD.out htt
    | ok x3 =>
    rw [g3] at hu3 HPB
    obtain ⟨d1, d2, d3, d4, d5⟩ := pCount_ok g3
    obtain ⟨m, hm⟩ : ∃ m : Nat, x3.1 = (m : Int) := ⟨x3.1.toNat, by omega⟩
    have hm3 : m ≤ 3 := by omega
    unfold CntPost at hu3
    simp only at hu3 HPB
    rw [hm] at hu3 HPB
    rw [Int.toNat_natCast] at HPB
    obtain ⟨nres, hnres⟩ : ∃ nres, nres = pNums L m x3.2 := ⟨_, rfl⟩
    rw [← hnres] at HPB
    have HU3 := Lib.hid hu3
    have HN0 : Hid (nres = contX [] (pNums L (m - 0) x3.2)) := Lib.hid (by rw [contX_nil, hnres]; rfl)
    have HFX1 := Lib.hid fx1
    have HFX2 := Lib.hid fx2
    clear hu3 g3 d1 d2 d3 d4 hm hnres fx1 fx2
    go_wp2_with fail
    rw [← HWA.out]
    refine HU1.out.mono ?_
    rintro r w' ⟨rfl, rfl⟩
    rw [HQ.out]
    go_wp2_with fail
    rw [← HWB.out]
    refine HU2.out.mono ?_
    rintro r w' ⟨rfl, rfl⟩
    go_wp2_with fail
    rw [← HWC.out]
    refine HU3.out.mono ?_
    rintro r w' ⟨rfl, rfl⟩
    go_wp2_with fail
    clear f0 k0 f1 k1 HU1 HU2 HU3 HWA HWB HWC
    generalize x1.1 = st at *
    generalize x2.1 = pf at *
    go_loopw [5, 6, 11] (fun ta te tj wr2 => RFbRel w L _ xs q st pf m nres ta te tj wr2) (fun _ _ tj _ => m - (intOf tj).toNat)
    case atStart => exact ⟨0, x3.2, 0, [], _, by omega, rfl, rfl, rfl, rfl, d5, hin2, fun _ => HN0.out, fun h => absurd rfl h, by simp⟩
    case round =>
      clear hin2
      obtain ⟨j, aa, ee, fs, fv, hj, rfl, rfl, rfl, hfl, haa, hin, e0, e1, hff⟩ := hrel
      have HE0 := Lib.hid e0
      have HE1 := Lib.hid e1
      have HFL := Lib.hid hfl
      have HFF := Lib.hid hff
      clear e0 e1 hfl hff
      by_cases hee : ee = 0
      case neg =>
        have b1 : (ee == 0) = false := by simpa using hee
        have b2 : (ee != 0) = true := by simpa using hee
        have hpb : pBid L a = .error ee := by rw [HPB.out, HE1.out hee]
        have HDD := Lib.hid (HBAD.out ee hpb)
        have htt := hin.d.touch
        clear hpb hee hin HE0 HE1
        by_cases hjm : j < m
        · have hjm' : (j : Int) < (m : Int) := by omega
          go_wp2_with fail
          exact HER.out _ _ HDD.out htt
        · have hjm' : ¬ (j : Int) < (m : Int) := by omega
          have djm : decide ((j : Int) < (m : Int)) = false := by simpa using hjm'
          go_wp2_with fail
          exact HER.out _ _ HDD.out htt
      have HEZ := Lib.hid hee
      subst hee
      have e0 := HE0.out rfl
      have HE := Lib.hid e0
      clear e0 HE0 HE1 HEZ
      by_cases hjm : j < m
      · have hjm' : (j : Int) < (m : Int) := by omega
        have hu4 := HUG.out _ hin.d.touch aa haa
        have hfs3 : fs.length ≤ 3 := by rw [HFL.out]; omega
        have kb2 := hin.bk.cell 2
        simp at kb2
        cases g4 : pUint L aa with
        | error e4 =>
          rw [g4] at hu4
          have hnr : nres = .error e4 := by rw [HE.out, show m - j = (m - (j + 1)) + 1 by omega, nums_bad g4]
          have HU4 := Lib.hid hu4
          have HNR := Lib.hid hnr
          have hne := pUint_err g4
          have HNE := Lib.hid hne
          clear hu4 g4 hnr hne
          go_wp2_with fail
          refine HU4.out.mono ?_
          rintro r w' ⟨rfl, rfl⟩
          go_wp2_with (at_builtin; go_must (refine app_new elem_int hin.fr [Value.int .i64 0] 1 1 (by omega) (by unfold maxLen; omega) ?_); intro v3 u3 ho3 ht3 hf3; have hrow3 : RowI u3 v3 (fs ++ [0]) := RowI.snoc ho3; have hinF := hin.app hrow3 ht3 hf3; have kq := (hin.bk.touch ht3 (fun hm => by have := hin.fn _ hm; omega)); have kc := kq.cell 2; have kf := kq.frozen 2; simp at kc; obtain ⟨A3, c3, hv3⟩ := Own.form ho3; subst hv3)
          go_roundw
          case rel => exact RFbRel.next hjm HFL.out haa hinF (fun h => absurd h HNE.out) (fun _ => HNR.out) HFF.out (fit_near (by omega) (by omega))
          case measure => simp [intOf]; omega
        | ok x4 =>
          rw [g4] at hu4
          have hnr : nres = contX (fs ++ [x4.1]) (pNums L (m - (j + 1)) x4.2) := by rw [HE.out, show m - j = (m - (j + 1)) + 1 by omega, nums_step g4]
          have HU4 := Lib.hid hu4
          have HNR := Lib.hid hnr
          have ha4 := (pUint_at g4).2
          have HF4 : Hid (Fits x4.1) := Lib.hid ⟨by have := (canon_uint g4).1; omega, pUint_le g4⟩
          clear hu4 g4 hnr
          go_wp2_with fail
          refine HU4.out.mono ?_
          rintro r w' ⟨rfl, rfl⟩
          generalize x4.1 = y4 at *
          generalize x4.2 = a4 at *
          go_wp2_with (at_builtin; go_must (refine app_new elem_int hin.fr [Value.int .i64 y4] 1 1 (by omega) (by unfold maxLen; omega) ?_); intro v3 u3 ho3 ht3 hf3; have hrow3 : RowI u3 v3 (fs ++ [y4]) := RowI.snoc ho3; have hinF := hin.app hrow3 ht3 hf3; have kq := (hin.bk.touch ht3 (fun hm => by have := hin.fn _ hm; omega)); have kc := kq.cell 2; have kf := kq.frozen 2; simp at kc; obtain ⟨A3, c3, hv3⟩ := Own.form ho3; subst hv3)
          go_roundw
          case rel => exact RFbRel.next hjm HFL.out ha4 hinF (fun _ => HNR.out) (fun h => absurd rfl h) HFF.out HF4.out
          case measure => simp [intOf]; omega
      · have hjm' : ¬ (j : Int) < (m : Int) := by omega
        have djm : decide ((j : Int) < (m : Int)) = false := by simpa using hjm'
        obtain rfl : j = m := by omega
        have hnr : nres = .ok (fs, aa) := by rw [HE.out, Nat.sub_self]; simp [pNums, contX]
        have hbx : BxOk wr ⟨st, pf, fv, fs⟩ := ⟨hin.fr, HFX1.out, HFX2.out, HFF.out⟩
        have hpb2 : pBid L a = .ok ((st, pf, fs), aa) := by rw [HPB.out, hnr]
        have hnext : res = contX ((xs ++ [(⟨st, pf, fv, fs⟩ : Bx)]).map Bx.data) (pBids L (n - (k + 1)) aa) := by
          rw [HRS.out, show n - k = (n - (k + 1)) + 1 by omega, bids_step hpb2, List.map_append]
          rfl
        have HNE := Lib.hid hnext
        have hd0 := hin.d
        have b0 := hin.bk.cell 0
        have b1 := hin.bk.cell 1
        have b2 := hin.bk.cell 2
        simp at b0 b1 b2
        obtain ⟨Af, cf, hfv⟩ := Own.form hin.fr
        have hxk : xs.length ≤ 512 := by rw [HXL.out]; omega
        clear hin hnr hpb2 hnext
        subst hfv
        go_wp2_with (at_builtin; go_must (refine app_new elem_bid hd0.own [Value.int .i64 st, .int .i64 pf, .slice Af fs.length cf] 1 1 (by omega) (by unfold maxLen; omega) ?_); intro v10 w10 ho10 ht10 hf10)
        have hfin := hd0.push hbx ho10 ht10 hf10
        go_roundw
        case rel => exact ⟨k + 1, aa, _, by omega, by go_num, rfl, rfl, by rw [List.length_append, HXL.out]; rfl, haa, hfin, HNE.out⟩
        case measure => simp [intOf]; omega
end Go.Proofs.Ytpbknnkobhjjcaa
