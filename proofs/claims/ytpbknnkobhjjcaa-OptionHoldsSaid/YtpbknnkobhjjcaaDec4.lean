/- The list of bids of an encoding. -/
import Derived.Test.YtpbknnkobhjjcaaDec3
namespace Go.Proofs.Ytpbknnkobhjjcaa
open Go.RowKit
set_option linter.unusedSimpArgs false

def DecPost (w : World) (d : Int × List Bd) (r : Ending) (w' : World) : Prop := ∃ v xs, r = .returned (.tuple #[v, .int .i64 d.1]) ∧ Bids w' v xs ∧ xs.map Bx.data = d.2 ∧ Touch [] w w'
theorem DecPost.err {w w' : World} {d : Int × List Bd} {k : Int} (h : d = (k, [])) (ht : Touch [] w w') : DecPost w d (.returned (.tuple #[.slice none 0 0, .int .i64 k])) w' := by
  subst h
  exact ⟨_, [], rfl, ⟨Reads.nil _ _, by simp⟩, rfl, ht⟩
theorem DecPost.ok {w w' : World} {d : Int × List Bd} {v : Value} {xs : List Bx} (h : d = (0, xs.map Bx.data)) (hb : Bids w' v xs) (ht : Touch [] w w') : DecPost w d (.returned (.tuple #[v, .int .i64 0])) w' := by
  subst h
  exact ⟨_, xs, rfl, hb, rfl, ht⟩
theorem DecSt.bids {w W : World} {N pr : Nat} {inp : Value} {L : List UInt8} {s : Int × Nat} {tv : Value} {xs : List Bx} (h : DecSt w N pr inp L s tv xs W) : Bids W tv xs := ⟨Own.reads h.own, fun x hx => (h.fbs x hx).ok⟩

def DecRel (w : World) (N pr : Nat) (inp : Value) (L : List UInt8) (n : Nat) (res : Except Int (List Bd × Nat)) (tv ti : Value) (wr : World) : Prop :=
  ∃ (k a : Nat) (xs : List Bx), k ≤ n ∧ ti = .int .i64 k ∧ xs.length = k ∧ DecSt w N pr inp L (0, a) tv xs wr ∧ res = contX (xs.map Bx.data) (pBids L (n - k) a)
def FbRel (w : World) (N pr : Nat) (inp : Value) (L : List UInt8) (tv : Value) (xs : List Bx) (q : Nat) (st pf : Int) (n : Nat) (res : Except Int (List Int × Nat)) (tj : Value) (wr : World) : Prop :=
  ∃ (j : Nat) (fs : List Int) (s : Int × Nat) (fv : Value), j ≤ n ∧ tj = .int .i64 j ∧ fs.length = j ∧ InSt w N pr inp L s tv xs q st pf fv fs wr ∧ (s.1 = 0 → res = contX fs (pNums L (n - j) s.2)) ∧ (s.1 ≠ 0 → res = .error s.1) ∧ ∀ m ∈ fs, Fits m
theorem FbRel.next {w W : World} {N pr : Nat} {inp : Value} {L : List UInt8} {tv : Value} {xs : List Bx} {q : Nat} {st pf : Int} {n j : Nat} {res : Except Int (List Int × Nat)} {fs : List Int} {x : Int} {s' : Int × Nat} {fv2 : Value} (hj : j < n) (hfl : fs.length = j)
    (hin : InSt w N pr inp L s' tv xs q st pf fv2 (fs ++ [x]) W) (n0 : s'.1 = 0 → res = contX (fs ++ [x]) (pNums L (n - (j + 1)) s'.2)) (n1 : s'.1 ≠ 0 → res = .error s'.1) (hff : ∀ z ∈ fs, Fits z) (n2 : Fits x) :
    FbRel w N pr inp L tv xs q st pf n res (.int .i64 ((j : Int) + 1)) W :=
  ⟨j + 1, fs ++ [x], s', fv2, hj, by go_num, by rw [List.length_append, hfl]; rfl, hin, n0, n1, fun z hz => by rcases List.mem_append.1 hz with hz | hz; exact hff z hz; rw [List.mem_singleton.1 hz]; exact n2⟩
/-- What the head of a bid has come to, and what its numbers will come to. -/
theorem head_join (L : List UInt8) (a : Nat) (s1 s2 s3 : Int × Nat) (st pf n : Int) (h1 : rRead 0 (pUint L) (0, a) = (st, s1)) (h2 : rRead 0 (pUint L) s1 = (pf, s2)) (h3 : rRead 0 (pCount L 3) s2 = (n, s3)) :
    ∃ (m : Nat) (res : Except Int (List Int × Nat)), n = (m : Int) ∧ m ≤ 3 ∧ Fits st ∧ Fits pf ∧ (s3.1 = 0 → res = contX [] (pNums L m s3.2)) ∧ (s3.1 ≠ 0 → res = .error s3.1) ∧ pBid L a = match res with
        | .error k => .error k
        | .ok f => .ok ((st, pf, f.1), f.2) := by
  rcases bid_head L a s1 s2 s3 st pf n h1 h2 h3 with ⟨e1, rfl, e3, e4, e5⟩ | ⟨e1, e2, e3, e4, e5, e6⟩
  · exact ⟨0, .error s3.1, rfl, by omega, e4, e5, fun h => absurd h e1, fun _ => rfl, e3⟩
  · exact ⟨n.toNat, pNums L n.toNat s3.2, by omega, by omega, e4, e5, fun _ => by rw [contX_nil], fun h => absurd e1 h, e6⟩

set_option maxRecDepth 100000 in
set_option maxHeartbeats 8000000 in
theorem decode_any (v : Value) (L : List UInt8) (w : World) (hv : Bytes w v L) (hl : L.length ≤ 100000) : Calls Try.prog 71 #[v] w (DecPost w (decOf L)) := by
  have HER := Lib.hid (fun (w' : World) (k : Int) => DecPost.err (w := w) (w' := w') (d := decOf L) (k := k))
  have HOK := Lib.hid (fun (w' : World) (v' : Value) (xs : List Bx) => DecPost.ok (w := w) (w' := w') (d := decOf L) (v := v') (xs := xs))
  have HDO : Hid (decOf L = match pCount L 512 0 with
    | .error k => (k, [])
    | .ok c => match pBids L c.1.toNat c.2 with
      | .error k => (k, [])
      | .ok y => if y.2 < L.length then (5, []) else if bidsB (y.1.map Bd.bx) then (0, y.1) else (6, [])) := Lib.hid rfl
  generalize hP : DecPost w (decOf L) = Post at *
  generalize decOf L = dec at *
  clear hP
  obtain ⟨A, cap, hvf, -⟩ := id hv
  have HRD := Lib.hid (read_any v L w hv (by omega))
  subst hvf
  clear hv
  cases hc : pCount L 512 0 with
  | error k0 =>
    have hr : rRead 0 (pCount L 512) (0, 0) = (0, (k0, 0)) := by unfold rRead; rw [if_pos rfl, hc]
    have hd : dec = (k0, []) := by rw [HDO.out, hc]
    have hk0 := pCount_err hc
    have hre : rEnd L k0 0 = k0 := by unfold rEnd; rw [if_neg hk0]
    have bk : (k0 != 0) = true := by simpa using hk0
    have HRR := Lib.hid hr
    have HD := Lib.hid hd
    have HRE := Lib.hid hre
    clear hr hd hre hc HDO hk0
    go_enter Try.func71, Try.ntmps71
    go_wp2_with fail
    refine HRD.out.mono ?_
    rintro r w1 ⟨p2, in2, rfl, hp2, -, hr2, ht2⟩
    go_wp2_with fail
    refine (rd_count _ _ _ (0, 0) 512 _ hr2).mono ?_
    rintro r w3 ⟨rfl, hr3, ht3⟩
    rw [HRR.out] at hr3 ⊢
    simp only at hr3 ⊢
    go_wp2_with fail
    refine wp_loop_rounds 1 ?_
    rw [rounds_succ]
    go_wp2_with fail
    refine (rd_end _ _ _ _ _ _ hr3).mono ?_
    rintro r w4 ⟨rfl, n4, rfl⟩
    rw [HRE.out]
    go_wp2_with fail
    exact HER.out _ _ HD.out ((ht2.step ht3 (by simp; omega)).drewN n4)
  | ok c =>
  obtain ⟨c1, c2, c3, c4, c5⟩ := pCount_ok hc
  obtain ⟨n, hn⟩ : ∃ n : Nat, c.1 = (n : Int) := ⟨c.1.toNat, by omega⟩
  have hr : rRead 0 (pCount L 512) (0, 0) = ((n : Int), (0, c.2)) := by unfold rRead; rw [if_pos rfl, hc]; simp only; rw [hn]
  have HRR := Lib.hid hr
  have hd : dec = match pBids L n c.2 with
      | .error k => (k, [])
      | .ok y => if y.2 < L.length then (5, []) else if bidsB (y.1.map Bd.bx) then (0, y.1) else (6, []) := by rw [HDO.out, hc]; simp only; rw [hn]; rfl
  have hn2 : n ≤ 512 := by omega
  obtain ⟨res, hres⟩ : ∃ res, res = pBids L n c.2 := ⟨_, rfl⟩
  rw [← hres] at hd
  have HR0 : Hid (res = contX (List.map Bx.data []) (pBids L (n - 0) c.2)) := Lib.hid (by rw [List.map_nil, contX_nil, hres]; rfl)
  have HD := Lib.hid hd
  clear hr hd hc HDO hn c1 c2 c3 c4 c5 hres
  go_enter Try.func71, Try.ntmps71
  go_wp2_with fail
  refine HRD.out.mono ?_
  rintro r w1 ⟨p2, in2, rfl, hp2, -, hr2, ht2⟩
  have hpl := hr2.1.lt
  have hil := hr2.2.2.2.2.1
  have hst0 : DecSt w w1.heap.size p2 in2 L (0, 0) (.slice none 0 0) [] w1 := ⟨hr2, Own.nil _ _ _, by simp, ht2, hp2, hpl, hil, by simp [blk], Nat.le_refl _⟩
  clear hr2 ht2 hil
  go_wp2_with fail
  refine (rd_count _ _ _ (0, 0) 512 _ hst0.rd).mono ?_
  rintro r w3 ⟨rfl, hr3, ht3⟩
  rw [HRR.out] at hr3 ⊢
  simp only at hr3 ⊢
  have hst := hst0.read (s' := (0, c.2)) hr3 ht3
  clear hst0 hr3 ht3
  generalize w1.heap.size = N at *
  go_wp2_with fail
  go_loopw [5, 13] (fun tv ti wr => DecRel w N p2 in2 L n res tv ti wr) (fun _ ti _ => n - (intOf ti).toNat)
  case atStart => exact ⟨0, c.2, [], by omega, rfl, rfl, hst, HR0.out⟩
  case round =>
    clear hst
    obtain ⟨k, a, xs, hk, rfl, hxl, hst, hres⟩ := hrel
    have HRS := Lib.hid hres
    have HXL := Lib.hid hxl
    clear hres hxl
    by_cases hlt : k < n
    case neg =>
      have hlt' : ¬ (k : Int) < (n : Int) := by omega
      obtain rfl : k = n := by omega
      have hr1 : res = .ok (xs.map Bx.data, a) := by rw [HRS.out, Nat.sub_self]; simp [pBids, contX]
      have hd1 : dec = if a < L.length then (5, []) else if bidsB ((xs.map Bx.data).map Bd.bx) then (0, xs.map Bx.data) else (6, []) := by rw [HD.out, hr1]
      rw [← bidsB_data] at hd1
      have HD1 := Lib.hid hd1
      have hbd := hst.bids
      clear hr1 hd1
      go_wp2_with fail
      refine (rd_end _ _ _ _ _ _ hst.rd).mono ?_
      rintro r w4 ⟨rfl, n4, rfl⟩
      have htt := hst.touch.drewN n4
      have hbd4 := hbd.touch0 ((Touch.refl [] wr).drewN n4)
      generalize wr.drewN n4 = w4 at *
      by_cases haL : a < L.length
      · have he : rEnd L 0 a = 5 := by unfold rEnd; rw [if_pos rfl, if_pos haL]
        rw [he]
        have hd2 : dec = (5, []) := by rw [HD1.out, if_pos haL]
        have HD2 := Lib.hid hd2
        clear hd2 he
        go_wp2_with fail
        exact HER.out _ _ HD2.out htt
      · have he : rEnd L 0 a = 0 := by unfold rEnd; rw [if_pos rfl, if_neg haL]
        rw [he]
        have hd2 : dec = if bidsB xs then (0, xs.map Bx.data) else (6, []) := by rw [HD1.out, if_neg haL]
        have HVB := Lib.hid (validbids_any _ xs w4 hbd4)
        generalize bidsB xs = bb at *
        have HD2 := Lib.hid hd2
        clear hd2 he HD1
        go_wp2_with fail
        refine HVB.out.mono ?_
        rintro r w5 ⟨rfl, ht5⟩
        have hbd5 := hbd4.touch0 ht5
        cases bb with
        | false =>
          go_wp2_with fail
          exact HER.out _ _ HD2.out (htt.then0 ht5)
        | true =>
          go_wp2_with fail
          exact HOK.out _ _ _ HD2.out hbd5 (htt.then0 ht5)
    have hlt' : (k : Int) < (n : Int) := by omega
    have hin := InSt.new hst
    have hq : wr.heap.size = wr.heap.size := rfl
    clear hst hq
    generalize hq : wr.heap.size = q at *
    have HQ := Lib.hid hq
    clear hq
    have f0 := hin.bk.frozen 0
    have k0 := hin.bk.cell 0
    simp at k0
    go_wp2_with fail
    rw [HQ.out]
    obtain ⟨⟨st, s1⟩, h1⟩ : ∃ y, rRead 0 (pUint L) (0, a) = y := ⟨_, rfl⟩
    refine (rd_uint _ _ _ (0, a) _ hin.d.rd).mono ?_
    rintro r w4 ⟨rfl, hr4, ht4⟩
    rw [h1] at hr4 ⊢
    simp only at hr4 ⊢
    have hin4 := hin.read hr4 ht4
    clear hin hr4 ht4 f0 k0
    have f0 := hin4.bk.frozen 0
    have k0 := hin4.bk.cell 0
    simp at k0
    go_wp2_with fail
    have hin5 := hin4.put0 st
    clear hin4 f0 k0
    generalize w4.setCell ⟨q, 0, none⟩ (.int .i64 st) = w5 at *
    obtain ⟨⟨pf, s2⟩, h2⟩ : ∃ y, rRead 0 (pUint L) s1 = y := ⟨_, rfl⟩
    refine (rd_uint _ _ _ s1 _ hin5.d.rd).mono ?_
    rintro r w6 ⟨rfl, hr6, ht6⟩
    rw [h2] at hr6 ⊢
    simp only at hr6 ⊢
    have hin6 := hin5.read hr6 ht6
    clear hin5 hr6 ht6
    have f1 := hin6.bk.frozen 1
    have k1 := hin6.bk.cell 1
    simp at k1
    go_wp2_with fail
    have hin7 := hin6.put1 pf
    clear hin6 f1 k1
    generalize w6.setCell ⟨q, 1, none⟩ (.int .i64 pf) = w7 at *
    obtain ⟨⟨nn, s3⟩, h3⟩ : ∃ y, rRead 0 (pCount L 3) s2 = y := ⟨_, rfl⟩
    refine (rd_count _ _ _ s2 3 _ hin7.d.rd).mono ?_
    rintro r w8 ⟨rfl, hr8, ht8⟩
    rw [h3] at hr8 ⊢
    simp only at hr8 ⊢
    have hin8 := hin7.read hr8 ht8
    clear hin7 hr8 ht8
    obtain ⟨m, nres, rfl, hm3, fst, fpf, g0, g1, hpb⟩ := head_join L a s1 s2 s3 st pf nn h1 h2 h3
    have HG0 := Lib.hid g0
    have HG1 := Lib.hid g1
    have HPB := Lib.hid hpb
    have HFS := Lib.hid fst
    have HFP := Lib.hid fpf
    clear h1 h2 h3 g0 g1 hpb fst fpf
    go_wp2_with fail
    obtain ⟨wo, hwo⟩ : ∃ wo : World, wo = wr := ⟨_, rfl⟩
    clear hwo
    go_loopw [23] (fun tj wr2 => FbRel w N p2 in2 L _ xs q st pf m nres tj wr2) (fun tj _ => m - (intOf tj).toNat)
    case atStart => exact ⟨0, [], s3, _, by omega, rfl, rfl, hin8, HG0.out, HG1.out, by simp⟩
    case round =>
      clear hin8
      obtain ⟨j, fs, s, fv, hj, rfl, hfl, hin, e0, e1, hff⟩ := hrel
      have HE0 := Lib.hid e0
      have HE1 := Lib.hid e1
      have HFL := Lib.hid hfl
      have HFF := Lib.hid hff
      clear e0 e1 hfl hff
      by_cases hjm : j < m
      · have hjm' : (j : Int) < (m : Int) := by omega
        obtain ⟨⟨x, s'⟩, hx⟩ : ∃ y, rRead 0 (pUint L) s = y := ⟨_, rfl⟩
        have HNX := Lib.hid (nums_next hjm hx HE0.out HE1.out)
        have HX := Lib.hid hx
        clear hx
        have hfs3 : fs.length ≤ 3 := by rw [HFL.out]; omega
        have kd : wr.drew.cell? ⟨q, 2, none⟩ = some fv := by have := hin.bk.cell 2; simpa using this
        go_wp2_with fail
        refine wp_region_held_drew (S := fun _ => True) (by kernel_rfl) trivial (fun hS => ?_)
        refine wpAnyH_take (i := 0) (v := ?_) rfl (by kernel_rfl) (by kernel_rfl) (by kernel_rfl) (fun _ _ _ h => h) (Or.inl ⟨by rfl, ?_⟩) hS ?_
        rotate_left
        · (intro W hSW; go_simp <;> with_reducible rfl)
        simp only [Act.put, List.setIfInBounds_toArray, List.set_cons_zero, List.set_cons_succ, List.getElem_toArray, List.getElem_cons_zero]
        refine wpAnyH_take (i := 2) (v := ?_) rfl (by kernel_rfl) (by kernel_rfl) (by kernel_rfl) (fun _ _ _ h => h) (Or.inl ⟨by rfl, ?_⟩) hS ?_
        rotate_left
        · (intro W hSW; go_simp <;> with_reducible rfl)
        simp only [Act.put, List.setIfInBounds_toArray, List.set_cons_zero, List.set_cons_succ, List.getElem_toArray, List.getElem_cons_succ, List.getElem_cons_zero]
        refine wpAnyH_ready (rs := [1, 3]) (by kernel_rfl) (by simp) (AllReadyH.cons rfl (fun K hK => ?_) (AllReadyH.cons rfl (fun K hK => ?_) AllReadyH.nil))
        · go_simp
          refine hK.out _ _ trivial (fun _ => ?_)
          clear hK K
          try simp only [Act.put, List.setIfInBounds_toArray, List.set_cons_zero, List.set_cons_succ, List.getElem_toArray, List.getElem_cons_succ, List.getElem_cons_zero]
          refine wpAnyH_ready (rs := [3]) (by kernel_rfl) (by simp) (AllReadyH.cons rfl (fun K hK => ?_) AllReadyH.nil)
          go_simp
          refine (rd_uint _ _ _ s _ (hin.d.rd.drewN 1)).mono ?_
          rintro r u1 ⟨rfl, hr1, ht1⟩
          rw [HX.out] at hr1 ⊢
          simp only at hr1 ⊢
          have hin1 := hin.read hr1 ⟨ht1.os, ht1.tape, ht1.output, ht1.size, ht1.block⟩
          have ku : u1.cell? ⟨q, 2, none⟩ = some fv := by have := hin1.bk.cell 2; simpa using this
          go_wp2_with fail
          refine hK.out _ _ trivial (fun _ => ?_)
          clear hK K
          try simp only [Act.put, List.setIfInBounds_toArray, List.set_cons_zero, List.set_cons_succ, List.getElem_toArray, List.getElem_cons_succ, List.getElem_cons_zero]
          refine wpAnyH_ready (rs := [4]) (by kernel_rfl) (by simp) (AllReadyH.cons rfl (fun K hK => ?_) AllReadyH.nil)
          go_simp
          refine hK.out _ _ trivial (fun _ => ?_)
          clear hK K
          try simp only [Act.put, List.setIfInBounds_toArray, List.set_cons_zero, List.set_cons_succ, List.getElem_toArray, List.getElem_cons_succ, List.getElem_cons_zero]
          have hta := (Touch.refl [] u1).alloc (.cells #[.int .i64 x] 3)
          have hin2 := hin1.touch0 hta
          have hrl := Reads.lit u1 3 (0, 0) [I x] 1 rfl (by simp [maxLen])
          refine wpAnyH_ready (rs := [5]) (by kernel_rfl) (by simp) (AllReadyH.cons rfl (fun K hK => ?_) AllReadyH.nil)
          refine step_app_reads elem_int hin2.fr hrl (by simp [Value.oneCell', I]) (by omega) (by unfold maxLen; omega) ?_
          intro v3 u3 ho3 ht3 hf3
          have hrow3 : RowI u3 v3 (fs ++ [x]) := RowI.snoc ho3
          have hinF := hin2.app hrow3 ht3 hf3
          have kq := (hin2.bk.touch ht3 (fun hm => by have := hin2.fn _ hm; omega))
          have kc := kq.cell 2
          have kf := kq.frozen 2
          simp at kc
          obtain ⟨A3, c3, hv3⟩ := Own.form ho3
          subst hv3
          refine hK.out _ _ trivial (fun _ => ?_)
          clear hK K
          try simp only [Act.put, List.setIfInBounds_toArray, List.set_cons_zero, List.set_cons_succ, List.getElem_toArray, List.getElem_cons_succ, List.getElem_cons_zero]
          refine wpAnyH_take (i := 6) (v := ?_) rfl (by kernel_rfl) (by kernel_rfl) (by kernel_rfl) (fun _ _ _ h => h) (Or.inl ⟨by rfl, ?_⟩) trivial ?_
          rotate_left
          · (intro W hSW; go_simp <;> with_reducible rfl)
          simp only [Act.put, List.setIfInBounds_toArray, List.set_cons_zero, List.set_cons_succ, List.getElem_toArray, List.getElem_cons_succ, List.getElem_cons_zero]
          refine wpAnyH_ready (rs := [7]) (by kernel_rfl) (by simp) (AllReadyH.cons rfl (fun K hK => ?_) AllReadyH.nil)
          go_simp
          refine hK.out _ _ trivial (fun _ => ?_)
          clear hK K
          try simp only [Act.put, List.setIfInBounds_toArray, List.set_cons_zero, List.set_cons_succ, List.getElem_toArray, List.getElem_cons_succ, List.getElem_cons_zero]
          refine wpAnyH_done (by kernel_rfl) ?_ _
          obtain ⟨n0, n1, n2⟩ := HNX.out
          have hrel := FbRel.next hjm HFL.out hinF n0 n1 HFF.out n2
          have HREL := Lib.hid hrel
          clear hrel n0 n1 n2 HNX
          go_wp2_with fail
          go_roundw
          case rel => exact HREL.out
          case measure => simp [intOf]; omega
        · go_simp
          refine (rd_uint _ _ _ s _ (hin.d.rd.drewN 1)).mono ?_
          rintro r u1 ⟨rfl, hr1, ht1⟩
          rw [HX.out] at hr1 ⊢
          simp only at hr1 ⊢
          have hin1 := hin.read hr1 ⟨ht1.os, ht1.tape, ht1.output, ht1.size, ht1.block⟩
          have ku : u1.cell? ⟨q, 2, none⟩ = some fv := by have := hin1.bk.cell 2; simpa using this
          go_wp2_with fail
          refine hK.out _ _ trivial (fun _ => ?_)
          clear hK K
          try simp only [Act.put, List.setIfInBounds_toArray, List.set_cons_zero, List.set_cons_succ, List.getElem_toArray, List.getElem_cons_succ, List.getElem_cons_zero]
          refine wpAnyH_ready (rs := [1, 4]) (by kernel_rfl) (by simp) (AllReadyH.cons rfl (fun K hK => ?_) (AllReadyH.cons rfl (fun K hK => ?_) AllReadyH.nil))
          · go_simp
            refine hK.out _ _ trivial (fun _ => ?_)
            clear hK K
            try simp only [Act.put, List.setIfInBounds_toArray, List.set_cons_zero, List.set_cons_succ, List.getElem_toArray, List.getElem_cons_succ, List.getElem_cons_zero]
            refine wpAnyH_ready (rs := [4]) (by kernel_rfl) (by simp) (AllReadyH.cons rfl (fun K hK => ?_) AllReadyH.nil)
            go_simp
            refine hK.out _ _ trivial (fun _ => ?_)
            clear hK K
            try simp only [Act.put, List.setIfInBounds_toArray, List.set_cons_zero, List.set_cons_succ, List.getElem_toArray, List.getElem_cons_succ, List.getElem_cons_zero]
            have hta := (Touch.refl [] u1).alloc (.cells #[.int .i64 x] 3)
            have hin2 := hin1.touch0 hta
            have hrl := Reads.lit u1 3 (0, 0) [I x] 1 rfl (by simp [maxLen])
            refine wpAnyH_ready (rs := [5]) (by kernel_rfl) (by simp) (AllReadyH.cons rfl (fun K hK => ?_) AllReadyH.nil)
            refine step_app_reads elem_int hin2.fr hrl (by simp [Value.oneCell', I]) (by omega) (by unfold maxLen; omega) ?_
            intro v3 u3 ho3 ht3 hf3
            have hrow3 : RowI u3 v3 (fs ++ [x]) := RowI.snoc ho3
            have hinF := hin2.app hrow3 ht3 hf3
            have kq := (hin2.bk.touch ht3 (fun hm => by have := hin2.fn _ hm; omega))
            have kc := kq.cell 2
            have kf := kq.frozen 2
            simp at kc
            obtain ⟨A3, c3, hv3⟩ := Own.form ho3
            subst hv3
            refine hK.out _ _ trivial (fun _ => ?_)
            clear hK K
            try simp only [Act.put, List.setIfInBounds_toArray, List.set_cons_zero, List.set_cons_succ, List.getElem_toArray, List.getElem_cons_succ, List.getElem_cons_zero]
            refine wpAnyH_take (i := 6) (v := ?_) rfl (by kernel_rfl) (by kernel_rfl) (by kernel_rfl) (fun _ _ _ h => h) (Or.inl ⟨by rfl, ?_⟩) trivial ?_
            rotate_left
            · (intro W hSW; go_simp <;> with_reducible rfl)
            simp only [Act.put, List.setIfInBounds_toArray, List.set_cons_zero, List.set_cons_succ, List.getElem_toArray, List.getElem_cons_succ, List.getElem_cons_zero]
            refine wpAnyH_ready (rs := [7]) (by kernel_rfl) (by simp) (AllReadyH.cons rfl (fun K hK => ?_) AllReadyH.nil)
            go_simp
            refine hK.out _ _ trivial (fun _ => ?_)
            clear hK K
            try simp only [Act.put, List.setIfInBounds_toArray, List.set_cons_zero, List.set_cons_succ, List.getElem_toArray, List.getElem_cons_succ, List.getElem_cons_zero]
            refine wpAnyH_done (by kernel_rfl) ?_ _
            obtain ⟨n0, n1, n2⟩ := HNX.out
            have hrel := FbRel.next hjm HFL.out hinF n0 n1 HFF.out n2
            have HREL := Lib.hid hrel
            clear hrel n0 n1 n2 HNX
            go_wp2_with fail
            go_roundw
            case rel => exact HREL.out
            case measure => simp [intOf]; omega
          · go_simp
            refine hK.out _ _ trivial (fun _ => ?_)
            clear hK K
            try simp only [Act.put, List.setIfInBounds_toArray, List.set_cons_zero, List.set_cons_succ, List.getElem_toArray, List.getElem_cons_succ, List.getElem_cons_zero]
            have hta := (Touch.refl [] u1).alloc (.cells #[.int .i64 x] 3)
            have hin2 := hin1.touch0 hta
            have hrl := Reads.lit u1 3 (0, 0) [I x] 1 rfl (by simp [maxLen])
            have ka : (u1.alloc (.cells #[.int .i64 x] 3)).cell? ⟨q, 2, none⟩ = some fv := by have := hin2.bk.cell 2; simpa using this
            refine wpAnyH_ready (rs := [1]) (by kernel_rfl) (by simp) (AllReadyH.cons rfl (fun K hK => ?_) AllReadyH.nil)
            go_simp
            refine hK.out _ _ trivial (fun _ => ?_)
            clear hK K
            try simp only [Act.put, List.setIfInBounds_toArray, List.set_cons_zero, List.set_cons_succ, List.getElem_toArray, List.getElem_cons_succ, List.getElem_cons_zero]
            refine wpAnyH_ready (rs := [5]) (by kernel_rfl) (by simp) (AllReadyH.cons rfl (fun K hK => ?_) AllReadyH.nil)
            refine step_app_reads elem_int hin2.fr hrl (by simp [Value.oneCell', I]) (by omega) (by unfold maxLen; omega) ?_
            intro v3 u3 ho3 ht3 hf3
            have hrow3 : RowI u3 v3 (fs ++ [x]) := RowI.snoc ho3
            have hinF := hin2.app hrow3 ht3 hf3
            have kq := (hin2.bk.touch ht3 (fun hm => by have := hin2.fn _ hm; omega))
            have kc := kq.cell 2
            have kf := kq.frozen 2
            simp at kc
            obtain ⟨A3, c3, hv3⟩ := Own.form ho3
            subst hv3
            refine hK.out _ _ trivial (fun _ => ?_)
            clear hK K
            try simp only [Act.put, List.setIfInBounds_toArray, List.set_cons_zero, List.set_cons_succ, List.getElem_toArray, List.getElem_cons_succ, List.getElem_cons_zero]
            refine wpAnyH_take (i := 6) (v := ?_) rfl (by kernel_rfl) (by kernel_rfl) (by kernel_rfl) (fun _ _ _ h => h) (Or.inl ⟨by rfl, ?_⟩) trivial ?_
            rotate_left
            · (intro W hSW; go_simp <;> with_reducible rfl)
            simp only [Act.put, List.setIfInBounds_toArray, List.set_cons_zero, List.set_cons_succ, List.getElem_toArray, List.getElem_cons_succ, List.getElem_cons_zero]
            refine wpAnyH_ready (rs := [7]) (by kernel_rfl) (by simp) (AllReadyH.cons rfl (fun K hK => ?_) AllReadyH.nil)
            go_simp
            refine hK.out _ _ trivial (fun _ => ?_)
            clear hK K
            try simp only [Act.put, List.setIfInBounds_toArray, List.set_cons_zero, List.set_cons_succ, List.getElem_toArray, List.getElem_cons_succ, List.getElem_cons_zero]
            refine wpAnyH_done (by kernel_rfl) ?_ _
            obtain ⟨n0, n1, n2⟩ := HNX.out
            have hrel := FbRel.next hjm HFL.out hinF n0 n1 HFF.out n2
            have HREL := Lib.hid hrel
            clear hrel n0 n1 n2 HNX
            go_wp2_with fail
            go_roundw
            case rel => exact HREL.out
            case measure => simp [intOf]; omega
      · have hjm' : ¬ (j : Int) < (m : Int) := by omega
        obtain rfl : j = m := by omega
        go_wp2_with fail
        refine (rd_err _ _ _ _ _ _ hin.d.rd).mono ?_
        rintro r w9 ⟨rfl, rfl⟩
        by_cases hs0 : s.1 = 0
        · have hb0 : (s.1 != 0) = false := by simpa using hs0
          have hnr : nres = .ok (fs, s.2) := by rw [HE0.out hs0, Nat.sub_self]; simp [pNums, contX]
          have hbx : BxOk wr ⟨st, pf, fv, fs⟩ := ⟨hin.fr, HFS.out, HFP.out, HFF.out⟩
          have hpb2 : pBid L a = .ok ((st, pf, fs), s.2) := by rw [HPB.out, hnr]
          have hnext : res = contX ((xs ++ [(⟨st, pf, fv, fs⟩ : Bx)]).map Bx.data) (pBids L (n - (k + 1)) s.2) := by
            rw [HRS.out, show n - k = (n - (k + 1)) + 1 by omega, bids_step hpb2, List.map_append]
            rfl
          have HNE := Lib.hid hnext
          clear hnr hpb2 hnext
          have hd0 : DecSt w N p2 in2 L (0, s.2) _ xs wr := ⟨by have := hin.d.rd; rw [hs0] at this; exact this, hin.d.own, hin.d.fbs, hin.d.touch, hin.d.lo, hin.d.pl, hin.d.il, hin.d.new, hin.d.nz⟩
          have b0 := hin.bk.cell 0
          have b1 := hin.bk.cell 1
          have b2 := hin.bk.cell 2
          simp at b0 b1 b2
          obtain ⟨Af, cf, hfv⟩ := Own.form hin.fr
          have hxk : xs.length ≤ 512 := by rw [HXL.out]; omega
          clear hin HE0 HE1 hs0
          subst hfv
          go_wp2_with (at_builtin; go_must (refine app_new elem_bid hd0.own [Value.int .i64 st, .int .i64 pf, .slice Af fs.length cf] 1 1 (by omega) (by unfold maxLen; omega) ?_); intro v10 w10 ho10 ht10 hf10)
          have hfin := hd0.push hbx ho10 ht10 hf10
          go_roundw
          case rel => exact ⟨k + 1, s.2, _, by omega, by go_num, by rw [List.length_append, HXL.out]; rfl, hfin, HNE.out⟩
          case measure => simp [intOf]; omega
        · have hb0 : (s.1 != 0) = true := by simpa using hs0
          have hpb2 : pBid L a = .error s.1 := by rw [HPB.out, HE1.out hs0]
          have hdd : dec = (s.1, []) := by
            rw [HD.out, HRS.out, show n - k = (n - (k + 1)) + 1 by omega, bids_badX hpb2]
          have HDD := Lib.hid hdd
          have htt := hin.d.touch
          clear hpb2 hdd hin hs0
          generalize s.1 = ee at *
          go_wp2_with fail
          exact HER.out _ _ HDD.out htt
end Go.Proofs.Ytpbknnkobhjjcaa
