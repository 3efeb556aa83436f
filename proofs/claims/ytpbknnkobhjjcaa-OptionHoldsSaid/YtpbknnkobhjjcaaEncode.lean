/- The encoding of a list of bids. -/
import Derived.Test.YtpbknnkobhjjcaaVBids
namespace Go.Proofs.Ytpbknnkobhjjcaa
open Go.RowKit
set_option linter.unusedSimpArgs false

def encN (n : Int) : List UInt8 := grp n.toNat
def encHd (x : Bx) : List UInt8 := encN x.st ++ encN x.pf ++ grp x.fb.length
def encBid (x : Bx) : List UInt8 := encHd x ++ x.fb.flatMap encN
def encBids (xs : List Bx) : List UInt8 := grp xs.length ++ xs.flatMap encBid
theorem encN_len (n : Int) : (encN n).length ≤ 10 := grp_len _
theorem encNs_len : ∀ l : List Int, (l.flatMap encN).length ≤ 10 * l.length
  | [] => by simp
  | n :: l => by
    have h1 := encN_len n
    have h2 := encNs_len l
    rw [List.flatMap_cons, List.length_append, List.length_cons]
    omega
theorem encHd_len (x : Bx) : (encHd x).length ≤ 30 := by
  have h1 := encN_len x.st
  have h2 := encN_len x.pf
  have h3 := grp_len x.fb.length
  unfold encHd
  rw [List.length_append, List.length_append]
  omega
theorem encBids_len : ∀ xs : List Bx, (∀ x ∈ xs, x.fb.length ≤ 3) → (xs.flatMap encBid).length ≤ 60 * xs.length
  | [], _ => by simp
  | x :: xs, h => by
    have h1 := encHd_len x
    have h2 := encNs_len x.fb
    have h3 := h x (by simp)
    have h4 := encBids_len xs (fun y hy => h y (by simp [hy]))
    have h5 : (encBid x).length = (encHd x).length + (x.fb.flatMap encN).length := by unfold encBid; rw [List.length_append]
    rw [List.flatMap_cons, List.length_append, List.length_cons]
    omega
/-- What validity says of a bid. -/
theorem bidB_parts {x : Bx} (h : bidB x = true) : 0 ≤ x.st ∧ x.st ≤ 511 ∧ x.fb.length ≤ 3 ∧ (0 ≤ x.pf ∧ x.pf ≤ 3) ∧ ∀ n ∈ x.fb, 0 ≤ n ∧ n ≤ 3 := by
  unfold bidB headB at h
  rw [Bool.and_eq_true, decide_eq_true_iff, names_all] at h
  obtain ⟨⟨h1, h2, h3⟩, h4⟩ := h
  have h5 : ∀ n ∈ x.names, 0 ≤ n ∧ n ≤ 3 := fun n hn => by
    obtain ⟨i, hi, rfl⟩ := List.getElem_of_mem hn
    have := h4 i hi
    rw [nmB_at hi, Bool.and_eq_true] at this
    have := this.1
    unfold optB at this
    exact of_decide_eq_true this
  exact ⟨h1, h2, h3, h5 x.pf (by simp [Bx.names]), fun n hn => h5 n (by simp [Bx.names, hn])⟩
theorem bids_parts {xs : List Bx} (h : bidsB xs = true) : ∀ x ∈ xs, bidB x = true := fun x hx => by
  obtain ⟨i, hi, rfl⟩ := List.getElem_of_mem hx
  have := bids_all.1 h i hi
  cases e : bidB xs[i] with
  | true => rfl
  | false => rw [adj_first hi e] at this; cases this
theorem wUint_put (bs : List UInt8) (n : Int) (h : 0 ≤ n) (hl : bs.length + 10 ≤ 65536) : wUint (0, bs) n = (0, bs ++ encN n) := by
  unfold wUint
  rw [if_neg (by omega)]
  have := grp_len n.toNat
  exact put_fits _ _ rfl (by show bs.length + (grp n.toNat).length ≤ 65536; omega)
def EncPost (w : World) (l : List UInt8) (e : Int) (r : Ending) (w' : World) : Prop := ∃ v, r = .returned (.tuple #[v, .int .i64 e]) ∧ Row w' v l ∧ Touch [] w w'
def encE (xs : List Bx) : Int := if bidsB xs then 0 else 2
def encL (xs : List Bx) : List UInt8 := if bidsB xs then encBids xs else []

/-- A writer beside a struct of the round's own. -/
structure EncSt (w : World) (p q : Nat) (cs : Array Value) (bs : List UInt8) (out : Value) (W : World) : Prop where
  wt : WrL w W p out (0, bs)
  bk : Blk W q 91 cs
  off : q ∉ blk out
  ne : q ≠ p
theorem EncSt.put {w W W' : World} {p q : Nat} {cs : Array Value} {bs bs' : List UInt8} {out : Value} {r : Ending} (h : EncSt w p q cs bs out W) (hd : WrDone W p out (0, bs') r W') : r = .returned (.tuple #[]) ∧ ∃ out', EncSt w p q cs bs' out' W' := by
  obtain ⟨hr, out', hW⟩ := h.wt.done hd
  obtain ⟨-, out2, h2, ht, hf⟩ := hd
  refine ⟨hr, out2, ⟨h2, hW.2.1, hW.2.2.1, fun g hg => ?_⟩, h.bk.touch ht (fun hm => ?_), fun hm => ?_, h.ne⟩
  · rcases hf g hg with h3 | h3
    · exact h.wt.2.2.2 g h3
    · have := h.wt.2.1.size; omega
  · rcases List.mem_cons.1 hm with e | e
    · exact h.ne e
    · exact h.off e
  · rcases hf q hm with h3 | h3
    · exact h.off h3
    · have := h.bk.lt; omega
def EncRel (w : World) (p : Nat) (xs : List Bx) (ti : Value) (wr : World) : Prop := ∃ (k : Nat) (out : Value), k ≤ xs.length ∧ ti = .int .i64 k ∧ WrL w wr p out (0, grp xs.length ++ (xs.take k).flatMap encBid)
def EncIn (w : World) (p q : Nat) (cs : Array Value) (base : List UInt8) (fb : List Int) (tj : Value) (wr : World) : Prop := ∃ (j : Nat) (out : Value), j ≤ fb.length ∧ tj = .int .i64 j ∧ EncSt w p q cs (base ++ (fb.take j).flatMap encN) out wr
theorem take_flat {α β : Type} {l : List α} {k : Nat} (hk : k < l.length) (f : α → List β) : (l.take (k + 1)).flatMap f = (l.take k).flatMap f ++ f l[k] := by
  rw [List.take_succ_eq_append_getElem hk, List.flatMap_append]
  simp
theorem WrL.base {w w1 W : World} {p : Nat} {out : Value} {s : WS} (h : WrL w1 W p out s) (ht : Touch [] w w1) : WrL w W p out s := ⟨h.1, ht.then0 h.2.1, Nat.le_trans ht.size h.2.2.1, fun g hg => Nat.le_trans ht.size (h.2.2.2 g hg)⟩

set_option maxRecDepth 100000 in
set_option maxHeartbeats 8000000 in
theorem encode_any (v : Value) (xs : List Bx) (w : World) (hv : Bids w v xs) (hn : xs.length ≤ 1000) : Calls Try.prog 69 #[v] w (EncPost w (encL xs) (encE xs)) := by
  have hvb := validbids_any v xs w hv
  unfold encE encL
  cases hb : bidsB xs with
  | false =>
    rw [hb] at hvb
    have HVB := Lib.hid hvb
    obtain ⟨A, cap, rfl, -⟩ := id hv.1
    clear hvb hb
    go_enter Try.func69, Try.ntmps69
    go_wp2_with fail
    refine HVB.out.mono ?_
    rintro r w1 ⟨rfl, ht1⟩
    go_wp2_with fail
    go_ret2
    exact ⟨_, rfl, Own.nil _ _ _, ht1⟩
  | true =>
  rw [hb] at hvb
  have HVB := Lib.hid hvb
  have HBP := Lib.hid (bids_parts hb)
  clear hvb hb
  simp only [if_true]
  have HLEN : Hid (∀ k, (grp xs.length ++ (xs.take k).flatMap encBid).length ≤ 60010) := Lib.hid (fun k => by
    have h1 := grp_len xs.length
    have h2 := encBids_len (xs.take k) (fun x hx => (bidB_parts (HBP.out x (List.mem_of_mem_take hx))).2.2.1)
    have h3 : (xs.take k).length ≤ 1000 := by rw [List.length_take]; omega
    rw [List.length_append]
    omega)
  obtain ⟨A, cap, hvf, -⟩ := id hv.1
  subst hvf
  go_enter Try.func69, Try.ntmps69
  go_wp2_with fail
  refine HVB.out.mono ?_
  rintro r w1 ⟨rfl, ht1⟩
  go_wp2_with fail
  have hW0 := (WrL.new w1).base ht1
  have HU0 := Lib.hid (wUint_put [] (xs.length : Int) (by omega) (by simp))
  refine (wr_uint _ _ _ (xs.length : Int) _ hW0.1 (by omega)).mono ?_
  intro r w2 hd
  rw [HU0.out] at hd
  obtain ⟨rfl, o2, hW2⟩ := hW0.done hd
  have hp1 : w.heap.size ≤ w1.heap.size := ht1.size
  clear hd hW0
  go_wp2_with fail
  go_loopw [17] (fun ti wr => EncRel w w1.heap.size xs ti wr) (fun ti _ => xs.length - (intOf ti).toNat)
  case atStart =>
    refine ⟨0, o2, by omega, rfl, ?_⟩
    have : [] ++ encN (xs.length : Int) = grp xs.length ++ (xs.take 0).flatMap encBid := by simp [encN]
    rw [← this]
    exact hW2
  case round =>
    clear hW2
    obtain ⟨k, out, hk, rfl, hW⟩ := hrel
    by_cases hlt : k < xs.length
    case neg =>
      have hlt' : ¬ (k : Int) < (xs.length : Int) := by omega
      obtain rfl : k = xs.length := by omega
      rw [List.take_length] at hW
      go_wp2_with fail
      refine (wr_end _ _ _ _ hW.1).mono ?_
      rintro r w4 ⟨a, rfl, ha, ht4, -⟩
      simp only [if_true] at ha ⊢
      have htt := hW.2.1.then0 ht4
      clear hW
      go_wp2_with fail
      go_ret2
      exact ⟨_, rfl, ha, htt⟩
    have hlt' : (k : Int) < (xs.length : Int) := by omega
    have hvr := hv.touch0 hW.2.1
    obtain ⟨b0, off, cap', e, hb0, hc1, hc2⟩ := hv.addr (by omega)
    injection e with e1 _ e2
    subst e1 e2
    obtain ⟨c0, c1, c2⟩ := hvr.elem hlt rfl
    obtain ⟨s1, s2, s3, s4, s5⟩ := bidB_parts (HBP.out xs[k] (List.getElem_mem hlt))
    have hI0 := (hv.2 xs[k] (List.getElem_mem hlt)).2.2
    have HNX : Hid (∀ (w' : World) (o' : Value), WrL w w' w1.heap.size o' (0, grp xs.length ++ (xs.take k).flatMap encBid ++ (encHd xs[k] ++ xs[k].fb.flatMap encN)) → EncRel w w1.heap.size xs (.int .i64 ((k : Int) + 1)) w') := Lib.hid (fun w' o' h' => ⟨k + 1, o', hlt, by go_num, by rw [take_flat hlt, ← List.append_assoc]; exact h'⟩)
    have hbl := HLEN.out k
    have hpl : w1.heap.size < wr.heap.size := hW.1.1.lt
    have HHD : Hid (encHd xs[k] = encN xs[k].st ++ encN xs[k].pf ++ grp xs[k].fb.length) := Lib.hid rfl
    obtain ⟨A2, cap2, hfv, -⟩ := id hI0.1
    rw [hfv] at c2 hI0
    unfold I at c0 c1
    clear hfv hvr
    have hlow := Own.lt (hW.1.2 rfl).1
    have HLOW := Lib.hid hlow
    clear hlow
    generalize xs[k].st = st at *
    generalize xs[k].pf = pf at *
    generalize xs[k].fb = fb at *
    generalize encHd xs[k] = hd at *
    generalize grp xs.length ++ (xs.take k).flatMap encBid = bs at *
    have hst : EncSt w w1.heap.size wr.heap.size #[.int .i64 st, .int .i64 pf, .slice A2 fb.length cap2] bs out (wr.alloc (.cells #[.int .i64 st, .int .i64 pf, .slice A2 fb.length cap2] 91)) :=
      ⟨hW.alloc _, Blk.new wr _ _, fun hm => by have := HLOW.out _ hm; omega, by omega⟩
    clear hW HLOW
    have l1 := encN_len st
    have l2 := encN_len pf
    have l3 := grp_len fb.length
    obtain ⟨s4a, s4b⟩ := s4
    have HS5 := Lib.hid s5
    clear s5
    go_wp2_with fail
    have e1 := wUint_put bs st s1 (by omega)
    refine (wr_uint _ _ _ st _ hst.wt.1 (by omega)).mono ?_
    intro r w3 hd3
    rw [e1] at hd3
    obtain ⟨rfl, o3, h3⟩ := hst.put hd3
    clear hd3 hst e1 c0 c1 c2
    have k1 := h3.bk.cell 1
    have k2 := h3.bk.cell 2
    simp at k1 k2
    go_wp2_with fail
    have e1 := wUint_put (bs ++ encN st) pf s4a (by rw [List.length_append]; omega)
    refine (wr_uint _ _ _ pf _ h3.wt.1 (by omega)).mono ?_
    intro r w4 hd4
    rw [e1] at hd4
    obtain ⟨rfl, o4, h4⟩ := h3.put hd4
    clear hd4 h3 e1 k1 k2
    have k2 := h4.bk.cell 2
    simp at k2
    go_wp2_with fail
    have e1 := wUint_put (bs ++ encN st ++ encN pf) (fb.length : Int) (by omega) (by rw [List.length_append, List.length_append]; omega)
    refine (wr_uint _ _ _ (fb.length : Int) _ h4.wt.1 (by omega)).mono ?_
    intro r w5 hd5
    rw [e1] at hd5
    obtain ⟨rfl, o5, h5⟩ := h4.put hd5
    clear hd5 h4 e1 k2
    have k2 := h5.bk.cell 2
    simp at k2
    have hbase : bs ++ encN st ++ encN pf ++ encN (fb.length : Int) = bs ++ hd := by rw [HHD.out]; simp [encN]
    rw [hbase] at h5
    have hbl2 : (bs ++ hd).length ≤ 60040 := by rw [← hbase]; simp only [List.length_append]; have := encN_len (fb.length : Int); omega
    clear hbase
    generalize hbb : bs ++ hd = bh at *
    have HBB := Lib.hid hbb
    clear hbb
    obtain ⟨wo, hwo⟩ : ∃ wo : World, wo = wr := ⟨_, rfl⟩
    rw [← hwo] at h5 k2 hpl ⊢
    clear hwo
    go_wp2_with fail
    go_loopw [34] (fun tj wr2 => EncIn w w1.heap.size wo.heap.size #[.int .i64 st, .int .i64 pf, .slice A2 fb.length cap2] bh fb tj wr2) (fun tj _ => fb.length - (intOf tj).toNat)
    case atStart => exact ⟨0, o5, by omega, rfl, by rw [List.take_zero, List.flatMap_nil, List.append_nil]; exact h5⟩
    case round =>
      clear h5 k2
      obtain ⟨j, oj, hj, rfl, hst⟩ := hrel
      by_cases hjl : j < fb.length
      · have hjl' : (j : Int) < (fb.length : Int) := by omega
        obtain ⟨b, of2, c, e, hc, hd1, hd2⟩ := (hI0.touch0 hst.wt.2.1).at hjl
        injection e with e1 e4 e2
        subst e1 e2
        clear e4
        obtain ⟨y1, y2⟩ := HS5.out fb[j] (List.getElem_mem hjl)
        have HTF := Lib.hid (take_flat hjl encN)
        have hlj : (bh ++ (fb.take j).flatMap encN).length ≤ 60070 := by
          have h6 := encNs_len (fb.take j)
          have h7 : (fb.take j).length ≤ 3 := by rw [List.length_take]; omega
          rw [List.length_append]
          omega
        generalize fb[j] = y at *
        generalize hbj : bh ++ (fb.take j).flatMap encN = bj at *
        have HBJ := Lib.hid hbj
        clear hbj
        have HUP := Lib.hid (wUint_put bj y y1 (by omega))
        go_wp2_with fail
        refine (wr_uint _ _ _ y _ hst.wt.1 (by omega)).mono ?_
        intro r w6 hd6
        rw [HUP.out] at hd6
        obtain ⟨rfl, o6, h6⟩ := hst.put hd6
        clear hd6
        go_wp2_with fail
        go_roundw
        case rel => exact ⟨j + 1, o6, hjl, by go_num, by rw [HTF.out, ← List.append_assoc, HBJ.out]; exact h6⟩
        case measure => simp [intOf]; omega
      · have hjl' : ¬ (j : Int) < (fb.length : Int) := by omega
        have hfin : bh ++ (fb.take j).flatMap encN = bs ++ (hd ++ fb.flatMap encN) := by rw [List.take_of_length_le (by omega), ← HBB.out, List.append_assoc]
        rw [hfin] at hst
        clear hfin
        go_wp2_with fail
        go_roundw
        case rel => exact HNX.out _ _ hst.wt
        case measure => simp [intOf]; omega
end Go.Proofs.Ytpbknnkobhjjcaa
