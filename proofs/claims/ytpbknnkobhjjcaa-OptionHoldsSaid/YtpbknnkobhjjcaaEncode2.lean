/- The encoding of a list of bids by the specification. -/
import Derived.Test.YtpbknnkobhjjcaaEncode
namespace Go.Proofs.Ytpbknnkobhjjcaa
open Go.RowKit
set_option linter.unusedSimpArgs false

def RG30Rel (w : World) (all : List UInt8) (v' t : Value) (wr : World) : Prop :=
  ∃ (f m : Nat) (bs : List UInt8), f ≤ 9 ∧ m < 128 ^ (f + 1) ∧ m < 4611686018427387904 ∧ t = .int .i64 m ∧ all = bs ++ grpF f m ∧ Row wr v' bs ∧ Touch [] w wr ∧ ∀ g ∈ blk v', w.heap.size ≤ g
set_option maxRecDepth 100000 in
set_option maxHeartbeats 8000000 in
theorem rg30_any (n : Nat) (w : World) (hn : n < 4611686018427387904) :
    Calls Try.prog 109 #[.int .i64 n] w (NewBytes w (grp n)) := by
  have hall := grp_len n
  have hst : RG30Rel w (grp n) (.slice none 0 0) (.int .i64 n) w := ⟨9, n, [], by omega, by omega, hn, rfl, rfl, Row.nil w, Touch.refl _ _, fun g hg => by cases hg⟩
  generalize grp n = all at *
  clear hn
  go_enter Try.func109, Try.ntmps109
  go_wp2_with fail
  go_loopw [3, 0] (fun v' t wr => RG30Rel w all v' t wr) (fun _ t _ => (intOf t).toNat)
  case atStart => exact hst
  case round =>
    clear hst
    obtain ⟨f, m, bs', hf, hm, hm2, rfl, hal, hr, hg, hfr⟩ := hrel
    have hal2 : bs'.length ≤ 1000010 := by rw [hal] at hall; simp at hall; omega
    have Hal := Lib.hid hal
    have HFr := Lib.hid hfr
    clear hal hfr
    by_cases hlt : 128 ≤ m
    · have hb : Value.int .u8 ((m : Int) % 128 + 128) = B (UInt8.ofNat (m % 128 + 128)) := by
        rw [← B_small (m % 128 + 128) (by omega)]
        rfl
      have HB := Lib.hid hb
      clear hb
      have hdiv : ((m : Int) / 128) = ((m / 128 : Nat) : Int) := by omega
      have HD := Lib.hid hdiv
      clear hdiv
      go_wp2_with (at_builtin; go_must (refine app_new elem_u8 hr [Value.int .u8 ((m : Int) % 128 + 128)] 1 1 (by omega) (by unfold maxLen; omega) ?_); intro v1 w1 ho1 hg1 hf1)
      go_roundw
      case rel =>
        rw [HB.out] at ho1
        rw [HD.out]
        cases f with
        | zero => exact absurd hm (by simp; omega)
        | succ f =>
          refine ⟨f, m / 128, bs' ++ [UInt8.ofNat (m % 128 + 128)], by omega, ?_, by omega, rfl, ?_, Row.snoc ho1, hg.fresh HFr.out hg1, From.fresh hg HFr.out hf1⟩
          · rw [Nat.pow_succ] at hm
            omega
          · rw [Hal.out, List.append_assoc]
            congr 1
            rw [grpF, if_neg (by omega)]
            rfl
      case measure => simp [intOf]; omega
    · go_wp2_with (at_builtin; go_must (refine app_new elem_u8 hr [Value.int .u8 (m : Int)] 1 1 (by omega) (by unfold maxLen; omega) ?_); intro v1 w1 ho1 hg1 hf1)
      go_ret
      refine ⟨v1, rfl, ?_, hg.fresh HFr.out hg1, From.fresh hg HFr.out hf1⟩
      rw [B_small m (by omega)] at ho1
      have e : grpF f m = [UInt8.ofNat m] := by cases f; rfl; rw [grpF, if_pos (by omega)]
      rw [Hal.out, e]
      exact Row.snoc ho1
theorem rg30_int (n : Int) (w : World) (h0 : 0 ≤ n) (hn : n < 4611686018427387904) : Calls Try.prog 109 #[.int .i64 n] w (NewBytes w (encN n)) := by
  obtain ⟨k, rfl⟩ := Int.eq_ofNat_of_zero_le h0
  unfold encN
  rw [Int.toNat_natCast]
  exact rg30_any k w (by omega)

/-- A row of bytes of the call's own. -/
structure RSt (w : World) (bs : List UInt8) (tv : Value) (W : World) : Prop where
  row : Row W tv bs
  new : ∀ g ∈ blk tv, w.heap.size ≤ g
  touch : Touch [] w W
theorem RSt.grow {w W W1 W2 : World} {bs e : List UInt8} {tv v2 : Value} (h : RSt w bs tv W) (h1 : Touch [] W W1) (ho : Own W2 5 1 v2 (bs.length + e.length) (bs.map B ++ e.map B)) (ht : Touch (blk tv) W1 W2) (hf : From W1 tv v2) : RSt w (bs ++ e) v2 W2 := by
  have ht1 := h.touch.then0 h1
  refine ⟨?_, From.fresh ht1 h.new hf, ht1.fresh h.new ht⟩
  unfold Row
  rw [List.length_append, List.map_append]
  exact ho
def REncRel (w : World) (xs : List Bx) (tv ti : Value) (wr : World) : Prop := ∃ k : Nat, k ≤ xs.length ∧ ti = .int .i64 k ∧ RSt w (grp xs.length ++ (xs.take k).flatMap encBid) tv wr
def REncIn (w : World) (base : List UInt8) (fb : List Int) (tv tj : Value) (wr : World) : Prop := ∃ j : Nat, j ≤ fb.length ∧ tj = .int .i64 j ∧ RSt w (base ++ (fb.take j).flatMap encN) tv wr
set_option maxRecDepth 100000 in
set_option maxHeartbeats 8000000 in
theorem rencode_any (v : Value) (xs : List Bx) (w : World) (hv : Bids w v xs) (hn : xs.length ≤ 1000) : Calls Try.prog 70 #[v] w (EncPost w (encL xs) (encE xs)) := by
  have hvb := rvalidbids_any v xs w hv
  unfold encE encL
  cases hb : bidsB xs with
  | false =>
    rw [hb] at hvb
    have HVB := Lib.hid hvb
    obtain ⟨A, cap, rfl, -⟩ := id hv.1
    clear hvb hb
    go_enter Try.func70, Try.ntmps70
    go_wp2_with fail
    refine HVB.out.mono ?_
    rintro r w1 ⟨rfl, ht1⟩
    go_wp2_with fail
    go_ret2
    exact ⟨_, rfl, Own.nil _ _ _, ht1⟩
  | true =>
  rw [hb] at hvb
  have HVB := Lib.hid hvb
  have HBP := Lib.hid (bids_parts hb)
  clear hvb hb
  simp only [if_true]
  have HLEN : Hid (∀ k, (grp xs.length ++ (xs.take k).flatMap encBid).length ≤ 60010) := Lib.hid (fun k => by
    have h1 := grp_len xs.length
    have h2 := encBids_len (xs.take k) (fun x hx => (bidB_parts (HBP.out x (List.mem_of_mem_take hx))).2.2.1)
    have h3 : (xs.take k).length ≤ 1000 := by rw [List.length_take]; omega
    rw [List.length_append]
    omega)
  obtain ⟨A, cap, hvf, -⟩ := id hv.1
  subst hvf
  go_enter Try.func70, Try.ntmps70
  go_wp2_with fail
  refine HVB.out.mono ?_
  rintro r w1 ⟨rfl, ht1⟩
  go_wp2_with fail
  refine (rg30_int (xs.length : Int) _ (by omega) (by omega)).mono ?_
  rintro r w2 ⟨g2, rfl, hg2, ht2, hn2⟩
  have hst : RSt w (grp xs.length ++ (xs.take 0).flatMap encBid) g2 w2 := ⟨by rw [List.take_zero, List.flatMap_nil, List.append_nil]; exact hg2, fun g hg => Nat.le_trans ht1.size (hn2 g hg), ht1.then0 ht2⟩
  clear hg2 ht2 hn2 ht1
  go_wp2_with fail
  go_loopw [4, 5] (fun tv ti wr => REncRel w xs tv ti wr) (fun _ ti _ => xs.length - (intOf ti).toNat)
  case atStart => exact ⟨0, by omega, rfl, hst⟩
  case round =>
    clear hst
    obtain ⟨k, hk, rfl, hst⟩ := hrel
    by_cases hlt : k < xs.length
    case neg =>
      have hlt' : ¬ (k : Int) < (xs.length : Int) := by omega
      obtain rfl : k = xs.length := by omega
      rw [List.take_length] at hst
      go_wp2_with fail
      go_ret2
      exact ⟨_, rfl, hst.row, hst.touch⟩
    have hlt' : (k : Int) < (xs.length : Int) := by omega
    obtain ⟨b0, off, cap', e, hb0, hc1, hc2⟩ := hv.addr (by omega)
    injection e with e1 _ e2
    subst e1 e2
    obtain ⟨s1, s2, s3, s4, s5⟩ := bidB_parts (HBP.out xs[k] (List.getElem_mem hlt))
    have hI0 := (hv.2 xs[k] (List.getElem_mem hlt)).2.2
    have HNX : Hid (∀ (w' : World) (o' : Value), RSt w (grp xs.length ++ (xs.take k).flatMap encBid ++ (encHd xs[k] ++ xs[k].fb.flatMap encN)) o' w' → REncRel w xs o' (.int .i64 ((k : Int) + 1)) w') := Lib.hid (fun w' o' h' => ⟨k + 1, hlt, by go_num, by rw [take_flat hlt, ← List.append_assoc]; exact h'⟩)
    have hbl := HLEN.out k
    have HHD : Hid (encHd xs[k] = encN xs[k].st ++ encN xs[k].pf ++ grp xs[k].fb.length) := Lib.hid rfl
    obtain ⟨A2, cap2, hfv, -⟩ := id hI0.1
    have HEL : Hid (∀ (W : World), Touch [] w W → W.cell? ⟨b0, off + k * 3, none⟩ = some (.int .i64 xs[k].st) ∧ W.cell? ⟨b0, off + k * 3 + 1, none⟩ = some (.int .i64 xs[k].pf) ∧ W.cell? ⟨b0, off + k * 3 + 2, none⟩ = some (.slice A2 xs[k].fb.length cap2)) := Lib.hid (fun W hW => by
      obtain ⟨q0, q1, q2⟩ := (hv.touch0 hW).elem hlt rfl
      rw [hfv] at q2
      exact ⟨q0, q1, q2⟩)
    rw [hfv] at hI0
    clear hfv
    generalize xs[k].st = st at *
    generalize xs[k].pf = pf at *
    generalize xs[k].fb = fb at *
    generalize encHd xs[k] = hd at *
    generalize grp xs.length ++ (xs.take k).flatMap encBid = bs at *
    obtain ⟨s4a, s4b⟩ := s4
    have HS5 := Lib.hid s5
    clear s5
    obtain ⟨q0, -, -⟩ := HEL.out _ hst.touch
    go_wp2_with fail
    refine (rg30_int st _ (by omega) (by omega)).mono ?_
    rintro r u1 ⟨g1, rfl, hg1, hu1, -⟩
    have lg1 := encN_len (st)
    go_wp2_with (at_builtin; go_must (refine app_reads elem_u8 (Own.touch0 hst.row hu1) hg1.reads (B_ones _) (by omega) (by unfold maxLen; omega) ?_); intro v1 x1 ho1 hx1 hf1; have h1 := hst.grow hu1 ho1 hx1 hf1; obtain ⟨pc1, qc1, rc1⟩ := HEL.out _ h1.touch)
    clear ho1 hx1 hf1 hg1 hu1
    clear q0 hst
    have lb1 : (bs ++ encN st).length ≤ 60020 := by rw [List.length_append]; omega
    go_wp2_with fail
    refine (rg30_int pf _ (by omega) (by omega)).mono ?_
    rintro r u2 ⟨g2, rfl, hg2, hu2, -⟩
    have lg2 := encN_len (pf)
    go_wp2_with (at_builtin; go_must (refine app_reads elem_u8 (Own.touch0 h1.row hu2) hg2.reads (B_ones _) (by omega) (by unfold maxLen; omega) ?_); intro v2 x2 ho2 hx2 hf2; have h2 := h1.grow hu2 ho2 hx2 hf2; obtain ⟨pc2, qc2, rc2⟩ := HEL.out _ h2.touch)
    clear ho2 hx2 hf2 hg2 hu2
    clear pc1 qc1 rc1 h1
    have lb2 : (bs ++ encN st ++ encN pf).length ≤ 60030 := by rw [List.length_append]; omega
    go_wp2_with fail
    refine (rg30_int (fb.length : Int) _ (by omega) (by omega)).mono ?_
    rintro r u3 ⟨g3, rfl, hg3, hu3, -⟩
    have lg3 := encN_len ((fb.length : Int))
    go_wp2_with (at_builtin; go_must (refine app_reads elem_u8 (Own.touch0 h2.row hu3) hg3.reads (B_ones _) (by omega) (by unfold maxLen; omega) ?_); intro v3 x3 ho3 hx3 hf3; have h3 := h2.grow hu3 ho3 hx3 hf3; obtain ⟨pc3, qc3, rc3⟩ := HEL.out _ h3.touch)
    clear ho3 hx3 hf3 hg3 hu3
    clear pc2 qc2 rc2 h2
    have hbase : bs ++ encN st ++ encN pf ++ encN (fb.length : Int) = bs ++ hd := by rw [HHD.out]; simp [encN]
    have lb3 : (bs ++ encN st ++ encN pf ++ encN (fb.length : Int)).length ≤ 60040 := by rw [List.length_append]; omega
    rw [hbase] at h3 lb3
    clear hbase
    generalize hbb : bs ++ hd = bh at *
    have HBB := Lib.hid hbb
    clear hbb
    go_wp2_with fail
    obtain ⟨wo, hwo⟩ : ∃ wo : World, wo = wr := ⟨_, rfl⟩
    clear hwo
    go_loopw [4, 6] (fun tv tj wr2 => REncIn w bh fb tv tj wr2) (fun _ tj _ => fb.length - (intOf tj).toNat)
    case atStart => exact ⟨0, by omega, rfl, by rw [List.take_zero, List.flatMap_nil, List.append_nil]; exact h3⟩
    case round =>
      clear h3 pc3 qc3 rc3
      obtain ⟨j, hj, rfl, hst⟩ := hrel
      obtain ⟨-, -, q2⟩ := HEL.out _ hst.touch
      by_cases hjl : j < fb.length
      · have hjl' : (j : Int) < (fb.length : Int) := by omega
        obtain ⟨b, of2, c, e, hc, hd1, hd2⟩ := (hI0.touch0 hst.touch).at hjl
        injection e with e1 e4 e2
        subst e1 e2
        clear e4
        obtain ⟨y1, y2⟩ := HS5.out fb[j] (List.getElem_mem hjl)
        have HTF := Lib.hid (take_flat hjl encN)
        have hlj : (bh ++ (fb.take j).flatMap encN).length ≤ 60070 := by
          have h6 := encNs_len (fb.take j)
          have h7 : (fb.take j).length ≤ 3 := by rw [List.length_take]; omega
          rw [List.length_append]
          omega
        generalize fb[j] = y at *
        generalize hbj : bh ++ (fb.take j).flatMap encN = bj at *
        have HBJ := Lib.hid hbj
        clear hbj
        go_wp2_with fail
        refine (rg30_int y _ (by omega) (by omega)).mono ?_
        rintro r u4 ⟨g4, rfl, hg4, hu4, -⟩
        have lg4 := encN_len (y)
        go_wp2_with (at_builtin; go_must (refine app_reads elem_u8 (Own.touch0 hst.row hu4) hg4.reads (B_ones _) (by omega) (by unfold maxLen; omega) ?_); intro v4 x4 ho4 hx4 hf4; have h4 := hst.grow hu4 ho4 hx4 hf4; obtain ⟨pc4, qc4, rc4⟩ := HEL.out _ h4.touch)
        clear ho4 hx4 hf4 hg4 hu4
        go_roundw
        case rel => exact ⟨j + 1, hjl, by go_num, by rw [HTF.out, ← List.append_assoc, HBJ.out]; exact h4⟩
        case measure => simp [intOf]; omega
      · have hjl' : ¬ (j : Int) < (fb.length : Int) := by omega
        have hfin : bh ++ (fb.take j).flatMap encN = bs ++ (hd ++ fb.flatMap encN) := by rw [List.take_of_length_le (by omega), ← HBB.out, List.append_assoc]
        rw [hfin] at hst
        clear hfin
        go_wp2_with fail
        go_roundw
        case rel => exact HNX.out _ _ hst
        case measure => simp [intOf]; omega
end Go.Proofs.Ytpbknnkobhjjcaa
