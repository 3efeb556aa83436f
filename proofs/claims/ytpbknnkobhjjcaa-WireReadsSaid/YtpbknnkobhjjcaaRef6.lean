/- The reference of layer 6: encodings. -/
import Derived.Test.YtpbknnkobhjjcaaKnown
namespace Go.Proofs.Ytpbknnkobhjjcaa
open Go.RowKit

def RGroupRel (w : World) (all : List UInt8) (v' t : Value) (wr : World) : Prop :=
  ∃ (f m : Nat) (bs : List UInt8), f ≤ 9 ∧ m < 128 ^ (f + 1) ∧ m < 18446744073709551616 ∧ t = .int .u64 m ∧ all = bs ++ grpF f m ∧ Row wr v' bs ∧ Touch [] w wr ∧ ∀ g ∈ blk v', w.heap.size ≤ g
theorem Touch.fresh {w w1 w2 : World} {v : Value} (h : Touch [] w w1) (hn : ∀ g ∈ blk v, w.heap.size ≤ g) (h2 : Touch (blk v) w1 w2) : Touch [] w w2 := h.step h2 (fun m hm => .inr (hn m hm))
theorem From.fresh {w w1 : World} {v v2 : Value} (h : Touch [] w w1) (hn : ∀ g ∈ blk v, w.heap.size ≤ g) (h2 : From w1 v v2) : ∀ g ∈ blk v2, w.heap.size ≤ g := fun g hg => by
  rcases h2 g hg with h3 | h3
  · exact hn g h3
  · exact Nat.le_trans h.size h3
/-- New bytes that a call returns. -/
def NewBytes (w : World) (l : List UInt8) (r : Ending) (w' : World) : Prop := ∃ v, r = .returned v ∧ Row w' v l ∧ Touch [] w w' ∧ ∀ g ∈ blk v, w.heap.size ≤ g

set_option maxRecDepth 100000 in
set_option maxHeartbeats 400000 in
theorem rgroup_any (n : Nat) (w : World) (hn : n < 18446744073709551616) :
    Calls Try.prog 27 #[.int .u64 n] w (NewBytes w (grp n)) := by
  have hall := grp_len n
  have hst : RGroupRel w (grp n) (.slice none 0 0) (.int .u64 n) w := ⟨9, n, [], by omega, by omega, hn, rfl, rfl, Row.nil w, Touch.refl _ _, fun g hg => by cases hg⟩
  generalize grp n = all at *
  clear hn
  go_enter Try.func27, Try.ntmps27
  go_wp2_with fail
  go_loopw [3, 0] (fun v' t wr => RGroupRel w all v' t wr) (fun _ t _ => (intOf t).toNat)
  case atStart => exact hst
  case round =>
    clear hst
    obtain ⟨f, m, bs', hf, hm, hm2, rfl, hal, hr, hg, hfr⟩ := hrel
    have hal2 : bs'.length ≤ 1000010 := by rw [hal] at hall; simp at hall; omega
    have Hal := Lib.hid hal
    have HFr := Lib.hid hfr
    clear hal hfr
    by_cases hlt : 128 ≤ m
    · have hb : Value.int .u8 ((m : Int) % 128 + 128) = B (UInt8.ofNat (m % 128 + 128)) := by
        rw [← B_small (m % 128 + 128) (by omega)]
        rfl
      have HB := Lib.hid hb
      clear hb
      have hdiv : ((m : Int) / 128) = ((m / 128 : Nat) : Int) := by omega
      have HD := Lib.hid hdiv
      clear hdiv
      go_wp2_with (at_builtin; go_must (refine app_new elem_u8 hr [Value.int .u8 ((m : Int) % 128 + 128)] 1 1 (by omega) (by unfold maxLen; omega) ?_); intro v1 w1 ho1 hg1 hf1)
      go_roundw
      case rel =>
        rw [HB.out] at ho1
        rw [HD.out]
        cases f with
        | zero => exact absurd hm (by simp; omega)
        | succ f =>
          refine ⟨f, m / 128, bs' ++ [UInt8.ofNat (m % 128 + 128)], by omega, ?_, by omega, rfl, ?_, Row.snoc ho1, hg.fresh HFr.out hg1, From.fresh hg HFr.out hf1⟩
          · rw [Nat.pow_succ] at hm
            omega
          · rw [Hal.out, List.append_assoc]
            congr 1
            rw [grpF, if_neg (by omega)]
            rfl
      case measure => simp [intOf]; omega
    · go_wp2_with (at_builtin; go_must (refine app_new elem_u8 hr [Value.int .u8 (m : Int)] 1 1 (by omega) (by unfold maxLen; omega) ?_); intro v1 w1 ho1 hg1 hf1)
      go_ret
      refine ⟨v1, rfl, ?_, hg.fresh HFr.out hg1, From.fresh hg HFr.out hf1⟩
      rw [B_small m (by omega)] at ho1
      have e : grpF f m = [UInt8.ofNat m] := by cases f; rfl; rw [grpF, if_pos (by omega)]
      rw [Hal.out, e]
      exact Row.snoc ho1
theorem rgroup_int (n : Int) (w : World) (h0 : 0 ≤ n) (hn : n < 18446744073709551616) :
    Calls Try.prog 27 #[.int .u64 n] w (NewBytes w (grp n.toNat)) := by
  obtain ⟨k, rfl⟩ := Int.eq_ofNat_of_zero_le h0
  exact rgroup_any k w (by omega)

theorem rfold_any (n : Int) (w : World) (hf : Fits n) :
    Calls Try.prog 31 #[.int .i64 n] w fun r w' => r = .returned (.int .u64 (fold n)) ∧ w = w' := by
  obtain ⟨h1, h2⟩ := hf
  by_cases hn : n < 0
  · have e : (fold n : Int) = -(n + 1) * 2 + 1 := by unfold fold; rw [if_pos hn]; omega
    rw [e]
    clear e
    go_enter Try.func31, Try.ntmps31
    go_wp2
    go_ret
    exact ⟨rfl, rfl⟩
  · have e : (fold n : Int) = n * 2 := by unfold fold; rw [if_neg hn]; omega
    rw [e]
    clear e
    go_enter Try.func31, Try.ntmps31
    go_wp2
    go_ret
    exact ⟨rfl, rfl⟩

set_option maxRecDepth 100000 in
set_option maxHeartbeats 400000 in
theorem rstring_any (v : Value) (l : List UInt8) (w : World) (hv : Bytes w v l) (hl : l.length ≤ 1099511627776) :
    Calls Try.prog 28 #[v] w (NewBytes w (grp l.length ++ l)) := by
  obtain ⟨A, cap, rfl, _, _, _, _⟩ := id hv
  have hgl := grp_len l.length
  go_enter Try.func28, Try.ntmps28
  go_wp2_with fail
  refine (rgroup_any l.length w (by omega)).mono ?_
  rintro r w1 ⟨v1, rfl, hr1, ht1, hn1⟩
  have hv1 := Reads.touch0 hv ht1
  have HN := Lib.hid hn1
  clear hn1
  go_wp2_with (at_builtin; go_must (refine app_reads elem_u8 hr1 hv1 (B_ones l) (by simp; omega) (by unfold maxLen; simp; omega) ?_); intro v2 w2 ho2 ht2 hf2)
  go_ret
  refine ⟨v2, rfl, ?_, ht1.fresh HN.out ht2, From.fresh ht1 HN.out hf2⟩
  unfold Row
  rw [List.length_append, List.map_append]
  exact ho2

def RIntsRel (w : World) (l : List Int) (v' t : Value) (wr : World) : Prop :=
  ∃ k : Nat, k ≤ l.length ∧ t = .int .i64 k ∧ Row wr v' (grp l.length ++ encs (l.take k)) ∧ Touch [] w wr ∧ ∀ g ∈ blk v', w.heap.size ≤ g
theorem encs_len (l : List Int) : (encs l).length ≤ 10 * l.length := by
  induction l with
  | nil => simp [encs]
  | cons n l ih =>
    have h := grp_len (fold n)
    have e : encs (n :: l) = grp (fold n) ++ encs l := by simp [encs]
    rw [e, List.length_append, List.length_cons]
    omega

set_option maxRecDepth 100000 in
set_option maxHeartbeats 400000 in
theorem rints_any (v : Value) (l : List Int) (w : World) (hv : Ints w v l) (hl : l.length ≤ 1099511627776) :
    Calls Try.prog 76 #[v] w (NewBytes w (grp l.length ++ encs l)) := by
  obtain ⟨A, cap, rfl, hcap, hmax, _, hcells⟩ := id hv.1
  have hgl := grp_len l.length
  have HC := Lib.hid hcells
  clear hcells
  go_enter Try.func76, Try.ntmps76
  go_wp2_with fail
  refine (rgroup_any l.length w (by omega)).mono ?_
  rintro r w1 ⟨v1, rfl, hr1, ht1, hn1⟩
  have HN := Lib.hid hn1
  clear hn1
  go_wp2_with fail
  unfold maxLen at hmax
  go_loopw [3, 4] (fun v' t wr => RIntsRel w l v' t wr) (fun _ t _ => l.length - (intOf t).toNat)
  case atStart => exact ⟨0, by omega, rfl, by simpa [encs] using hr1, ht1, HN.out⟩
  case round =>
    clear hr1 ht1 HN
    obtain ⟨k, hk, rfl, hr1, ht1, hn1⟩ := hrel
    have HN := Lib.hid hn1
    clear hn1
    by_cases hlt : k < l.length
    · obtain ⟨b, off, rfl, hbl, hcell⟩ := (HC.out) (by omega)
      have hck : wr.cell? ⟨b, off + k, none⟩ = some (.int .i64 l[k]) := by
        rw [ht1.cell (p := ⟨b, off + k, none⟩) hbl (by simp)]
        exact hcell k _ (by simp [I])
      have hfit := hv.2 l[k] (List.getElem_mem hlt)
      have hlk := encs_len (l.take k)
      have hlk2 : (l.take k).length ≤ k := List.length_take_le _ _
      generalize hcur : grp l.length ++ encs (l.take k) = cur at *
      have hcl : cur.length ≤ 10995116277770 := by rw [← hcur, List.length_append]; omega
      have HCur := Lib.hid hcur
      clear hcur hcell
      go_wp2_with fail
      refine (rfold_any l[k] wr hfit).mono ?_
      rintro r w' ⟨rfl, rfl⟩
      go_wp2_with fail
      refine (rgroup_any (fold l[k]) wr (fold_lt _ hfit.1 hfit.2)).mono ?_
      rintro r w2 ⟨v2, rfl, hr2, ht2, hn2⟩
      have hr1' := Own.touch0 hr1 ht2
      have hg2 := grp_len (fold l[k])
      clear hn2
      go_wp2_with (at_builtin; go_must (refine app_reads elem_u8 hr1' hr2.bytes (B_ones _) (by omega) (by unfold maxLen; omega) ?_); intro v3 w3 ho3 ht3 hf3)
      go_roundw
      case rel =>
        refine ⟨k + 1, by omega, by go_num, ?_, (ht1.then0 ht2).fresh HN.out ht3, From.fresh (ht1.then0 ht2) HN.out hf3⟩
        rw [encs_take l k hlt, ← List.append_assoc, HCur.out]
        unfold Row
        rw [List.length_append, List.map_append]
        exact ho3
      case measure => simp [intOf]; omega
    · have e0 : k = l.length := by omega
      subst e0
      rw [List.take_length] at hr1
      go_wp2_with fail
      go_ret
      exact ⟨_, rfl, hr1, ht1, HN.out⟩
end Go.Proofs.Ytpbknnkobhjjcaa
