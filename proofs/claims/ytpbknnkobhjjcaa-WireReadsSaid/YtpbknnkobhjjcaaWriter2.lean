/- The methods of the writer of package wire. -/
import Derived.Test.YtpbknnkobhjjcaaWriter
namespace Go.Proofs.Ytpbknnkobhjjcaa
open Go.RowKit

theorem Wr.blk1 {w w1 : World} {p : Nat} {out : Value} {bs : List UInt8} (h : Wr w p out (0, bs)) (ht : Touch (blk out) w w1) : Blk w1 p 30 #[.int .i64 0, out] :=
  h.1.touch ht ((h.2 rfl).1.ne_blk h.1 (by decide))
theorem Wr.row {w : World} {p : Nat} {out : Value} {bs : List UInt8} (h : Wr w p out (0, bs)) : Row w out bs ∧ bs.length ≤ 65536 := h.2 rfl

set_option maxRecDepth 100000 in
set_option maxHeartbeats 400000 in
theorem wr_uint (p : Nat) (out : Value) (s : WS) (n : Int) (w : World) (h : Wr w p out s) (h2 : n ≤ 9223372036854775807) :
    Calls Try.prog 29 #[.pointer (some ⟨p, 0, none⟩), .int .i64 n] w (WrDone w p out (wUint s n)) := by
  obtain ⟨e, bs⟩ := s
  by_cases h0 : e = 0
  · subst h0
    obtain ⟨hrow, hlen⟩ := h.row
    by_cases hn : n < 0
    · rw [show wUint (0, bs) n = wErr (0, bs) 2 from if_pos hn]
      go_enter Try.func29, Try.ntmps29
      go_wp2_with fail
      refine (ready_any p _ out 0 w h.1).mono ?_
      rintro r w' ⟨rfl, rfl⟩
      go_wp2_with fail
      refine (note_first p _ _ 2 w h.1 (by simp)).mono ?_
      rintro r w' ⟨rfl, rfl⟩
      go_wp2
      refine bodyPost_ret (results_none rfl _ _ _) rfl ?_
      exact h.err rfl 2 (by decide)
    · rw [show wUint (0, bs) n = wPut (0, bs) (grp n.toNat) from if_neg hn]
      have hc := h.1.cell 1
      simp at hc
      go_enter Try.func29, Try.ntmps29
      go_wp2_with fail
      refine (ready_any p _ out 0 w h.1).mono ?_
      rintro r w' ⟨rfl, rfl⟩
      go_wp2_with fail
      refine (groups_int out bs n w (by omega) (by omega) hrow (by omega)).mono ?_
      rintro r w1 ⟨v1, rfl, hr1, ht1, hf1⟩
      go_wp2_with fail
      refine (keep_any p out v1 _ w1 (h.blk1 ht1) hr1).mono ?_
      rintro r w' ⟨rfl, hk⟩
      go_wp2
      go_end0
      exact h.kept rfl ht1 hr1 hf1 hk
  · rw [wUint_bad _ _ h0]
    have h0' : (e == 0) = false := by simpa using h0
    go_enter Try.func29, Try.ntmps29
    go_wp2_with fail
    refine (ready_any p _ out e w h.1).mono ?_
    rintro r w' ⟨rfl, rfl⟩
    go_wp2
    refine bodyPost_ret (results_none rfl _ _ _) rfl ?_
    exact h.same

set_option maxRecDepth 100000 in
set_option maxHeartbeats 400000 in
theorem wr_int (p : Nat) (out : Value) (s : WS) (n : Int) (w : World) (h : Wr w p out s) (h1 : -9223372036854775808 ≤ n) (h2 : n ≤ 9223372036854775807) :
    Calls Try.prog 30 #[.pointer (some ⟨p, 0, none⟩), .int .i64 n] w (WrDone w p out (wInt s n)) := by
  obtain ⟨e, bs⟩ := s
  by_cases h0 : e = 0
  · subst h0
    obtain ⟨hrow, hlen⟩ := h.row
    have hc := h.1.cell 1
    simp at hc
    go_enter Try.func30, Try.ntmps30
    go_wp2_with fail
    refine (ready_any p _ out 0 w h.1).mono ?_
    rintro r w' ⟨rfl, rfl⟩
    go_wp2_with fail
    refine (signed_any out bs n w h1 h2 hrow (by omega)).mono ?_
    rintro r w1 ⟨v1, rfl, hr1, ht1, hf1⟩
    go_wp2_with fail
    refine (keep_any p out v1 _ w1 (h.blk1 ht1) hr1).mono ?_
    rintro r w' ⟨rfl, hk⟩
    go_wp2
    go_end0
    exact h.kept rfl ht1 hr1 hf1 hk
  · rw [show wInt (e, bs) n = (e, bs) from wPut_bad _ _ h0]
    have h0' : (e == 0) = false := by simpa using h0
    go_enter Try.func30, Try.ntmps30
    go_wp2_with fail
    refine (ready_any p _ out e w h.1).mono ?_
    rintro r w' ⟨rfl, rfl⟩
    go_wp2
    go_end0
    exact h.same

set_option maxRecDepth 100000 in
set_option maxHeartbeats 400000 in
theorem wr_bool (p : Nat) (out : Value) (s : WS) (b : Bool) (w : World) (h : Wr w p out s) :
    Calls Try.prog 25 #[.pointer (some ⟨p, 0, none⟩), .bool b] w (WrDone w p out (wBool s b)) := by
  obtain ⟨e, bs⟩ := s
  by_cases h0 : e = 0
  · subst h0
    obtain ⟨hrow, hlen⟩ := h.row
    have hc := h.1.cell 1
    simp at hc
    cases b
    · go_enter Try.func25, Try.ntmps25
      go_wp2_with fail
      refine (ready_any p _ out 0 w h.1).mono ?_
      rintro r w' ⟨rfl, rfl⟩
      go_wp2_with (at_builtin; go_must (refine app_new elem_u8 hrow [Value.int .u8 0] 1 1 (by omega) (by unfold maxLen; omega) ?_); intro v1 w1 ho1 ht1 hf1)
      have hr1 : Row w1 v1 (bs ++ [0]) := Row.snoc ho1
      refine (keep_any p out v1 _ w1 (h.blk1 ht1) hr1).mono ?_
      rintro r w' ⟨rfl, hk⟩
      go_wp2
      go_end0
      exact h.kept rfl ht1 hr1 hf1 hk
    · go_enter Try.func25, Try.ntmps25
      go_wp2_with fail
      refine (ready_any p _ out 0 w h.1).mono ?_
      rintro r w' ⟨rfl, rfl⟩
      go_wp2_with (at_builtin; go_must (refine app_new elem_u8 hrow [Value.int .u8 1] 1 1 (by omega) (by unfold maxLen; omega) ?_); intro v1 w1 ho1 ht1 hf1)
      have hr1 : Row w1 v1 (bs ++ [1]) := Row.snoc ho1
      refine (keep_any p out v1 _ w1 (h.blk1 ht1) hr1).mono ?_
      rintro r w' ⟨rfl, hk⟩
      go_wp2
      go_end0
      exact h.kept rfl ht1 hr1 hf1 hk
  · rw [show wBool (e, bs) b = (e, bs) from wPut_bad _ _ h0]
    have h0' : (e == 0) = false := by simpa using h0
    go_enter Try.func25, Try.ntmps25
    go_wp2_with fail
    refine (ready_any p _ out e w h.1).mono ?_
    rintro r w' ⟨rfl, rfl⟩
    go_wp2
    refine bodyPost_ret (results_none rfl _ _ _) rfl ?_
    exact h.same

/-- A slice of bytes that is read. -/
def Bytes (w : World) (v : Value) (l : List UInt8) : Prop := Reads w 1 v l.length (l.map B)
theorem Row.bytes {w : World} {v : Value} {l : List UInt8} (h : Row w v l) : Bytes w v l := Own.reads h

set_option maxRecDepth 100000 in
set_option maxHeartbeats 400000 in
theorem text_bytes (p : Nat) (out v : Value) (s : WS) (l : List UInt8) (w : World) (h : Wr w p out s) (hv : Bytes w v l) (hd : s.1 = 0 → ∀ g ∈ rb v, g ∉ blk out) :
    Calls Try.prog 77 #[.pointer (some ⟨p, 0, none⟩), v] w (WrDone w p out (wBytes s l)) := by
  obtain ⟨e, bs⟩ := s
  obtain ⟨A, cap, rfl, hcap, _, _, _⟩ := id hv
  by_cases h0 : e = 0
  · subst h0
    obtain ⟨hrow, hlen⟩ := h.row
    replace hd := hd rfl
    by_cases hl : 65536 < l.length
    · have hl' : (65536 : Int) < (l.length : Int) := by omega
      have e1 : wBytes (0, bs) l = wErr (0, bs) 7 := by
        unfold wBytes wPut wErr
        simp only [if_true]
        rw [if_neg (by simp; omega)]
      rw [e1]
      clear e1
      go_enter Try.func77, Try.ntmps77
      go_wp2_with fail
      refine (ready_any p _ out 0 w h.1).mono ?_
      rintro r w' ⟨rfl, rfl⟩
      go_wp2_with fail
      refine (note_first p _ _ 7 w h.1 (by simp)).mono ?_
      rintro r w' ⟨rfl, rfl⟩
      go_wp2
      refine bodyPost_ret (results_none rfl _ _ _) rfl ?_
      exact h.err rfl 7 (by decide)
    · have hl' : ¬ (65536 : Int) < (l.length : Int) := by omega
      have hc := h.1.cell 1
      simp at hc
      have hgl := grp_len l.length
      go_enter Try.func77, Try.ntmps77
      go_wp2_with fail
      refine (ready_any p _ out 0 w h.1).mono ?_
      rintro r w' ⟨rfl, rfl⟩
      go_wp2_with fail
      refine (groups_any out bs l.length w (by omega) hrow (by omega)).mono ?_
      rintro r w1 ⟨v1, rfl, hr1, ht1, hf1⟩
      have hv1 := Reads.touch hv ht1 hd
      go_wp2_with (at_builtin; go_must (refine app_reads elem_u8 hr1 hv1 (B_ones l) (by simp; omega) (by unfold maxLen; simp; omega) ?_); intro v2 w2 ho2 ht2 hf2)
      have hr2 : Row w2 v2 (bs ++ (grp l.length ++ l)) := by
        unfold Row
        rw [← List.append_assoc, List.length_append, List.map_append]
        exact ho2
      refine (keep_any p out v2 _ w2 (h.blk1 (ht1.next hf1 ht2)) hr2).mono ?_
      rintro r w' ⟨rfl, hk⟩
      go_wp2
      go_end0
      exact h.kept rfl (ht1.next hf1 ht2) hr2 (hf1.trans hf2 ht1.size) hk
  · rw [show wBytes (e, bs) l = (e, bs) from wPut_bad _ _ h0]
    have h0' : (e == 0) = false := by simpa using h0
    go_enter Try.func77, Try.ntmps77
    go_wp2_with fail
    refine (ready_any p _ out e w h.1).mono ?_
    rintro r w' ⟨rfl, rfl⟩
    go_wp2
    refine bodyPost_ret (results_none rfl _ _ _) rfl ?_
    exact h.same

end Go.Proofs.Ytpbknnkobhjjcaa
