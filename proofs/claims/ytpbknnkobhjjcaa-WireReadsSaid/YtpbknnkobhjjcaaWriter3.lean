/- The methods of the writer of package wire: strings, lists, the end, frames. -/
import Derived.Test.YtpbknnkobhjjcaaWriter2
namespace Go.Proofs.Ytpbknnkobhjjcaa
open Go.RowKit

theorem zero_u8 : (Try.prog.info? 5).map (·.zero) = some (some (.int .u8 0)) := by kernel_rfl

set_option maxRecDepth 100000 in
set_option maxHeartbeats 400000 in
theorem text_str (p : Nat) (out : Value) (s : WS) (y : ByteArray) (w : World) (h : Wr w p out s) (hy : y.size ≤ maxLen) :
    Calls Try.prog 96 #[.pointer (some ⟨p, 0, none⟩), .string y] w (WrDone w p out (wBytes s y.data.toList)) := by
  obtain ⟨e, bs⟩ := s
  have hsz : y.data.toList.length = y.size := by rw [Array.length_toList]; rfl
  unfold maxLen at hy
  by_cases h0 : e = 0
  · subst h0
    obtain ⟨hrow, hlen⟩ := h.row
    by_cases hl : 65536 < y.size
    · have hl' : (65536 : Int) < (y.size : Int) := by omega
      have e1 : wBytes (0, bs) y.data.toList = wErr (0, bs) 7 := by
        unfold wBytes wPut wErr
        simp only [if_true]
        rw [if_neg (by rw [List.length_append, hsz]; omega)]
      rw [e1]
      clear e1 hsz
      go_enter Try.func96, Try.ntmps96
      go_wp2_with fail
      refine (ready_any p _ out 0 w h.1).mono ?_
      rintro r w' ⟨rfl, rfl⟩
      go_wp2_with fail
      refine (note_first p _ _ 7 w h.1 (by simp)).mono ?_
      rintro r w' ⟨rfl, rfl⟩
      go_wp2
      refine bodyPost_ret (results_none rfl _ _ _) rfl ?_
      exact h.err rfl 7 (by decide)
    · have hl' : ¬ (65536 : Int) < (y.size : Int) := by omega
      have hc := h.1.cell 1
      simp at hc
      have hgl := grp_len y.size
      have Hsz := Lib.hid hsz
      clear hsz
      go_enter Try.func96, Try.ntmps96
      go_wp2_with fail
      refine (ready_any p _ out 0 w h.1).mono ?_
      rintro r w' ⟨rfl, rfl⟩
      go_wp2_with fail
      refine (groups_any out bs y.size w (by omega) hrow (by omega)).mono ?_
      rintro r w1 ⟨v1, rfl, hr1, ht1, hf1⟩
      go_wp2_with (at_builtin; go_must (refine app_str (y := y) elem_u8 zero_u8 Try.underlying9 hr1 (by simp; omega) ?_); intro v2 w2 ho2 ht2 hf2)
      have hr2 : Row w2 v2 (bs ++ (grp y.data.toList.length ++ y.data.toList)) := by
        unfold Row
        rw [Hsz.out, ← List.append_assoc, List.length_append (bs := y.data.toList), Hsz.out, List.map_append]
        exact ho2
      refine (keep_any p out v2 _ w2 (h.blk1 (ht1.next hf1 ht2)) hr2).mono ?_
      rintro r w' ⟨rfl, hk⟩
      go_wp2
      go_end0
      exact h.kept rfl (ht1.next hf1 ht2) hr2 (hf1.trans hf2 ht1.size) hk
  · rw [show wBytes (e, bs) y.data.toList = (e, bs) from wPut_bad _ _ h0]
    have h0' : (e == 0) = false := by simpa using h0
    clear hsz
    go_enter Try.func96, Try.ntmps96
    go_wp2_with fail
    refine (ready_any p _ out e w h.1).mono ?_
    rintro r w' ⟨rfl, rfl⟩
    go_wp2
    refine bodyPost_ret (results_none rfl _ _ _) rfl ?_
    exact h.same

theorem wr_bytes (p : Nat) (out v : Value) (s : WS) (l : List UInt8) (w : World) (h : Wr w p out s) (hv : Bytes w v l) (hd : s.1 = 0 → ∀ g ∈ rb v, g ∉ blk out) :
    Calls Try.prog 23 #[.pointer (some ⟨p, 0, none⟩), v] w (WrDone w p out (wBytes s l)) := by
  go_enter Try.func23, Try.ntmps23
  go_wp2_with fail
  refine (text_bytes p out v s l w h hv hd).mono ?_
  rintro r w' ⟨rfl, hr⟩
  go_wp2
  go_end0
  exact ⟨rfl, hr⟩
theorem wr_str (p : Nat) (out : Value) (s : WS) (y : ByteArray) (w : World) (h : Wr w p out s) (hy : y.size ≤ maxLen) :
    Calls Try.prog 42 #[.pointer (some ⟨p, 0, none⟩), .string y] w (WrDone w p out (wBytes s y.data.toList)) := by
  go_enter Try.func42, Try.ntmps42
  go_wp2_with fail
  refine (text_str p out s y w h hy).mono ?_
  rintro r w' ⟨rfl, hr⟩
  go_wp2
  go_end0
  exact ⟨rfl, hr⟩

/-- The results of End. -/
def EndDone (w : World) (s : WS) (r : Ending) (w' : World) : Prop :=
  ∃ v, r = .returned (.tuple #[v, .int .i64 s.1]) ∧ Row w' v (if s.1 = 0 then s.2 else []) ∧ Touch [] w w' ∧ ∀ g ∈ blk v, w.heap.size ≤ g

set_option maxRecDepth 100000 in
set_option maxHeartbeats 400000 in
theorem wr_end (p : Nat) (out : Value) (s : WS) (w : World) (h : Wr w p out s) :
    Calls Try.prog 22 #[.pointer (some ⟨p, 0, none⟩)] w (EndDone w s) := by
  obtain ⟨e, bs⟩ := s
  have hc0 := h.1.cell 0
  have hc1 := h.1.cell 1
  simp at hc0 hc1
  by_cases h0 : e = 0
  · subst h0
    obtain ⟨hrow, hlen⟩ := h.row
    go_enter Try.func22, Try.ntmps22
    go_wp2_with (at_builtin; go_must (refine app_reads elem_u8 (Own.nil w _ 1) hrow.bytes (B_ones bs) (by simp; omega) (by unfold maxLen; simp; omega) ?_); intro v2 w2 ho2 ht2 hf2)
    go_ret2
    refine ⟨v2, rfl, ?_, ht2, hf2.none_⟩
    show Own w2 _ 1 v2 _ _
    simpa using ho2
  · have h0' : (e != 0) = true := by simpa using h0
    go_enter Try.func22, Try.ntmps22
    go_wp2_with fail
    go_quiet (fail)
    go_wp2
    go_ret2
    refine ⟨.slice none 0 0, rfl, ?_, (Touch.refl _ _).drewN _, fun g hg => by cases hg⟩
    simp only
    rw [if_neg h0]
    exact Row.nil _

def I (n : Int) : Value := .int .i64 n
def Fits (n : Int) : Prop := -9223372036854775808 ≤ n ∧ n ≤ 9223372036854775807
/-- A slice of ints that is read. -/
def Ints (w : World) (v : Value) (l : List Int) : Prop := Reads w 1 v l.length (l.map I) ∧ ∀ n ∈ l, Fits n

def encs (l : List Int) : List UInt8 := l.flatMap fun n => grp (fold n)
theorem encs_snoc (l : List Int) (n : Int) : encs (l ++ [n]) = encs l ++ grp (fold n) := by simp [encs]
theorem encs_take (l : List Int) (k : Nat) (h : k < l.length) : encs (l.take (k + 1)) = encs (l.take k) ++ grp (fold l[k]) := by
  rw [List.take_succ_eq_append_getElem h, encs_snoc]
theorem encs_le (l : List Int) (k : Nat) : (encs (l.take k)).length ≤ (encs l).length := by
  have e : encs l = encs (l.take k) ++ encs (l.drop k) := by
    conv => lhs; rw [← List.take_append_drop k l]
    simp only [encs, List.flatMap_append]
  rw [e, List.length_append]
  omega
def IntsRel (w : World) (out : Value) (bs : List UInt8) (l : List Int) (v' t : Value) (wr : World) : Prop :=
  ∃ k : Nat, k ≤ l.length ∧ t = .int .i64 k ∧ bs.length + (grp l.length ++ encs (l.take k)).length ≤ 65566 ∧ Row wr v' (bs ++ (grp l.length ++ encs (l.take k))) ∧ Touch (blk out) w wr ∧ From w out v'

set_option maxRecDepth 100000 in
set_option maxHeartbeats 400000 in
theorem wr_ints (p : Nat) (out v : Value) (s : WS) (l : List Int) (w : World) (h : Wr w p out s) (hv : Ints w v l) (hd : s.1 = 0 → ∀ g ∈ rb v, g ∉ blk out) :
    Calls Try.prog 43 #[.pointer (some ⟨p, 0, none⟩), v] w (WrDone w p out (wInts s l)) := by
  obtain ⟨e, bs⟩ := s
  obtain ⟨A, cap, rfl, hcap, hmax, _, hcells⟩ := id hv.1
  unfold maxLen at hmax
  by_cases h0 : e = 0
  · subst h0
    obtain ⟨hrow, hlen⟩ := h.row
    replace hd := hd rfl
    have hc := h.1.cell 1
    simp at hc
    have hgl := grp_len l.length
    have HC := Lib.hid hcells
    have HD := Lib.hid hd
    clear hcells hd
    go_enter Try.func43, Try.ntmps43
    go_wp2_with fail
    refine (ready_any p _ out 0 w h.1).mono ?_
    rintro r w' ⟨rfl, rfl⟩
    go_wp2_with fail
    refine (groups_any out bs l.length w (by omega) hrow (by omega)).mono ?_
    rintro r w1 ⟨v1, rfl, hr1, ht1, hf1⟩
    go_wp2_with fail
    go_loopw [4, 20] (fun v' t wr => IntsRel w out bs l v' t wr) (fun _ t _ => l.length - (intOf t).toNat)
    case atStart => exact ⟨0, by omega, rfl, by simp [encs]; omega, by simpa [encs] using hr1, ht1, hf1⟩
    case round =>
      clear hr1 ht1 hf1
      obtain ⟨k, hk, rfl, hb, hr1, ht1, hf1⟩ := hrel
      by_cases hlt : k < l.length
      · obtain ⟨b, off, rfl, hbl, hcell⟩ := (HC.out) (by omega)
        have hck : wr.cell? ⟨b, off + k, none⟩ = some (.int .i64 l[k]) := by
          rw [ht1.cell (p := ⟨b, off + k, none⟩) hbl ((HD.out) b (by obtain ⟨m, hm⟩ : ∃ m, l.length = m + 1 := ⟨l.length - 1, by omega⟩; rw [hm]; simp [rb]))]
          exact hcell k _ (by simp [I])
        have hfit := hv.2 l[k] (List.getElem_mem hlt)
        generalize hcur : bs ++ (grp l.length ++ encs (l.take k)) = cur at *
        have hb' : cur.length ≤ 65566 := by rw [← hcur, List.length_append]; exact hb
        have HCur := Lib.hid hcur
        clear hcur hb
        obtain ⟨A1, cap1, rfl⟩ := Own.form hr1
        by_cases hbig : 65536 < cur.length
        · have hbig' : (65536 : Int) < (cur.length : Int) := by omega
          go_wp2_with fail
          refine (keep_any p out _ cur wr (h.blk1 ht1) hr1).mono ?_
          rintro r w' ⟨rfl, hk'⟩
          go_wp2
          go_end0
          have e1 : wInts (0, bs) l = wPut (0, bs) (grp l.length ++ encs (l.take k)) := by
            have hle := encs_le l k
            have hcl : cur.length = bs.length + ((grp l.length).length + (encs (l.take k)).length) := by rw [← HCur.out]; simp
            unfold wInts wPut
            simp only [if_true]
            rw [if_neg (by have : (encs l).length = (l.flatMap fun n => grp (fold n)).length := rfl; simp only [List.length_append] at *; omega), if_neg (by simp only [List.length_append]; omega)]
          rw [e1]
          rw [← HCur.out] at hr1 hk' hf1
          exact h.kept rfl ht1 hr1 hf1 hk'
        · have hbig' : ¬ (65536 : Int) < (cur.length : Int) := by omega
          go_wp2_with fail
          refine (signed_any _ cur l[k] wr hfit.1 hfit.2 hr1 (by omega)).mono ?_
          rintro r w2 ⟨v2, rfl, hr2, ht2, hf2⟩
          go_wp2_with fail
          go_roundw
          case rel =>
            have e1 : cur ++ grp (fold l[k]) = bs ++ (grp l.length ++ encs (l.take (k + 1))) := by rw [encs_take l k hlt, ← HCur.out]; simp
            have hcl : cur.length = bs.length + ((grp l.length).length + (encs (l.take k)).length) := by rw [← HCur.out]; simp
            have hgl2 := grp_len (fold l[k])
            rw [e1] at hr2
            exact ⟨k + 1, by omega, by go_num, by rw [encs_take l k hlt]; simp only [List.length_append]; omega, hr2, ht1.next hf1 ht2, hf1.trans hf2 ht1.size⟩
          case measure => simp [intOf]; omega
      · have e0 : k = l.length := by omega
        subst e0
        rw [List.take_length] at hr1 hb
        go_wp2_with fail
        refine (keep_any p out _ _ wr (h.blk1 ht1) hr1).mono ?_
        rintro r w' ⟨rfl, hk'⟩
        go_wp2
        go_end0
        exact h.kept rfl ht1 hr1 hf1 hk'
  · rw [show wInts (e, bs) l = (e, bs) from wPut_bad _ _ h0]
    have h0' : (e == 0) = false := by simpa using h0
    go_enter Try.func43, Try.ntmps43
    go_wp2_with fail
    refine (ready_any p _ out e w h.1).mono ?_
    rintro r w' ⟨rfl, rfl⟩
    go_wp2
    refine bodyPost_ret (results_none rfl _ _ _) rfl ?_
    exact h.same

end Go.Proofs.Ytpbknnkobhjjcaa
