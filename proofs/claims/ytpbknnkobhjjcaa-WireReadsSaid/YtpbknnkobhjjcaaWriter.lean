/- The writer of package wire: contracts of its functions. -/
import Derived.Test.YtpbknnkobhjjcaaProg
import Derived.Test.YtpbknnkobhjjcaaBase
import Derived.Test.YtpbknnkobhjjcaaPlain
import Derived.IntWalk
namespace Go.Proofs.Ytpbknnkobhjjcaa
open Go.RowKit

/-- A row of bytes of the call's own. -/
def Row (w : World) (v : Value) (bs : List UInt8) : Prop := Own w 5 1 v bs.length (bs.map B)

theorem elem_u8 : Elem Try.prog 28 5 1 1 := Elem.mk (z := .int .u8 0) Try.underlying28 (by kernel_rfl) rfl (by decide)

theorem Row.snoc {w : World} {v : Value} {bs : List UInt8} {y : UInt8} (h : Own w 5 1 v (bs.length + 1) (bs.map B ++ [B y])) : Row w v (bs ++ [y]) := by
  unfold Row
  simpa using h
theorem Row.nil (w : World) : Row w (.slice none 0 0) [] := Own.nil w _ _
theorem B_one (x : UInt8) : (B x).oneCell' = true := rfl
theorem B_ones (bs : List UInt8) : ∀ u ∈ bs.map B, u.oneCell' = true := by
  intro u hu
  obtain ⟨x, _, rfl⟩ := List.mem_map.1 hu
  rfl

def GroupsRel (w : World) (v : Value) (all : List UInt8) (v' t : Value) (wr : World) : Prop :=
  ∃ (f m : Nat) (bs : List UInt8), f ≤ 9 ∧ m < 128 ^ (f + 1) ∧ m < 18446744073709551616 ∧ t = .int .u64 m ∧ all = bs ++ grpF f m ∧ Row wr v' bs ∧ Touch (blk v) w wr ∧ From w v v'

set_option maxRecDepth 100000 in
set_option maxHeartbeats 400000 in
theorem groups_any (v : Value) (bs : List UInt8) (n : Nat) (w : World) (hn : n < 18446744073709551616) (hrow : Row w v bs) (hl : bs.length ≤ 1000000) :
    Calls Try.prog 81 #[v, .int .u64 n] w fun e w' => ∃ v', e = .returned v' ∧ Row w' v' (bs ++ grp n) ∧ Touch (blk v) w w' ∧ From w v v' := by
  have hall : (bs ++ grp n).length ≤ 1000010 := by have := grp_len n; simp; omega
  have hst : GroupsRel w v (bs ++ grp n) v (.int .u64 n) w := ⟨9, n, bs, by omega, by omega, hn, rfl, rfl, hrow, Touch.refl _ _, From.refl _ _⟩
  generalize bs ++ grp n = all at *
  clear hrow hl hn
  go_enter Try.func81, Try.ntmps81
  go_wp2_with fail
  go_loopw [0, 1] (fun v' t wr => GroupsRel w v all v' t wr) (fun _ t _ => (intOf t).toNat)
  case atStart => exact hst
  case round =>
    clear hst
    obtain ⟨f, m, bs', hf, hm, hm2, rfl, hal, hr, hg, hfr⟩ := hrel
    have hal2 : bs'.length ≤ 1000010 := by rw [hal] at hall; simp at hall; omega
    have Hal := Lib.hid hal
    clear hal
    by_cases hlt : 127 < m
    · have hb := B_or128 m
      have HB := Lib.hid hb
      clear hb
      have hdiv : ((m : Int) / 128) = ((m / 128 : Nat) : Int) := by omega
      have HD := Lib.hid hdiv
      clear hdiv
      go_wp2_with (at_builtin; go_must (refine app_new elem_u8 hr [Value.int .u8 (bits .or .u8 ((m : Int) % 256) 128)] 1 1 (by omega) (by unfold maxLen; omega) ?_); intro v1 w1 ho1 hg1 hf1)
      go_roundw
      case rel =>
        rw [HB.out] at ho1
        rw [HD.out]
        cases f with
        | zero => exact absurd hm (by simp; omega)
        | succ f =>
          refine ⟨f, m / 128, bs' ++ [UInt8.ofNat (m % 128 + 128)], by omega, ?_, by omega, rfl, ?_, Row.snoc ho1, hg.next hfr hg1, hfr.trans hf1 hg.size⟩
          · rw [Nat.pow_succ] at hm
            omega
          · rw [Hal.out, List.append_assoc]
            congr 1
            rw [grpF, if_neg (by omega)]
            rfl
      case measure => simp [intOf]; omega
    · go_wp2_with (at_builtin; go_must (refine app_new elem_u8 hr [Value.int .u8 (m : Int)] 1 1 (by omega) (by unfold maxLen; omega) ?_); intro v1 w1 ho1 hg1 hf1)
      go_ret
      refine ⟨v1, rfl, ?_, hg.next hfr hg1, hfr.trans hf1 hg.size⟩
      rw [B_small m (by omega)] at ho1
      have e : grpF f m = [UInt8.ofNat m] := by cases f; rfl; rw [grpF, if_pos (by omega)]
      rw [Hal.out, e]
      exact Row.snoc ho1
theorem groups_int (v : Value) (bs : List UInt8) (n : Int) (w : World) (h0 : 0 ≤ n) (hn : n < 18446744073709551616) (hrow : Row w v bs) (hl : bs.length ≤ 1000000) :
    Calls Try.prog 81 #[v, .int .u64 n] w fun e w' => ∃ v', e = .returned v' ∧ Row w' v' (bs ++ grp n.toNat) ∧ Touch (blk v) w w' ∧ From w v v' := by
  obtain ⟨k, rfl⟩ := Int.eq_ofNat_of_zero_le h0
  rw [Int.toNat_natCast]
  exact groups_any v bs k w (by omega) hrow hl

set_option maxRecDepth 100000 in
set_option maxHeartbeats 400000 in
theorem signed_any (v : Value) (bs : List UInt8) (n : Int) (w : World) (h1 : -9223372036854775808 ≤ n) (h2 : n ≤ 9223372036854775807) (hrow : Row w v bs) (hl : bs.length ≤ 1000000) :
    Calls Try.prog 82 #[v, .int .i64 n] w fun e w' => ∃ v', e = .returned v' ∧ Row w' v' (bs ++ grp (fold n)) ∧ Touch (blk v) w w' ∧ From w v v' := by
  have hc := groups_any v bs (fold n) w (fold_lt n h1 h2) hrow hl
  have HC := Lib.hid hc
  clear hc
  by_cases hn : n < 0
  · have he := or_one n h1 hn
    have HE := Lib.hid he
    clear he
    go_enter Try.func82, Try.ntmps82
    go_wp2_with fail
    rw [HE.out]
    refine (HC.out).mono ?_
    rintro e w' ⟨v', rfl, h3, h4, h5⟩
    go_wp2
    go_ret
    exact ⟨v', rfl, h3, h4, h5⟩
  · have he : (n * 2 : Int) = (fold n : Int) := by unfold fold; rw [if_neg hn]; omega
    have HE := Lib.hid he
    clear he
    go_enter Try.func82, Try.ntmps82
    go_wp2_with fail
    rw [HE.out]
    refine (HC.out).mono ?_
    rintro e w' ⟨v', rfl, h3, h4, h5⟩
    go_wp2
    go_ret
    exact ⟨v', rfl, h3, h4, h5⟩

/-- A writer in block p: its first error and, while there is none, its encoding. -/
def Wr (w : World) (p : Nat) (out : Value) (s : WS) : Prop :=
  Blk w p 30 #[.int .i64 s.1, out] ∧ (s.1 = 0 → Row w out s.2 ∧ s.2.length ≤ 65536)
/-- What a method of a writer leaves. -/
def WrDone (w : World) (p : Nat) (out : Value) (s' : WS) (r : Ending) (w' : World) : Prop :=
  r = .returned (.tuple #[]) ∧ ∃ out', Wr w' p out' s' ∧ Touch (p :: blk out) w w' ∧ From w out out'

theorem Wr.same {w : World} {p : Nat} {out : Value} {s : WS} (h : Wr w p out s) : WrDone w p out s (.returned (.tuple #[])) w := ⟨rfl, out, h, Touch.refl _ _, From.refl _ _⟩
theorem Wr.err {w : World} {p : Nat} {out : Value} {s : WS} (h : Wr w p out s) (h0 : s.1 = 0) (k : Int) (hk : k ≠ 0) : WrDone w p out (wErr s k) (.returned (.tuple #[])) (w.setCell ⟨p, 0, none⟩ (.int .i64 k)) := by
  refine ⟨rfl, out, ⟨?_, fun h1 => ?_⟩, (Touch.refl _ _).setCell (.inl (by simp)) _, From.refl _ _⟩
  · have := h.1.set_ 0 (.int .i64 k)
    unfold wErr; rw [if_pos h0]
    simpa using this
  · unfold wErr at h1; rw [if_pos h0] at h1
    exact absurd h1 hk
def Kept (w : World) (p : Nat) (v : Value) (n : Nat) (w' : World) : Prop := w' = if n ≤ 65536 then w.setCell ⟨p, 1, none⟩ v else w.setCell ⟨p, 0, none⟩ (.int .i64 7)
theorem Wr.kept {w w1 w' : World} {p : Nat} {out v : Value} {s : WS} {enc : List UInt8} (h : Wr w p out s) (h0 : s.1 = 0) (ht : Touch (blk out) w w1) (hr : Row w1 v (s.2 ++ enc)) (hf : From w out v) (hk : Kept w1 p v (s.2 ++ enc).length w') :
    WrDone w p out (wPut s enc) (.returned (.tuple #[])) w' := by
  subst hk
  have hp : p ∉ blk out := (h.2 h0).1.ne_blk h.1 (by decide)
  have hb1 := h.1.touch ht hp
  have hp1 : p ∉ blk v := hr.ne_blk hb1 (by decide)
  have htt : Touch (p :: blk out) w w1 := ht.mono (fun m hm => by simp [hm])
  unfold wPut
  rw [if_pos h0]
  by_cases hl : s.2.length + enc.length ≤ 65536
  · rw [if_pos hl, if_pos (by simpa using hl)]
    refine ⟨rfl, v, ⟨?_, fun _ => ⟨?_, by simpa using hl⟩⟩, htt.setCell (.inl (by simp)) _, hf⟩
    · have := hb1.set_ 1 v
      simpa [h0] using this
    · exact Own.touch hr ((Touch.refl [p] w1).setCell (.inl (by simp)) _) (fun b hb hm => by simp at hm; subst hm; exact hp1 hb)
  · rw [if_neg hl, if_neg (by simpa using hl)]
    refine ⟨rfl, out, ⟨?_, fun h1 => by simp at h1⟩, htt.setCell (.inl (by simp)) _, From.refl _ _⟩
    have := hb1.set_ 0 (.int .i64 7)
    simpa using this

set_option maxRecDepth 100000 in
set_option maxHeartbeats 400000 in
theorem ready_any (p : Nat) (t : TypeId) (out : Value) (e : Int) (w : World) (hb : Blk w p t #[.int .i64 e, out]) :
    Calls Try.prog 78 #[.pointer (some ⟨p, 0, none⟩)] w fun r w' => r = .returned (.bool (e == 0)) ∧ w = w' := by
  have hc := hb.cell 0
  simp at hc
  go_enter Try.func78, Try.ntmps78
  go_wp2
  go_ret
  exact ⟨rfl, rfl⟩

set_option maxRecDepth 100000 in
set_option maxHeartbeats 400000 in
theorem ready_nil (w : World) : Calls Try.prog 78 #[.pointer none] w fun r w' => r = .returned (.bool false) ∧ w = w' := by
  go_enter Try.func78, Try.ntmps78
  go_wp2
  go_ret
  exact ⟨rfl, rfl⟩

/-- Of a writer or a reader: the first error stands in the first cell. -/
theorem note_none (p : Nat) (t : TypeId) (cs : Array Value) (e k : Int) (w : World) (hb : Blk w p t cs) (h0 : cs[0]? = some (.int .i64 e)) (he : ¬ e = 0) :
    Calls Try.prog 80 #[.pointer (some ⟨p, 0, none⟩), .int .i64 k] w fun r w' => r = .returned (.tuple #[]) ∧ w = w' := by
  have hc := hb.cell 0
  rw [h0] at hc
  have he' : (e == 0) = false := by simpa using he
  clear h0
  go_enter Try.func80, Try.ntmps80
  go_wp2
  go_end0
  exact ⟨rfl, rfl⟩
theorem note_first (p : Nat) (t : TypeId) (cs : Array Value) (k : Int) (w : World) (hb : Blk w p t cs) (h0 : cs[0]? = some (.int .i64 0)) :
    Calls Try.prog 80 #[.pointer (some ⟨p, 0, none⟩), .int .i64 k] w fun r w' => r = .returned (.tuple #[]) ∧ w.setCell ⟨p, 0, none⟩ (.int .i64 k) = w' := by
  have hc := hb.cell 0
  rw [h0] at hc
  have hf := hb.frozen 0
  clear h0
  go_enter Try.func80, Try.ntmps80
  go_wp2
  go_end0
  exact ⟨rfl, rfl⟩

theorem keep_any (p : Nat) (out v : Value) (bs : List UInt8) (w : World) (hb : Blk w p 30 #[.int .i64 0, out]) (hr : Row w v bs) :
    Calls Try.prog 79 #[.pointer (some ⟨p, 0, none⟩), v] w fun r w' => r = .returned (.tuple #[]) ∧ Kept w p v bs.length w' := by
  have hn := note_first p _ _ 7 w hb (by simp)
  have HN := Lib.hid hn
  clear hn
  have hc := hb.cell 1
  simp at hc
  have hf := hb.frozen 1
  obtain ⟨A, cap, rfl⟩ := Own.form hr
  by_cases hl : bs.length ≤ 65536
  · have hl' : ¬ (65536 : Int) < (bs.length : Int) := by omega
    go_enter Try.func79, Try.ntmps79
    go_wp2_with fail
    go_end0
    exact ⟨rfl, (if_pos hl).symm⟩
  · have hl' : (65536 : Int) < (bs.length : Int) := by omega
    go_enter Try.func79, Try.ntmps79
    go_wp2_with fail
    refine (HN.out).mono ?_
    rintro r w' ⟨rfl, rfl⟩
    go_wp2
    refine bodyPost_ret (results_none rfl _ _ _) rfl ?_
    exact ⟨rfl, (if_neg hl).symm⟩

end Go.Proofs.Ytpbknnkobhjjcaa
