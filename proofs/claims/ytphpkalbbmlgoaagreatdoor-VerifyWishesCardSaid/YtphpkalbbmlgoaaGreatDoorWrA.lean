/- Plain facts on group encodings: no program in sight. -/
import Derived.WalkKit
import Derived.Test.YtphpkalbbmlgoaaGreatDoorProg
import Derived.Test.YtphpkalbbmlgoaaGreatDoorBase
import Derived.IntWalk
namespace Go.Proofs.YtphpkalbbmlgoaaGreatDoor

def B (x : UInt8) : Value := .int .u8 (x.toNat : Int)

def grpF : Nat → Nat → List UInt8
  | 0, n => [UInt8.ofNat n]
  | f + 1, n => if n < 128 then [UInt8.ofNat n] else UInt8.ofNat (n % 128 + 128) :: grpF f (n / 128)

def grp (n : Nat) : List UInt8 := grpF 9 n

theorem grpF_len (f : Nat) : ∀ n, (grpF f n).length ≤ f + 1 := by
  induction f with
  | zero => intro n; simp [grpF]
  | succ f ih => intro n; unfold grpF; split; simp; have := ih (n / 128); simp; omega

theorem grp_len (n : Nat) : (grp n).length ≤ 10 := grpF_len 9 n

theorem bits_or128 : ∀ k : Fin 256, bits .or .u8 (k.val : Int) 128 = ((k.val % 128 + 128 : Nat) : Int) := by decide +kernel

theorem B_or128 (m : Nat) : Value.int .u8 (bits .or .u8 ((m : Int) % 256) 128) = B (UInt8.ofNat (m % 128 + 128)) := by
  have h := bits_or128 ⟨m % 256, by omega⟩
  simp only at h
  have e : ((m : Int) % 256) = ((m % 256 : Nat) : Int) := by omega
  rw [e, h]
  unfold B
  congr 2
  rw [UInt8.toNat_ofNat']
  omega

theorem B_small (m : Nat) (h : m < 256) : Value.int .u8 (m : Int) = B (UInt8.ofNat m) := by
  unfold B
  congr 2
  rw [UInt8.toNat_ofNat']
  omega

abbrev WS := Int × List UInt8

def wPut (s : WS) (enc : List UInt8) : WS := if s.1 = 0 then (if s.2.length + enc.length ≤ 65536 then (0, s.2 ++ enc) else (7, s.2)) else s

def wErr (s : WS) (k : Int) : WS := if s.1 = 0 then (k, s.2) else s

def wUint (s : WS) (n : Int) : WS := if n < 0 then wErr s 2 else wPut s (grp n.toNat)

theorem wPut_bad (s : WS) (enc : List UInt8) (h : ¬ s.1 = 0) : wPut s enc = s := if_neg h

theorem wErr_bad (s : WS) (k : Int) (h : ¬ s.1 = 0) : wErr s k = s := if_neg h

theorem wUint_bad (s : WS) (n : Int) (h : ¬ s.1 = 0) : wUint s n = s := by unfold wUint; rw [wErr_bad s _ h, wPut_bad s _ h]; split <;> rfl

end Go.Proofs.YtphpkalbbmlgoaaGreatDoor

namespace Go.Proofs.YtphpkalbbmlgoaaGreatDoor
open Go.RowKit

def Row (w : World) (v : Value) (bs : List UInt8) : Prop := Own w 5 1 v bs.length (bs.map B)

theorem elem_u8 : Elem Tryz.prog 23 5 1 1 := Elem.mk (z := .int .u8 0) Tryz.underlying23 (by kernel_rfl) rfl (by decide)

theorem Row.snoc {w : World} {v : Value} {bs : List UInt8} {y : UInt8} (h : Own w 5 1 v (bs.length + 1) (bs.map B ++ [B y])) : Row w v (bs ++ [y]) := by
  unfold Row
  simpa using h

theorem Row.nil (w : World) : Row w (.slice none 0 0) [] := Own.nil w _ _

theorem B_ones (bs : List UInt8) : ∀ u ∈ bs.map B, u.oneCell' = true := by
  intro u hu
  obtain ⟨x, _, rfl⟩ := List.mem_map.1 hu
  rfl

def GroupsRel (w : World) (v : Value) (all : List UInt8) (v' t : Value) (wr : World) : Prop :=
  ∃ (f m : Nat) (bs : List UInt8), f ≤ 9 ∧ m < 128 ^ (f + 1) ∧ m < 18446744073709551616 ∧ t = .int .u64 m ∧ all = bs ++ grpF f m ∧ Row wr v' bs ∧ Touch (blk v) w wr ∧ From w v v'

set_option maxRecDepth 100000 in
set_option maxHeartbeats 400000 in
theorem groups_any (v : Value) (bs : List UInt8) (n : Nat) (w : World) (hn : n < 18446744073709551616) (hrow : Row w v bs) (hl : bs.length ≤ 1000000) :
    Calls Tryz.prog 57 #[v, .int .u64 n] w fun e w' => ∃ v', e = .returned v' ∧ Row w' v' (bs ++ grp n) ∧ Touch (blk v) w w' ∧ From w v v' := by
  have hall : (bs ++ grp n).length ≤ 1000010 := by have := grp_len n; simp; omega
  have hst : GroupsRel w v (bs ++ grp n) v (.int .u64 n) w := ⟨9, n, bs, by omega, by omega, hn, rfl, rfl, hrow, Touch.refl _ _, From.refl _ _⟩
  generalize bs ++ grp n = all at *
  clear hrow hl hn
  go_enter Tryz.func57, Tryz.ntmps57
  go_wp2_with fail
  go_loopw [0, 1] (fun v' t wr => GroupsRel w v all v' t wr) (fun _ t _ => (intOf t).toNat)
  case atStart => exact hst
  case round =>
    clear hst
    obtain ⟨f, m, bs', hf, hm, hm2, rfl, hal, hr, hg, hfr⟩ := hrel
    have hal2 : bs'.length ≤ 1000010 := by rw [hal] at hall; simp at hall; omega
    have Hal := Lib.hid hal
    clear hal
    by_cases hlt : 127 < m
    · have hb := B_or128 m
      have HB := Lib.hid hb
      clear hb
      have hdiv : ((m : Int) / 128) = ((m / 128 : Nat) : Int) := by omega
      have HD := Lib.hid hdiv
      clear hdiv
      go_wp2_with (at_builtin; go_must (refine app_new elem_u8 hr [Value.int .u8 (bits .or .u8 ((m : Int) % 256) 128)] 1 1 (by omega) (by unfold maxLen; omega) ?_); intro v1 w1 ho1 hg1 hf1)
      go_roundw
      case rel =>
        rw [HB.out] at ho1
        rw [HD.out]
        cases f with
        | zero => exact absurd hm (by simp; omega)
        | succ f =>
          refine ⟨f, m / 128, bs' ++ [UInt8.ofNat (m % 128 + 128)], by omega, ?_, by omega, rfl, ?_, Row.snoc ho1, hg.next hfr hg1, hfr.trans hf1 hg.size⟩
          · rw [Nat.pow_succ] at hm
            omega
          · rw [Hal.out, List.append_assoc]
            congr 1
            rw [grpF, if_neg (by omega)]
            rfl
      case measure => simp [intOf]; omega
    · go_wp2_with (at_builtin; go_must (refine app_new elem_u8 hr [Value.int .u8 (m : Int)] 1 1 (by omega) (by unfold maxLen; omega) ?_); intro v1 w1 ho1 hg1 hf1)
      go_ret
      refine ⟨v1, rfl, ?_, hg.next hfr hg1, hfr.trans hf1 hg.size⟩
      rw [B_small m (by omega)] at ho1
      have e : grpF f m = [UInt8.ofNat m] := by cases f; rfl; rw [grpF, if_pos (by omega)]
      rw [Hal.out, e]
      exact Row.snoc ho1

theorem groups_int (v : Value) (bs : List UInt8) (n : Int) (w : World) (h0 : 0 ≤ n) (hn : n < 18446744073709551616) (hrow : Row w v bs) (hl : bs.length ≤ 1000000) :
    Calls Tryz.prog 57 #[v, .int .u64 n] w fun e w' => ∃ v', e = .returned v' ∧ Row w' v' (bs ++ grp n.toNat) ∧ Touch (blk v) w w' ∧ From w v v' := by
  obtain ⟨k, rfl⟩ := Int.eq_ofNat_of_zero_le h0
  rw [Int.toNat_natCast]
  exact groups_any v bs k w (by omega) hrow hl

def Wr (w : World) (p : Nat) (out : Value) (s : WS) : Prop :=
  Blk w p 99 #[.int .i64 s.1, out] ∧ (s.1 = 0 → Row w out s.2 ∧ s.2.length ≤ 65536)

def WrDone (w : World) (p : Nat) (out : Value) (s' : WS) (r : Ending) (w' : World) : Prop :=
  r = .returned (.tuple #[]) ∧ ∃ out', Wr w' p out' s' ∧ Touch (p :: blk out) w w' ∧ From w out out'

theorem Wr.same {w : World} {p : Nat} {out : Value} {s : WS} (h : Wr w p out s) : WrDone w p out s (.returned (.tuple #[])) w := ⟨rfl, out, h, Touch.refl _ _, From.refl _ _⟩

theorem Wr.err {w : World} {p : Nat} {out : Value} {s : WS} (h : Wr w p out s) (h0 : s.1 = 0) (k : Int) (hk : k ≠ 0) : WrDone w p out (wErr s k) (.returned (.tuple #[])) (w.setCell ⟨p, 0, none⟩ (.int .i64 k)) := by
  refine ⟨rfl, out, ⟨?_, fun h1 => ?_⟩, (Touch.refl _ _).setCell (.inl (by simp)) _, From.refl _ _⟩
  · have := h.1.set_ 0 (.int .i64 k)
    unfold wErr; rw [if_pos h0]
    simpa using this
  · unfold wErr at h1; rw [if_pos h0] at h1
    exact absurd h1 hk

def Kept (w : World) (p : Nat) (v : Value) (n : Nat) (w' : World) : Prop := w' = if n ≤ 65536 then w.setCell ⟨p, 1, none⟩ v else w.setCell ⟨p, 0, none⟩ (.int .i64 7)

theorem Wr.kept {w w1 w' : World} {p : Nat} {out v : Value} {s : WS} {enc : List UInt8} (h : Wr w p out s) (h0 : s.1 = 0) (ht : Touch (blk out) w w1) (hr : Row w1 v (s.2 ++ enc)) (hf : From w out v) (hk : Kept w1 p v (s.2 ++ enc).length w') :
    WrDone w p out (wPut s enc) (.returned (.tuple #[])) w' := by
  subst hk
  have hp : p ∉ blk out := (h.2 h0).1.ne_blk h.1 (by decide)
  have hb1 := h.1.touch ht hp
  have hp1 : p ∉ blk v := hr.ne_blk hb1 (by decide)
  have htt : Touch (p :: blk out) w w1 := ht.mono (fun m hm => by simp [hm])
  unfold wPut
  rw [if_pos h0]
  by_cases hl : s.2.length + enc.length ≤ 65536
  · rw [if_pos hl, if_pos (by simpa using hl)]
    refine ⟨rfl, v, ⟨?_, fun _ => ⟨?_, by simpa using hl⟩⟩, htt.setCell (.inl (by simp)) _, hf⟩
    · have := hb1.set_ 1 v
      simpa [h0] using this
    · exact Own.touch hr ((Touch.refl [p] w1).setCell (.inl (by simp)) _) (fun b hb hm => by simp at hm; subst hm; exact hp1 hb)
  · rw [if_neg hl, if_neg (by simpa using hl)]
    refine ⟨rfl, out, ⟨?_, fun h1 => by simp at h1⟩, htt.setCell (.inl (by simp)) _, From.refl _ _⟩
    have := hb1.set_ 0 (.int .i64 7)
    simpa using this

set_option maxRecDepth 100000 in
set_option maxHeartbeats 400000 in
theorem ready_any (p : Nat) (t : TypeId) (out : Value) (e : Int) (w : World) (hb : Blk w p t #[.int .i64 e, out]) :
    Calls Tryz.prog 54 #[.pointer (some ⟨p, 0, none⟩)] w fun r w' => r = .returned (.bool (e == 0)) ∧ w = w' := by
  have hc := hb.cell 0
  simp at hc
  go_enter Tryz.func54, Tryz.ntmps54
  go_wp2
  go_ret
  exact ⟨rfl, rfl⟩

theorem note_first (p : Nat) (t : TypeId) (cs : Array Value) (k : Int) (w : World) (hb : Blk w p t cs) (h0 : cs[0]? = some (.int .i64 0)) :
    Calls Tryz.prog 55 #[.pointer (some ⟨p, 0, none⟩), .int .i64 k] w fun r w' => r = .returned (.tuple #[]) ∧ w.setCell ⟨p, 0, none⟩ (.int .i64 k) = w' := by
  have hc := hb.cell 0
  rw [h0] at hc
  have hf := hb.frozen 0
  clear h0
  go_enter Tryz.func55, Tryz.ntmps55
  go_wp2
  go_end0
  exact ⟨rfl, rfl⟩

theorem keep_any (p : Nat) (out v : Value) (bs : List UInt8) (w : World) (hb : Blk w p 99 #[.int .i64 0, out]) (hr : Row w v bs) :
    Calls Tryz.prog 56 #[.pointer (some ⟨p, 0, none⟩), v] w fun r w' => r = .returned (.tuple #[]) ∧ Kept w p v bs.length w' := by
  have hn := note_first p _ _ 7 w hb (by simp)
  have HN := Lib.hid hn
  clear hn
  have hc := hb.cell 1
  simp at hc
  have hf := hb.frozen 1
  obtain ⟨A, cap, rfl⟩ := Own.form hr
  by_cases hl : bs.length ≤ 65536
  · have hl' : ¬ (65536 : Int) < (bs.length : Int) := by omega
    go_enter Tryz.func56, Tryz.ntmps56
    go_wp2_with fail
    go_end0
    exact ⟨rfl, (if_pos hl).symm⟩
  · have hl' : (65536 : Int) < (bs.length : Int) := by omega
    go_enter Tryz.func56, Tryz.ntmps56
    go_wp2_with fail
    refine (HN.out).mono ?_
    rintro r w' ⟨rfl, rfl⟩
    go_wp2
    refine bodyPost_ret (results_none rfl _ _ _) rfl ?_
    exact ⟨rfl, (if_neg hl).symm⟩

end Go.Proofs.YtphpkalbbmlgoaaGreatDoor

namespace Go.Proofs.YtphpkalbbmlgoaaGreatDoor
open Go.RowKit

theorem Wr.blk1 {w w1 : World} {p : Nat} {out : Value} {bs : List UInt8} (h : Wr w p out (0, bs)) (ht : Touch (blk out) w w1) : Blk w1 p 99 #[.int .i64 0, out] :=
  h.1.touch ht ((h.2 rfl).1.ne_blk h.1 (by decide))

theorem Wr.row {w : World} {p : Nat} {out : Value} {bs : List UInt8} (h : Wr w p out (0, bs)) : Row w out bs ∧ bs.length ≤ 65536 := h.2 rfl

set_option maxRecDepth 100000 in
set_option maxHeartbeats 400000 in
theorem wr_uint (p : Nat) (out : Value) (s : WS) (n : Int) (w : World) (h : Wr w p out s) (h2 : n ≤ 9223372036854775807) :
    Calls Tryz.prog 25 #[.pointer (some ⟨p, 0, none⟩), .int .i64 n] w (WrDone w p out (wUint s n)) := by
  obtain ⟨e, bs⟩ := s
  by_cases h0 : e = 0
  · subst h0
    obtain ⟨hrow, hlen⟩ := h.row
    by_cases hn : n < 0
    · rw [show wUint (0, bs) n = wErr (0, bs) 2 from if_pos hn]
      go_enter Tryz.func25, Tryz.ntmps25
      go_wp2_with fail
      refine (ready_any p _ out 0 w h.1).mono ?_
      rintro r w' ⟨rfl, rfl⟩
      go_wp2_with fail
      refine (note_first p _ _ 2 w h.1 (by simp)).mono ?_
      rintro r w' ⟨rfl, rfl⟩
      go_wp2
      refine bodyPost_ret (results_none rfl _ _ _) rfl ?_
      exact h.err rfl 2 (by decide)
    · rw [show wUint (0, bs) n = wPut (0, bs) (grp n.toNat) from if_neg hn]
      have hc := h.1.cell 1
      simp at hc
      go_enter Tryz.func25, Tryz.ntmps25
      go_wp2_with fail
      refine (ready_any p _ out 0 w h.1).mono ?_
      rintro r w' ⟨rfl, rfl⟩
      go_wp2_with fail
      refine (groups_int out bs n w (by omega) (by omega) hrow (by omega)).mono ?_
      rintro r w1 ⟨v1, rfl, hr1, ht1, hf1⟩
      go_wp2_with fail
      refine (keep_any p out v1 _ w1 (h.blk1 ht1) hr1).mono ?_
      rintro r w' ⟨rfl, hk⟩
      go_wp2
      go_end0
      exact h.kept rfl ht1 hr1 hf1 hk
  · rw [wUint_bad _ _ h0]
    have h0' : (e == 0) = false := by simpa using h0
    go_enter Tryz.func25, Tryz.ntmps25
    go_wp2_with fail
    refine (ready_any p _ out e w h.1).mono ?_
    rintro r w' ⟨rfl, rfl⟩
    go_wp2
    refine bodyPost_ret (results_none rfl _ _ _) rfl ?_
    exact h.same

def Bytes (w : World) (v : Value) (l : List UInt8) : Prop := Reads w 1 v l.length (l.map B)

theorem Row.bytes {w : World} {v : Value} {l : List UInt8} (h : Row w v l) : Bytes w v l := Own.reads h

end Go.Proofs.YtphpkalbbmlgoaaGreatDoor

namespace Go.Proofs.YtphpkalbbmlgoaaGreatDoor
open Go.RowKit

def EndDone (w : World) (s : WS) (r : Ending) (w' : World) : Prop :=
  ∃ v, r = .returned (.tuple #[v, .int .i64 s.1]) ∧ Row w' v (if s.1 = 0 then s.2 else []) ∧ Touch [] w w' ∧ ∀ g ∈ blk v, w.heap.size ≤ g

set_option maxRecDepth 100000 in
set_option maxHeartbeats 400000 in
theorem wr_end (p : Nat) (out : Value) (s : WS) (w : World) (h : Wr w p out s) :
    Calls Tryz.prog 26 #[.pointer (some ⟨p, 0, none⟩)] w (EndDone w s) := by
  obtain ⟨e, bs⟩ := s
  have hc0 := h.1.cell 0
  have hc1 := h.1.cell 1
  simp at hc0 hc1
  by_cases h0 : e = 0
  · subst h0
    obtain ⟨hrow, hlen⟩ := h.row
    go_enter Tryz.func26, Tryz.ntmps26
    go_wp2_with (at_builtin; go_must (refine app_reads elem_u8 (Own.nil w _ 1) hrow.bytes (B_ones bs) (by simp; omega) (by unfold maxLen; simp; omega) ?_); intro v2 w2 ho2 ht2 hf2)
    go_ret2
    refine ⟨v2, rfl, ?_, ht2, hf2.none_⟩
    show Own w2 _ 1 v2 _ _
    simpa using ho2
  · have h0' : (e != 0) = true := by simpa using h0
    go_enter Tryz.func26, Tryz.ntmps26
    go_wp2_with fail
    go_quiet (fail)
    go_wp2
    go_ret2
    refine ⟨.slice none 0 0, rfl, ?_, (Touch.refl _ _).drewN _, fun g hg => by cases hg⟩
    simp only
    rw [if_neg h0]
    exact Row.nil _

def I (n : Int) : Value := .int .i64 n

def Fits (n : Int) : Prop := -9223372036854775808 ≤ n ∧ n ≤ 9223372036854775807

end Go.Proofs.YtphpkalbbmlgoaaGreatDoor

namespace Go.Proofs.YtphpkalbbmlgoaaGreatDoor
open Go.RowKit

theorem Wr.new (w : World) : Wr (w.alloc (.cells #[.int .i64 0, .slice none 0 0] 99)) w.heap.size (.slice none 0 0) (0, []) :=
  ⟨Blk.new _ _ _, fun _ => ⟨Row.nil _, by simp⟩⟩

theorem EndDone.later {w0 w : World} {s : WS} {r : Ending} {w' : World} (h : EndDone w s r w') (ht : Touch [] w0 w) : EndDone w0 s r w' := by
  obtain ⟨v, h1, h2, h3, h4⟩ := h
  exact ⟨v, h1, h2, ht.then0 h3, fun g hg => Nat.le_trans ht.size (h4 g hg)⟩

end Go.Proofs.YtphpkalbbmlgoaaGreatDoor
