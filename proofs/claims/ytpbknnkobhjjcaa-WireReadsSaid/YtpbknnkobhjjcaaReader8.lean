/- The reader of package wire: its end, frames; no reader. -/
import Derived.Test.YtpbknnkobhjjcaaReader7
namespace Go.Proofs.Ytpbknnkobhjjcaa
open Go.RowKit

def rFail (s : Int × Nat) (k : Int) : Int × Nat := if s.1 = 0 then (k, s.2) else s
set_option maxRecDepth 100000 in
set_option maxHeartbeats 400000 in
theorem rd_fail (p : Nat) (inp : Value) (l : List UInt8) (s : Int × Nat) (k : Int) (w : World) (h : Rd w p inp l s.1 s.2) :
    Calls Try.prog 51 #[.pointer (some ⟨p, 0, none⟩), .int .i64 k] w (RdOut w p inp l (.tuple #[]) (rFail s k)) := by
  obtain ⟨e, a⟩ := s
  simp only at h
  by_cases he : e = 0
  · subst he
    go_enter Try.func51, Try.ntmps51
    go_wp2_with fail
    refine (h.valid).mono ?_
    rintro r w' ⟨rfl, rfl⟩
    go_wp2_with fail
    refine (note_first p _ _ k w h.1 (by simp)).mono ?_
    rintro r w' ⟨rfl, rfl⟩
    go_wp2
    go_end0
    rw [show rFail (0, a) k = (k, a) from if_pos rfl]
    exact ⟨rfl, h.note k, (Touch.refl _ _).setCell (.inl (by simp)) _⟩
  · go_enter Try.func51, Try.ntmps51
    go_wp2_with fail
    refine (h.valid).mono ?_
    rintro r w' ⟨rfl, rfl⟩
    go_wp2_with fail
    refine (note_none p _ _ e k w h.1 (by simp) he).mono ?_
    rintro r w' ⟨rfl, rfl⟩
    go_wp2
    go_end0
    rw [show rFail (e, a) k = (e, a) from if_neg he]
    exact ⟨rfl, h, Touch.refl _ _⟩

theorem rd_at (p : Nat) (inp : Value) (l : List UInt8) (e : Int) (a : Nat) (w : World) (h : Rd w p inp l e a) :
    Calls Try.prog 41 #[.pointer (some ⟨p, 0, none⟩)] w fun r w' => r = .returned (.int .i64 a) ∧ w = w' := by
  have h3 := h.1.cell 3
  simp at h3
  go_enter Try.func41, Try.ntmps41
  go_wp2_with fail
  refine (h.valid).mono ?_
  rintro r w' ⟨rfl, rfl⟩
  go_wp2
  go_ret
  exact ⟨rfl, rfl⟩
theorem rd_err (p : Nat) (inp : Value) (l : List UInt8) (e : Int) (a : Nat) (w : World) (h : Rd w p inp l e a) :
    Calls Try.prog 52 #[.pointer (some ⟨p, 0, none⟩)] w fun r w' => r = .returned (.int .i64 e) ∧ w = w' := by
  have h3 := h.1.cell 0
  simp at h3
  go_enter Try.func52, Try.ntmps52
  go_wp2_with fail
  refine (h.valid).mono ?_
  rintro r w' ⟨rfl, rfl⟩
  go_wp2
  go_ret
  exact ⟨rfl, rfl⟩
def rEnd (l : List UInt8) (e : Int) (a : Nat) : Int := if e = 0 then (if a < l.length then 5 else 0) else e

set_option maxRecDepth 100000 in
set_option maxHeartbeats 400000 in
theorem rd_end (p : Nat) (inp : Value) (l : List UInt8) (e : Int) (a : Nat) (w : World) (h : Rd w p inp l e a) :
    Calls Try.prog 34 #[.pointer (some ⟨p, 0, none⟩)] w fun r w' => r = .returned (.int .i64 (rEnd l e a)) ∧ ∃ n, w' = w.drewN n := by
  have h0 := h.1.cell 0
  have h2 := h.1.cell 2
  have h3 := h.1.cell 3
  simp at h0 h2 h3
  obtain ⟨A, cap, rfl, hcap, hmax, _, hcells⟩ := id h.2.1
  clear hcells
  unfold rEnd
  by_cases he : e = 0
  · subst he
    rw [if_pos rfl]
    by_cases ha : a < l.length
    · rw [if_pos ha]
      have ha' : decide ((a : Int) < (l.length : Int)) = true := by simpa using ha
      go_enter Try.func34, Try.ntmps34
      go_wp2_with fail
      refine (h.valid).mono ?_
      rintro r w' ⟨rfl, rfl⟩
      go_wp2_with fail
      go_quiet (fail)
      go_wp2
      go_ret
      exact ⟨rfl, _, rfl⟩
    · rw [if_neg ha]
      have ha' : decide ((a : Int) < (l.length : Int)) = false := by simpa using ha
      go_enter Try.func34, Try.ntmps34
      go_wp2_with fail
      refine (h.valid).mono ?_
      rintro r w' ⟨rfl, rfl⟩
      go_wp2_with fail
      go_quiet (fail)
      go_wp2
      go_ret
      exact ⟨rfl, _, rfl⟩
  · rw [if_neg he]
    have he' : (e == 0) = false := by simpa using he
    go_enter Try.func34, Try.ntmps34
    go_wp2_with fail
    refine (h.valid).mono ?_
    rintro r w' ⟨rfl, rfl⟩
    go_wp2_with fail
    go_quiet (fail)
    go_wp2
    go_ret
    exact ⟨rfl, _, rfl⟩

/-- A new reader over bytes that are read. -/
theorem Rd.new {w : World} {inp : Value} {l : List UInt8} (h : Bytes w inp l) (hl : l.length ≤ 1099511627776) :
    Rd (w.alloc (.cells #[.int .i64 0, .bool true, inp, .int .i64 0] 78)) w.heap.size inp l 0 0 :=
  ⟨Blk.new _ _ _, Reads.touch0 h ((Touch.refl _ _).alloc _), fun hm => by have := Reads.lt h _ hm; omega, Nat.zero_le _, fun b hm => by have := Reads.lt h b hm; simp; omega, hl⟩

set_option maxRecDepth 100000 in
set_option maxHeartbeats 400000 in
theorem read_any (v : Value) (l : List UInt8) (w : World) (hv : Bytes w v l) (hl : l.length ≤ 1099511627776) :
    Calls Try.prog 32 #[v] w fun r w' => ∃ p inp, r = .returned (.pointer (some ⟨p, 0, none⟩)) ∧ w.heap.size ≤ p ∧ (∀ g ∈ rb inp, w.heap.size ≤ g) ∧ Rd w' p inp l 0 0 ∧ Touch [] w w' := by
  go_enter Try.func32, Try.ntmps32
  go_wp2_with (at_builtin; go_must (refine app_reads elem_u8 (Own.nil w _ 1) hv (B_ones l) (by simp; omega) (by unfold maxLen; simp; omega) ?_); intro v2 w2 ho2 ht2 hf2; obtain ⟨A2, cap2, rfl⟩ := Own.form ho2)
  go_ret
  simp only [Nat.zero_add, List.nil_append] at ho2 hf2
  have hb : Bytes w2 (.slice A2 l.length cap2) l := Row.bytes ho2
  refine ⟨w2.heap.size, .slice A2 l.length cap2, rfl, ht2.size, (fun g hg => hf2.none_ g (rb_sub _ g hg)), Rd.new hb hl, ?_⟩
  exact (show Touch [] w w2 from ht2).alloc _

/-- What Unframe comes to. -/
def uFrame (l : List UInt8) : Int × List UInt8 × Int :=
  let s1 := rRead 0 (pUint l) (0, 0)
  let s2 := rRead [] (pPart l 65536) s1.2
  let e := rEnd l s2.2.1 s2.2.2
  if e = 0 then (s1.1, s2.1, 0) else (0, [], e)

set_option maxRecDepth 100000 in
set_option maxHeartbeats 400000 in
theorem unframe_any (v : Value) (l : List UInt8) (w : World) (hv : Bytes w v l) (hl : l.length ≤ 1099511627776) :
    Calls Try.prog 26 #[v] w fun r w' => ∃ y, r = .returned (.tuple #[.int .i64 (uFrame l).1, y, .int .i64 (uFrame l).2.2]) ∧ Row w' y (uFrame l).2.1 ∧ (∀ g ∈ blk y, w.heap.size ≤ g) ∧ Touch [] w w' := by
  have hu : uFrame l = if rEnd l (rRead [] (pPart l 65536) (rRead 0 (pUint l) (0, 0)).2).2.1 (rRead [] (pPart l 65536) (rRead 0 (pUint l) (0, 0)).2).2.2 = 0 then ((rRead 0 (pUint l) (0, 0)).1, (rRead [] (pPart l 65536) (rRead 0 (pUint l) (0, 0)).2).1, 0) else (0, [], rEnd l (rRead [] (pPart l 65536) (rRead 0 (pUint l) (0, 0)).2).2.1 (rRead [] (pPart l 65536) (rRead 0 (pUint l) (0, 0)).2).2.2) := rfl
  have hrd := Rd.new hv hl
  have hcu := rd_uint w.heap.size v l (0, 0) _ hrd
  have hcb := fun s w2 h2 => rd_bytes w.heap.size v l s 65536 w2 h2
  generalize hs1 : rRead 0 (pUint l) (0, 0) = s1 at *
  generalize hs2 : rRead [] (pPart l 65536) s1.2 = s2 at *
  have HS2 := Lib.hid hs2
  have HU := Lib.hid hu
  have HCU := Lib.hid hcu
  have HCB := Lib.hid hcb
  clear hu hcu hcb hs1 hs2
  obtain ⟨A, cap, rfl, _, _, _, _⟩ := id hv
  go_enter Try.func26, Try.ntmps26
  go_wp2_with fail
  refine (HCU.out).mono ?_
  rintro r w1 ⟨rfl, hr1, ht1⟩
  go_wp2_with fail
  refine ((HCB.out) s1.2 w1 hr1).mono ?_
  rintro r w2 ⟨y, rfl, hrow, hnew, hr2, ht2⟩
  rw [HS2.out] at hrow hr2
  have HNew := Lib.hid hnew
  clear hnew
  have httl : Touch [] w w2 := (((Touch.refl [] w).alloc _).step ht1 (by simp)).step ht2 (by simp)
  have hwl : w.heap.size ≤ w1.heap.size := by have := ht1.size; simp at this; omega
  go_wp2_with fail
  refine (rd_end _ _ _ _ _ w2 hr2).mono ?_
  rintro r w3 ⟨rfl, n, rfl⟩
  generalize he : rEnd l s2.2.1 s2.2.2 = e at *
  clear he
  by_cases h0 : e = 0
  · have h0' : (e != 0) = false := by simpa using h0
    go_wp2
    go_ret3
    rw [HU.out]
    rw [if_pos h0]
    exact ⟨y, rfl, Own.touch0 hrow ((Touch.refl [] w2).drewN n), fun g hg => Nat.le_trans hwl (HNew.out g hg), httl.drewN n⟩
  · have h0' : (e != 0) = true := by simpa using h0
    go_wp2
    go_ret3
    rw [HU.out]
    rw [if_neg h0]
    exact ⟨_, rfl, Row.nil _, (fun g hg => by cases hg), httl.drewN n⟩

/-- A zero reader: not made. -/
def RdZero (w : World) (p : Nat) : Prop := Blk w p 78 #[.int .i64 0, .bool false, .slice none 0 0, .int .i64 0]
/-- No reader: nil, or a zero one. -/
def NoRd (w : World) (A : Option Addr) : Prop := A = none ∨ ∃ p, A = some ⟨p, 0, none⟩ ∧ RdZero w p
theorem NoRd.touch {w w' : World} {A : Option Addr} (h : NoRd w A) (ht : Touch [] w w') : NoRd w' A := by
  rcases h with h | ⟨p, h, hz⟩
  · exact .inl h
  · exact .inr ⟨p, h, Blk.touch hz ht (by simp)⟩
theorem NoRd.value {w : World} {A : Option Addr} (h : NoRd w A) (f : Value) : Calls Try.prog 83 #[.pointer A, f] w fun r w' => r = .returned (.tuple #[]) ∧ Touch [] w w' := by
  rcases h with rfl | ⟨p, rfl, hz⟩
  · exact value_nil f w
  · exact value_zero p _ _ f w hz (by simp)
theorem NoRd.valid {w : World} {A : Option Addr} (h : NoRd w A) : Calls Try.prog 86 #[.pointer A] w fun r w' => r = .returned (.bool false) ∧ w = w' := by
  rcases h with rfl | ⟨p, rfl, hz⟩
  · exact valid_nil w
  · exact valid_any p _ _ false w hz (by simp)

set_option maxRecDepth 100000 in
theorem no_uint (A : Option Addr) (w : World) (h : NoRd w A) : Calls Try.prog 35 #[.pointer A] w fun r w' => r = .returned (.int .i64 0) ∧ Touch [] w w' := by
  have hmf := make_func
  go_enter Try.func35, Try.ntmps35
  go_wp2_with fail
  refine ((h.touch (((Touch.refl [] w).alloc _).alloc _)).value _).mono ?_
  rintro r w1 ⟨rfl, ht1⟩
  have hc := (Blk.touch (Blk.new (w.alloc (.cells #[.pointer A] 52)) 3 #[.int .i64 0]) ht1 (by simp)).cell 0
  simp at hc
  go_wp2_with fail
  go_ret
  exact ⟨rfl, Touch.then0 (((Touch.refl [] w).alloc _).alloc _) ht1⟩

set_option maxRecDepth 100000 in
theorem no_int (A : Option Addr) (w : World) (h : NoRd w A) : Calls Try.prog 33 #[.pointer A] w fun r w' => r = .returned (.int .i64 0) ∧ Touch [] w w' := by
  have hmf := make_func
  go_enter Try.func33, Try.ntmps33
  go_wp2_with fail
  refine ((h.touch (((Touch.refl [] w).alloc _).alloc _)).value _).mono ?_
  rintro r w1 ⟨rfl, ht1⟩
  have hc := (Blk.touch (Blk.new (w.alloc (.cells #[.pointer A] 52)) 3 #[.int .i64 0]) ht1 (by simp)).cell 0
  simp at hc
  go_wp2_with fail
  go_ret
  exact ⟨rfl, Touch.then0 (((Touch.refl [] w).alloc _).alloc _) ht1⟩

set_option maxRecDepth 100000 in
theorem no_bool (A : Option Addr) (w : World) (h : NoRd w A) : Calls Try.prog 36 #[.pointer A] w fun r w' => r = .returned (.bool false) ∧ Touch [] w w' := by
  have hmf := make_func
  go_enter Try.func36, Try.ntmps36
  go_wp2_with fail
  refine ((h.touch (((Touch.refl [] w).alloc _).alloc _)).value _).mono ?_
  rintro r w1 ⟨rfl, ht1⟩
  have hc := (Blk.touch (Blk.new (w.alloc (.cells #[.pointer A] 52)) 4 #[.bool false]) ht1 (by simp)).cell 0
  simp at hc
  go_wp2_with fail
  go_ret
  exact ⟨rfl, Touch.then0 (((Touch.refl [] w).alloc _).alloc _) ht1⟩

set_option maxRecDepth 100000 in
theorem no_count (A : Option Addr) (limit : Int) (w : World) (h : NoRd w A) : Calls Try.prog 50 #[.pointer A, .int .i64 limit] w fun r w' => r = .returned (.int .i64 0) ∧ Touch [] w w' := by
  have hmf := make_func
  go_enter Try.func50, Try.ntmps50
  go_wp2_with fail
  refine ((h.touch ((((Touch.refl [] w).alloc _).alloc _).alloc _)).value _).mono ?_
  rintro r w1 ⟨rfl, ht1⟩
  have hc := (Blk.touch (Blk.new ((w.alloc (.cells #[.pointer A] 52)).alloc (.cells #[.int .i64 limit] 3)) 3 #[.int .i64 0]) ht1 (by simp)).cell 0
  simp at hc
  go_wp2_with fail
  go_ret
  exact ⟨rfl, Touch.then0 ((((Touch.refl [] w).alloc _).alloc _).alloc _) ht1⟩

set_option maxRecDepth 100000 in
theorem no_bytes (A : Option Addr) (limit : Int) (w : World) (h : NoRd w A) : Calls Try.prog 37 #[.pointer A, .int .i64 limit] w fun r w' => r = .returned (.slice none 0 0) ∧ Touch [] w w' := by
  have hmf := make_func
  go_enter Try.func37, Try.ntmps37
  go_wp2_with fail
  refine ((h.touch ((((Touch.refl [] w).alloc _).alloc _).alloc _)).value _).mono ?_
  rintro r w1 ⟨rfl, ht1⟩
  have hc := (Blk.touch (Blk.new ((w.alloc (.cells #[.pointer A] 52)).alloc (.cells #[.int .i64 limit] 3)) 28 #[.slice none 0 0]) ht1 (by simp)).cell 0
  simp at hc
  go_wp2_with fail
  go_ret
  exact ⟨rfl, Touch.then0 ((((Touch.refl [] w).alloc _).alloc _).alloc _) ht1⟩

set_option maxRecDepth 100000 in
theorem no_string (A : Option Addr) (limit : Int) (w : World) (h : NoRd w A) : Calls Try.prog 38 #[.pointer A, .int .i64 limit] w fun r w' => r = .returned (.string ⟨#[]⟩) ∧ Touch [] w w' := by
  have hmf := make_func
  go_enter Try.func38, Try.ntmps38
  go_wp2_with fail
  refine ((h.touch ((((Touch.refl [] w).alloc _).alloc _).alloc _)).value _).mono ?_
  rintro r w1 ⟨rfl, ht1⟩
  have hc := (Blk.touch (Blk.new ((w.alloc (.cells #[.pointer A] 52)).alloc (.cells #[.int .i64 limit] 3)) 9 #[.string ⟨#[]⟩]) ht1 (by simp)).cell 0
  simp at hc
  go_wp2_with fail
  go_ret
  exact ⟨rfl, Touch.then0 ((((Touch.refl [] w).alloc _).alloc _).alloc _) ht1⟩

set_option maxRecDepth 100000 in
theorem no_ints (A : Option Addr) (limit : Int) (w : World) (h : NoRd w A) : Calls Try.prog 40 #[.pointer A, .int .i64 limit] w fun r w' => r = .returned (.slice none 0 0) ∧ Touch [] w w' := by
  have hmf := make_func
  go_enter Try.func40, Try.ntmps40
  go_wp2_with fail
  refine ((h.touch ((((Touch.refl [] w).alloc _).alloc _).alloc _)).value _).mono ?_
  rintro r w1 ⟨rfl, ht1⟩
  have hc := (Blk.touch (Blk.new ((w.alloc (.cells #[.pointer A] 52)).alloc (.cells #[.int .i64 limit] 3)) 33 #[.slice none 0 0]) ht1 (by simp)).cell 0
  simp at hc
  go_wp2_with fail
  go_ret
  exact ⟨rfl, Touch.then0 ((((Touch.refl [] w).alloc _).alloc _).alloc _) ht1⟩

theorem no_at (A : Option Addr) (w : World) (h : NoRd w A) : Calls Try.prog 41 #[.pointer A] w fun r w' => r = .returned (.int .i64 0) ∧ w = w' := by
  go_enter Try.func41, Try.ntmps41
  go_wp2_with fail
  refine (h.valid).mono ?_
  rintro r w1 ⟨rfl, rfl⟩
  go_wp2_with fail
  go_ret
  exact ⟨rfl, rfl⟩

theorem no_err (A : Option Addr) (w : World) (h : NoRd w A) : Calls Try.prog 52 #[.pointer A] w fun r w' => r = .returned (.int .i64 1) ∧ w = w' := by
  go_enter Try.func52, Try.ntmps52
  go_wp2_with fail
  refine (h.valid).mono ?_
  rintro r w1 ⟨rfl, rfl⟩
  go_wp2_with fail
  go_ret
  exact ⟨rfl, rfl⟩

theorem no_end (A : Option Addr) (w : World) (h : NoRd w A) : Calls Try.prog 34 #[.pointer A] w fun r w' => r = .returned (.int .i64 1) ∧ w = w' := by
  go_enter Try.func34, Try.ntmps34
  go_wp2_with fail
  refine (h.valid).mono ?_
  rintro r w1 ⟨rfl, rfl⟩
  go_wp2_with fail
  go_ret
  exact ⟨rfl, rfl⟩

theorem no_fail (A : Option Addr) (k : Int) (w : World) (h : NoRd w A) : Calls Try.prog 51 #[.pointer A, .int .i64 k] w fun r w' => r = .returned (.tuple #[]) ∧ w = w' := by
  go_enter Try.func51, Try.ntmps51
  go_wp2_with fail
  refine (h.valid).mono ?_
  rintro r w1 ⟨rfl, rfl⟩
  go_wp2_with fail
  go_end0
  exact ⟨rfl, rfl⟩
end Go.Proofs.Ytpbknnkobhjjcaa
