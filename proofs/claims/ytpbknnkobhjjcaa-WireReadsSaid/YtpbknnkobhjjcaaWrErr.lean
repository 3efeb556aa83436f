/- A writer that has failed stays as it is. -/
import Derived.Test.YtpbknnkobhjjcaaVals3
namespace Go.Proofs.Ytpbknnkobhjjcaa
open Go.RowKit

set_option maxRecDepth 100000 in
set_option maxHeartbeats 400000 in
theorem wr_uint_err (p : Nat) (t : TypeId) (out : Value) (e : Int) (n : Int) (w : World) (h : Blk w p t #[.int .i64 e, out]) (h0 : ¬ e = 0) :
    Calls Try.prog 29 #[.pointer (some ⟨p, 0, none⟩), .int .i64 n] w fun r w' => r = .returned (.tuple #[]) ∧ w = w' := by
  have h0' : (e == 0) = false := by simpa using h0
  go_enter Try.func29, Try.ntmps29
  go_wp2_with fail
  refine (ready_any p _ out e w h).mono ?_
  rintro r w' ⟨rfl, rfl⟩
  go_wp2
  refine bodyPost_ret (results_none rfl _ _ _) rfl ?_
  exact ⟨rfl, rfl⟩
set_option maxRecDepth 100000 in
set_option maxHeartbeats 400000 in
theorem wr_int_err (p : Nat) (t : TypeId) (out : Value) (e : Int) (n : Int) (w : World) (h : Blk w p t #[.int .i64 e, out]) (h0 : ¬ e = 0) :
    Calls Try.prog 30 #[.pointer (some ⟨p, 0, none⟩), .int .i64 n] w fun r w' => r = .returned (.tuple #[]) ∧ w = w' := by
  have h0' : (e == 0) = false := by simpa using h0
  go_enter Try.func30, Try.ntmps30
  go_wp2_with fail
  refine (ready_any p _ out e w h).mono ?_
  rintro r w' ⟨rfl, rfl⟩
  go_wp2
  go_end0
  exact ⟨rfl, rfl⟩
set_option maxRecDepth 100000 in
set_option maxHeartbeats 400000 in
theorem wr_bool_err (p : Nat) (t : TypeId) (out : Value) (e : Int) (b : Bool) (w : World) (h : Blk w p t #[.int .i64 e, out]) (h0 : ¬ e = 0) :
    Calls Try.prog 25 #[.pointer (some ⟨p, 0, none⟩), .bool b] w fun r w' => r = .returned (.tuple #[]) ∧ w = w' := by
  have h0' : (e == 0) = false := by simpa using h0
  go_enter Try.func25, Try.ntmps25
  go_wp2_with fail
  refine (ready_any p _ out e w h).mono ?_
  rintro r w' ⟨rfl, rfl⟩
  go_wp2
  refine bodyPost_ret (results_none rfl _ _ _) rfl ?_
  exact ⟨rfl, rfl⟩
set_option maxRecDepth 100000 in
set_option maxHeartbeats 400000 in
theorem wr_ints_err (p : Nat) (t : TypeId) (out : Value) (e : Int) (v : Value) (w : World) (h : Blk w p t #[.int .i64 e, out]) (h0 : ¬ e = 0) :
    Calls Try.prog 43 #[.pointer (some ⟨p, 0, none⟩), v] w fun r w' => r = .returned (.tuple #[]) ∧ w = w' := by
  have h0' : (e == 0) = false := by simpa using h0
  go_enter Try.func43, Try.ntmps43
  go_wp2_with fail
  refine (ready_any p _ out e w h).mono ?_
  rintro r w' ⟨rfl, rfl⟩
  go_wp2
  refine bodyPost_ret (results_none rfl _ _ _) rfl ?_
  exact ⟨rfl, rfl⟩
set_option maxRecDepth 100000 in
set_option maxHeartbeats 400000 in
theorem text_err (p : Nat) (t : TypeId) (out : Value) (e : Int) (v : Value) (w : World) (h : Blk w p t #[.int .i64 e, out]) (h0 : ¬ e = 0) :
    Calls Try.prog 77 #[.pointer (some ⟨p, 0, none⟩), v] w fun r w' => r = .returned (.tuple #[]) ∧ w = w' := by
  have h0' : (e == 0) = false := by simpa using h0
  go_enter Try.func77, Try.ntmps77
  go_wp2_with fail
  refine (ready_any p _ out e w h).mono ?_
  rintro r w' ⟨rfl, rfl⟩
  go_wp2
  refine bodyPost_ret (results_none rfl _ _ _) rfl ?_
  exact ⟨rfl, rfl⟩
set_option maxRecDepth 100000 in
set_option maxHeartbeats 400000 in
theorem texts_err (p : Nat) (t : TypeId) (out : Value) (e : Int) (y : ByteArray) (w : World) (h : Blk w p t #[.int .i64 e, out]) (h0 : ¬ e = 0) :
    Calls Try.prog 96 #[.pointer (some ⟨p, 0, none⟩), .string y] w fun r w' => r = .returned (.tuple #[]) ∧ w = w' := by
  have h0' : (e == 0) = false := by simpa using h0
  go_enter Try.func96, Try.ntmps96
  go_wp2_with fail
  refine (ready_any p _ out e w h).mono ?_
  rintro r w' ⟨rfl, rfl⟩
  go_wp2
  refine bodyPost_ret (results_none rfl _ _ _) rfl ?_
  exact ⟨rfl, rfl⟩
set_option maxRecDepth 100000 in
set_option maxHeartbeats 400000 in
theorem wr_bytes_err (p : Nat) (t : TypeId) (out : Value) (e : Int) (v : Value) (w : World) (h : Blk w p t #[.int .i64 e, out]) (h0 : ¬ e = 0) :
    Calls Try.prog 23 #[.pointer (some ⟨p, 0, none⟩), v] w fun r w' => r = .returned (.tuple #[]) ∧ w = w' := by
  have h0' : (e == 0) = false := by simpa using h0
  go_enter Try.func23, Try.ntmps23
  go_wp2_with fail
  refine (text_err p _ out e v w h h0).mono ?_
  rintro r w' ⟨rfl, rfl⟩
  go_wp2
  go_end0
  exact ⟨rfl, rfl⟩
set_option maxRecDepth 100000 in
set_option maxHeartbeats 400000 in
theorem wr_str_err (p : Nat) (t : TypeId) (out : Value) (e : Int) (y : ByteArray) (w : World) (h : Blk w p t #[.int .i64 e, out]) (h0 : ¬ e = 0) :
    Calls Try.prog 42 #[.pointer (some ⟨p, 0, none⟩), .string y] w fun r w' => r = .returned (.tuple #[]) ∧ w = w' := by
  have h0' : (e == 0) = false := by simpa using h0
  go_enter Try.func42, Try.ntmps42
  go_wp2_with fail
  refine (texts_err p _ out e y w h h0).mono ?_
  rintro r w' ⟨rfl, rfl⟩
  go_wp2
  go_end0
  exact ⟨rfl, rfl⟩
set_option maxRecDepth 100000 in
set_option maxHeartbeats 1000000 in
theorem write_err (p : Nat) (t : TypeId) (out : Value) (e : Int) (x : Vx) (w : World) (h : Blk w p t #[.int .i64 e, out]) (h0 : ¬ e = 0) (hT : Bytes w x.tv x.text) :
    Calls Try.prog 20 #[.pointer (some ⟨p, 0, none⟩), .agg #[B x.kind, I x.n, x.tv, x.lv]] w fun r w' => r = .returned (.tuple #[]) ∧ Touch [] w w' := by
  obtain ⟨kind, n, tv, text, lv, list⟩ := x
  simp only at hT
  unfold B I
  simp only
  have hk := UInt8.toNat_lt kind
  generalize kind.toNat = k at *
  have ha := (Touch.refl [] w).alloc (.cells #[.int .u8 k, .int .i64 n, tv, lv] 35)
  have h' := h.touch ha (by simp)
  have hT' : Bytes _ tv text := Reads.touch0 hT ha
  have hp : p < w.heap.size := h.lt
  have h0' : (e == 0) = false := by simpa using h0
  clear h hT
  have hcase : k % 6 = 0 ∨ k % 6 = 1 ∨ k % 6 = 2 ∨ k % 6 = 3 ∨ k % 6 = 4 ∨ k % 6 = 5 := by omega
  rcases hcase with hk6 | hcase
  · have q0 : (((k : Int) % 6) == 0) = true := by simp; omega
    clear hk6
    go_enter Try.func20, Try.ntmps20
    go_wp2_with fail
    refine (wr_uint_err p _ out e n _ h' h0).mono ?_
    rintro r w1 ⟨rfl, rfl⟩
    go_wp2_with fail
    go_end0
    exact ⟨rfl, ha⟩
  rcases hcase with hk6 | hcase
  · have q0 : (((k : Int) % 6) == 0) = false := by simp; omega
    have q1 : (((k : Int) % 6) == 1) = true := by simp; omega
    clear hk6
    go_enter Try.func20, Try.ntmps20
    go_wp2_with fail
    refine (wr_int_err p _ out e n _ h' h0).mono ?_
    rintro r w1 ⟨rfl, rfl⟩
    go_wp2_with fail
    go_end0
    exact ⟨rfl, ha⟩
  rcases hcase with hk6 | hcase
  · have q0 : (((k : Int) % 6) == 0) = false := by simp; omega
    have q1 : (((k : Int) % 6) == 1) = false := by simp; omega
    have q2 : (((k : Int) % 6) == 2) = true := by simp; omega
    clear hk6
    go_enter Try.func20, Try.ntmps20
    go_wp2_with fail
    refine (wr_bool_err p _ out e (n != 0) _ h' h0).mono ?_
    rintro r w1 ⟨rfl, rfl⟩
    go_wp2_with fail
    go_end0
    exact ⟨rfl, ha⟩
  rcases hcase with hk6 | hcase
  · have q0 : (((k : Int) % 6) == 0) = false := by simp; omega
    have q1 : (((k : Int) % 6) == 1) = false := by simp; omega
    have q2 : (((k : Int) % 6) == 2) = false := by simp; omega
    have q3 : (((k : Int) % 6) == 3) = true := by simp; omega
    clear hk6
    go_enter Try.func20, Try.ntmps20
    go_wp2_with fail
    refine (wr_bytes_err p _ out e _ _ h' h0).mono ?_
    rintro r w1 ⟨rfl, rfl⟩
    go_wp2_with fail
    go_end0
    exact ⟨rfl, ha⟩
  rcases hcase with hk6 | hcase
  · have q0 : (((k : Int) % 6) == 0) = false := by simp; omega
    have q1 : (((k : Int) % 6) == 1) = false := by simp; omega
    have q2 : (((k : Int) % 6) == 2) = false := by simp; omega
    have q3 : (((k : Int) % 6) == 3) = false := by simp; omega
    have q4 : (((k : Int) % 6) == 4) = true := by simp; omega
    clear hk6
    have kc := run_str hT'
    go_enter Try.func20, Try.ntmps20
    go_wp2_with fail
    refine (wr_str_err p _ out e _ _ h' h0).mono ?_
    rintro r w1 ⟨rfl, rfl⟩
    go_wp2_with fail
    go_end0
    exact ⟨rfl, ha⟩
  have hk6 := hcase
  have q0 : (((k : Int) % 6) == 0) = false := by simp; omega
  have q1 : (((k : Int) % 6) == 1) = false := by simp; omega
  have q2 : (((k : Int) % 6) == 2) = false := by simp; omega
  have q3 : (((k : Int) % 6) == 3) = false := by simp; omega
  have q4 : (((k : Int) % 6) == 4) = false := by simp; omega
  clear hk6 hcase
  go_enter Try.func20, Try.ntmps20
  go_wp2_with fail
  refine (wr_ints_err p _ out e _ _ h' h0).mono ?_
  rintro r w1 ⟨rfl, rfl⟩
  go_wp2_with fail
  go_end0
  exact ⟨rfl, ha⟩
end Go.Proofs.Ytpbknnkobhjjcaa
