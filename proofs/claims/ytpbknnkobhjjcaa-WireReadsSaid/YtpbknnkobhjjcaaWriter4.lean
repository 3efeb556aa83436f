/- Frames; a nil writer. -/
import Derived.Test.YtpbknnkobhjjcaaWriter3
namespace Go.Proofs.Ytpbknnkobhjjcaa
open Go.RowKit

theorem Wr.new (w : World) : Wr (w.alloc (.cells #[.int .i64 0, .slice none 0 0] 30)) w.heap.size (.slice none 0 0) (0, []) :=
  ⟨Blk.new _ _ _, fun _ => ⟨Row.nil _, by simp⟩⟩
theorem EndDone.later {w0 w : World} {s : WS} {r : Ending} {w' : World} (h : EndDone w s r w') (ht : Touch [] w0 w) : EndDone w0 s r w' := by
  obtain ⟨v, h1, h2, h3, h4⟩ := h
  exact ⟨v, h1, h2, ht.then0 h3, fun g hg => Nat.le_trans ht.size (h4 g hg)⟩

set_option maxRecDepth 100000 in
set_option maxHeartbeats 400000 in
theorem frame_any (k : Int) (v : Value) (l : List UInt8) (w : World) (hk : k ≤ 9223372036854775807) (hv : Bytes w v l) :
    Calls Try.prog 24 #[.int .i64 k, v] w (EndDone w (wBytes (wUint (0, []) k) l)) := by
  have hvb' := Lib.hid (Reads.lt hv)
  go_enter Try.func24, Try.ntmps24
  go_wp2_with fail
  refine (wr_uint w.heap.size _ (0, []) k _ (Wr.new w) hk).mono ?_
  rintro r w1 ⟨rfl, out1, hw1, ht1, hf1⟩
  have htt : Touch [] w w1 := ((Touch.refl [] w).alloc _).step ht1 (fun m hm => by simp [blk] at hm; omega)
  have hfn := Lib.hid hf1.none_
  clear hf1
  go_wp2_with fail
  refine (wr_bytes w.heap.size out1 v _ l w1 hw1 (Reads.touch0 hv htt) (fun _ g hg hm => ?_)).mono ?_
  · have := hvb'.out g hg
    have := hfn.out g hm
    simp at this
    omega
  rintro r w2 ⟨rfl, out2, hw2, ht2, hf2⟩
  have htt2 : Touch [] w w2 := htt.step ht2 (fun m hm => by
    simp at hm
    rcases hm with hm | hm
    · omega
    · have := hfn.out m hm
      simp at this
      omega)
  go_wp2_with fail
  refine (wr_end w.heap.size out2 _ w2 hw2).mono ?_
  rintro r w3 hr
  have hr' := hr.later htt2
  obtain ⟨v3, rfl, hr3, ht3, hn3⟩ := hr
  have HR := Lib.hid hr'
  clear hn3 hr'
  go_wp2
  go_ret2
  exact HR.out

theorem wr_uint_nil (n : Int) (w : World) : Calls Try.prog 29 #[.pointer none, .int .i64 n] w fun r w' => r = .returned (.tuple #[]) ∧ w = w' := by
  go_enter Try.func29, Try.ntmps29
  go_wp2_with fail
  refine (ready_nil w).mono ?_
  rintro r w' ⟨rfl, rfl⟩
  go_wp2
  refine bodyPost_ret (results_none rfl _ _ _) rfl ?_
  exact ⟨rfl, rfl⟩
theorem text_nil (v : Value) (w : World) : Calls Try.prog 77 #[.pointer none, v] w fun r w' => r = .returned (.tuple #[]) ∧ w = w' := by
  go_enter Try.func77, Try.ntmps77
  go_wp2_with fail
  refine (ready_nil w).mono ?_
  rintro r w' ⟨rfl, rfl⟩
  go_wp2
  refine bodyPost_ret (results_none rfl _ _ _) rfl ?_
  exact ⟨rfl, rfl⟩
theorem wr_bytes_nil (v : Value) (w : World) : Calls Try.prog 23 #[.pointer none, v] w fun r w' => r = .returned (.tuple #[]) ∧ w = w' := by
  go_enter Try.func23, Try.ntmps23
  go_wp2_with fail
  refine (text_nil v w).mono ?_
  rintro r w' ⟨rfl, rfl⟩
  go_wp2
  go_end0
  exact ⟨rfl, rfl⟩
theorem wr_end_nil (w : World) : Calls Try.prog 22 #[.pointer none] w fun r w' => r = .returned (.tuple #[.slice none 0 0, .int .i64 1]) ∧ w = w' := by
  go_enter Try.func22, Try.ntmps22
  go_wp2
  go_ret2
  exact ⟨rfl, rfl⟩
end Go.Proofs.Ytpbknnkobhjjcaa
