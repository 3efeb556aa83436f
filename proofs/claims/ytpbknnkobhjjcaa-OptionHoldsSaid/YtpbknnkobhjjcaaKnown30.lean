/- The examples of layer 30. -/
import Derived.Test.YtpbknnkobhjjcaaEncode2
namespace Go.Proofs.Ytpbknnkobhjjcaa
open Go.RowKit
set_option linter.unusedSimpArgs false

theorem k30_opts : optsL 3 1 = [1, 2, 3] := by decide
theorem k30_open : openL 24 3 0 7 = [0, 2, 3] := by decide +kernel
theorem k30_openE : openOk 24 3 0 7 = true := by decide +kernel
theorem k30_c1 (fv : Value) : chooseV ⟨300, 1, fv, [3, 2]⟩ 3 0 [2, 3] = 3 := by rfl
theorem k30_e1 (fv : Value) : chooseE ⟨300, 1, fv, [3, 2]⟩ 3 0 [2, 3] = 0 := by rfl
theorem k30_c2 (fv : Value) : chooseV ⟨300, 1, fv, [3, 2]⟩ 3 0 [] = 0 := by rfl
theorem k30_e2 (fv : Value) : chooseE ⟨300, 1, fv, [3, 2]⟩ 3 0 [] = 0 := by rfl
theorem k30_enc0 : encL [⟨300, 1, .slice none 0 0, [3, 2]⟩] = [1, 172, 2, 1, 2, 3, 2] := by decide +kernel
theorem k30_enc (fv : Value) : encL [⟨300, 1, fv, [3, 2]⟩] = [1, 172, 2, 1, 2, 3, 2] := by
  have e : encL [⟨300, 1, fv, [3, 2]⟩] = encL [⟨300, 1, .slice none 0 0, [3, 2]⟩] := by rfl
  rw [e, k30_enc0]
theorem k30_encE (fv : Value) : encE [⟨300, 1, fv, [3, 2]⟩] = 0 := by rfl
theorem Reads.litN (w : World) (t : TypeId) (size n : Nat) (xs : List Value) (hn : xs.length = n * size) (hm : n ≤ maxLen) : Reads (w.alloc (.cells xs.toArray t)) size (.slice (some ⟨w.heap.size, 0, none⟩) n n) n xs := by
  refine ⟨_, _, rfl, Nat.le_refl _, hm, hn, fun _ => ⟨w.heap.size, 0, rfl, by simp, fun j u hu => ?_⟩⟩
  have := (Blk.new w t xs.toArray).cell j
  rw [Nat.zero_add, this]
  simpa using hu
theorem nil_ints (w : World) : Ints w (.slice none 0 0) [] := ⟨Reads.nil _ _, by simp⟩
theorem lit_ints (w : World) (l : List Int) (hf : ∀ n ∈ l, Fits n) (hm : l.length ≤ maxLen) (m : Nat) (hs : w.heap.size = m) (n : Nat) (hn : l.length = n) : Ints (w.alloc (.cells (l.map I).toArray 3)) (.slice (some ⟨m, 0, none⟩) n n) l := by
  subst hs hn
  exact ⟨Reads.lit w 3 (0, 0) (l.map I) l.length (by simp) hm, hf⟩
theorem fits3 (a b c : Int) (ha : -1000 ≤ a ∧ a ≤ 1000) (hb : -1000 ≤ b ∧ b ≤ 1000) (hc : -1000 ≤ c ∧ c ≤ 1000) : ∀ n ∈ [a, b, c], Fits n := by
  intro n hn
  simp at hn
  unfold Fits
  rcases hn with rfl | rfl | rfl <;> omega
theorem fits2 (a b : Int) (ha : -1000 ≤ a ∧ a ≤ 1000) (hb : -1000 ≤ b ∧ b ≤ 1000) : ∀ n ∈ [a, b], Fits n := by
  intro n hn
  simp at hn
  unfold Fits
  rcases hn with rfl | rfl <;> omega
theorem RowI.ints {w : World} {v : Value} {l : List Int} (h : RowI w v l) (hf : ∀ n ∈ l, Fits n) : Ints w v l := ⟨Own.reads h, hf⟩

set_option maxRecDepth 100000 in
set_option maxHeartbeats 8000000 in
theorem known30_any (w : World) : Calls Try.prog 58 #[] w fun r w' => r = .returned (.bool true) ∧ Touch [] w w' := by
  have hbld : ∀ (A : Option Addr) (n c : Nat) (W : World), (Instr.build 91 #[(0, .int .i64 300), (1, .int .i64 1), (2, .slice A n c)]).run Try.prog W = .ok (.agg #[.int .i64 300, .int .i64 1, .slice A n c]) W := fun A n c W => run_build W 91 _ _ (by kernel_rfl)
  have hbt : ∀ (n : Int) (W : World), (Instr.build 86 #[(0, .int .i64 n)]).run Try.prog W = .ok (.agg #[.int .i64 n]) W := fun n W => run_build W 86 _ _ (by kernel_rfl)
  have hI0 := lit_ints w [3, 2] (fits2 3 2 (by decide) (by decide)) (by simp [maxLen]) w.heap.size rfl 2 rfl
  have ht0 := (Touch.refl [] w).alloc (.cells #[.int .i64 3, .int .i64 2] 3)
  obtain ⟨w0, hw0⟩ : ∃ w0, w0 = w.alloc (.cells #[.int .i64 3, .int .i64 2] 3) := ⟨_, rfl⟩
  have hI1 : Ints w0 (.slice (some ⟨w.heap.size, 0, none⟩) 2 2) [3, 2] := by rw [hw0]; exact hI0
  have hz0 : w0.heap.size = w.heap.size + 1 := by rw [hw0]; simp
  rw [← hw0] at ht0
  have hB0 := Blk.new w0 91 #[.int .i64 300, .int .i64 1, .slice (some ⟨w.heap.size, 0, none⟩) 2 2]
  rw [hz0] at hB0
  have ht1 := ht0.alloc (.cells #[.int .i64 300, .int .i64 1, .slice (some ⟨w.heap.size, 0, none⟩) 2 2] 91)
  have hI2 := hI1.touch0 ((Touch.refl [] w0).alloc (.cells #[.int .i64 300, .int .i64 1, .slice (some ⟨w.heap.size, 0, none⟩) 2 2] 91))
  have HW0 := Lib.hid hw0
  have HZ0 := Lib.hid hz0
  clear hI0 hI1 ht0 hz0 hw0
  have hok : ∀ W, Ints W (.slice (some ⟨w.heap.size, 0, none⟩) 2 2) [3, 2] → Bx.Ok W ⟨300, 1, .slice (some ⟨w.heap.size, 0, none⟩) 2 2, [3, 2]⟩ := fun W h => ⟨fit_near (x := 300) (by omega) (by omega), fit_near (x := 1) (by omega) (by omega), h⟩
  have HOK := Lib.hid hok
  clear hok
  go_enter Try.func58, Try.ntmps58
  go_wp2_with fail
  rw [← HW0.out]
  refine (options_any 3 1 _).mono ?_
  rintro r w1 ⟨v1, rfl, hr1, hu1, -⟩
  rw [k30_opts] at hr1
  rw [show goodB 3 1 = true from rfl]
  simp only [if_true]
  have hB1 := hB0.touch hu1 (by simp)
  have hI3 := hI2.touch0 hu1
  have ht2 := ht1.then0 hu1
  clear hu1 hB0 hI2 ht1 HW0 HZ0
  go_wp2_with fail
  refine (open_any 24 3 0 7 _).mono ?_
  rintro r w2 ⟨v2, rfl, hr2, hu2, -⟩
  rw [k30_open] at hr2
  rw [k30_openE]
  simp only [if_true]
  have hB2 := hB1.touch hu2 (by simp)
  have hI4 := hI3.touch0 hu2
  have ht3 := ht2.then0 hu2
  have hr1' : RowI w2 v1 [1, 2, 3] := Own.touch0 hr1 hu2
  clear hu2 hB1 hI3 ht2 hr1
  have q0 := hB2.cell 0
  have q1 := hB2.cell 1
  have q2 := hB2.cell 2
  simp at q0 q1 q2
  go_wp2_with fail
  have hu3 := (Touch.refl [] w2).alloc (.cells #[.int .i64 2, .int .i64 3] 3)
  have hF3 := lit_ints w2 [2, 3] (fits2 2 3 (by decide) (by decide)) (by simp [maxLen]) w2.heap.size rfl 2 rfl
  refine (choose_any ⟨300, 1, _, [3, 2]⟩ 3 0 _ [2, 3] _ (HOK.out _ (hI4.touch0 hu3)) (by simp) hF3).mono ?_
  rintro r w3 ⟨rfl, hu4⟩
  rw [k30_c1, k30_e1]
  have hu34 := hu3.then0 hu4
  have hB3 := hB2.touch hu34 (by simp)
  have hI5 := hI4.touch0 hu34
  have ht4 := ht3.then0 hu34
  have hr1'' : RowI w3 v1 [1, 2, 3] := Own.touch0 hr1' hu34
  have hr2' : RowI w3 v2 [0, 2, 3] := Own.touch0 hr2 hu34
  clear hu3 hF3 hu4 hu34 hB2 hI4 ht3 hr1' hr2 q0 q1 q2
  have q0 := hB3.cell 0
  have q1 := hB3.cell 1
  have q2 := hB3.cell 2
  simp at q0 q1 q2
  go_wp2_with fail
  refine (choose_any ⟨300, 1, _, [3, 2]⟩ 3 0 _ [] _ (HOK.out _ hI5) (by simp) (nil_ints _)).mono ?_
  rintro r w4 ⟨rfl, hu5⟩
  rw [k30_c2, k30_e2]
  have hB4 := hB3.touch hu5 (by simp)
  have hI6 := hI5.touch0 hu5
  have ht5 := ht4.then0 hu5
  have hr1 : RowI w4 v1 [1, 2, 3] := Own.touch0 hr1'' hu5
  have hr2 : RowI w4 v2 [0, 2, 3] := Own.touch0 hr2' hu5
  clear hu5 hB3 hI5 ht4 hr1'' hr2' q0 q1 q2
  have q0 := hB4.cell 0
  have q1 := hB4.cell 1
  have q2 := hB4.cell 2
  simp at q0 q1 q2
  go_wp2_with fail
  have hu6 := (Touch.refl [] w4).alloc (.cells #[.int .i64 300, .int .i64 1, .slice (some ⟨w.heap.size, 0, none⟩) 2 2] 91)
  have hbd : Bids (w4.alloc (.cells #[.int .i64 300, .int .i64 1, .slice (some ⟨w.heap.size, 0, none⟩) 2 2] 91)) (.slice (some ⟨w4.heap.size, 0, none⟩) 1 1) [⟨300, 1, .slice (some ⟨w.heap.size, 0, none⟩) 2 2, [3, 2]⟩] :=
    ⟨Reads.litN w4 91 3 1 [.int .i64 300, .int .i64 1, .slice (some ⟨w.heap.size, 0, none⟩) 2 2] rfl (by simp [maxLen]), fun x hx => by rw [List.mem_singleton.1 hx]; exact HOK.out _ (hI6.touch0 hu6)⟩
  refine (encode_any _ _ _ hbd (by simp)).mono ?_
  rintro r w5 ⟨v5, rfl, hr5, hu7⟩
  rw [k30_enc] at hr5
  rw [k30_encE]
  have hu67 := hu6.then0 hu7
  have ht6 := ht5.then0 hu67
  have hr1a : RowI w5 v1 [1, 2, 3] := Own.touch0 hr1 hu67
  have hr2a : RowI w5 v2 [0, 2, 3] := Own.touch0 hr2 hu67
  clear hu6 hbd hu7 hu67 ht5 hr1 hr2 hB4 hI6 q0 q1 q2
  go_wp2_with fail
  have hu8 := (Touch.refl [] w5).alloc (.cells #[.int .i64 1, .int .i64 2, .int .i64 3] 3)
  have hL8 := lit_ints w5 [1, 2, 3] (fits3 1 2 3 (by decide) (by decide) (by decide)) (by simp [maxLen]) w5.heap.size rfl 3 rfl
  refine (same_any _ _ [1, 2, 3] [1, 2, 3] _ (RowI.ints (Own.touch0 hr1a hu8) (fits3 1 2 3 (by decide) (by decide) (by decide))) hL8).mono ?_
  rintro r w6 ⟨rfl, hu9⟩
  rw [show decide (([1, 2, 3] : List Int) = [1, 2, 3]) = true from rfl]
  have hu89 := hu8.then0 hu9
  have ht7 := ht6.then0 hu89
  have hr2b : RowI w6 v2 [0, 2, 3] := Own.touch0 hr2a hu89
  have hr5b : Row w6 v5 [1, 172, 2, 1, 2, 3, 2] := Own.touch0 hr5 hu89
  clear hu8 hL8 hu9 hu89 ht6 hr1a hr2a hr5
  go_wp2_with fail
  have hu8 := (Touch.refl [] w6).alloc (.cells #[.int .i64 0, .int .i64 2, .int .i64 3] 3)
  have hL8 := lit_ints w6 [0, 2, 3] (fits3 0 2 3 (by decide) (by decide) (by decide)) (by simp [maxLen]) w6.heap.size rfl 3 rfl
  refine (same_any _ _ [0, 2, 3] [0, 2, 3] _ (RowI.ints (Own.touch0 hr2b hu8) (fits3 0 2 3 (by decide) (by decide) (by decide))) hL8).mono ?_
  rintro r w7 ⟨rfl, hu9⟩
  rw [show decide (([0, 2, 3] : List Int) = [0, 2, 3]) = true from rfl]
  have hu89 := hu8.then0 hu9
  have ht8 := ht7.then0 hu89
  have kb := run_str (Row.bytes (Own.touch0 hr5b hu89))
  clear hu8 hL8 hu9 hu89 ht7 hr2b hr5b
  go_wp2_with fail
  go_ret
  exact ⟨rfl, ht8⟩
end Go.Proofs.Ytpbknnkobhjjcaa
