/- The examples of the chapter on the wire are as the law says. -/
import Derived.Test.YtpbknnkobhjjcaaReader8
import Derived.Lib.SlBytesConst
namespace Go.Proofs.Ytpbknnkobhjjcaa
open Go.RowKit

/-- A writer that the call itself has made since w0. -/
def WrL (w0 w : World) (p : Nat) (out : Value) (s : WS) : Prop := Wr w p out s ∧ Touch [] w0 w ∧ w0.heap.size ≤ p ∧ ∀ g ∈ blk out, w0.heap.size ≤ g
theorem WrL.done {w0 w w' : World} {p : Nat} {out : Value} {s s' : WS} {r : Ending} (h : WrL w0 w p out s) (hd : WrDone w p out s' r w') : r = .returned (.tuple #[]) ∧ ∃ out', WrL w0 w' p out' s' := by
  obtain ⟨hr, out', h1, h2, h3⟩ := hd
  obtain ⟨_, k2, k3, k4⟩ := h
  refine ⟨hr, out', h1, k2.step h2 (fun m hm => .inr ?_), k3, fun g hg => ?_⟩
  · simp at hm
    rcases hm with rfl | hm
    · exact k3
    · exact k4 m hm
  · rcases h3 g hg with h4 | h4
    · exact k4 g h4
    · exact Nat.le_trans k2.size h4
theorem WrL.new (w : World) : WrL w (w.alloc (.cells #[.int .i64 0, .slice none 0 0] 30)) w.heap.size (.slice none 0 0) (0, []) :=
  ⟨Wr.new w, (Touch.refl _ _).alloc _, Nat.le_refl _, fun g hg => by cases hg⟩
theorem WrL.alloc {w0 w : World} {p : Nat} {out : Value} {s : WS} (h : WrL w0 w p out s) (o : Obj) : WrL w0 (w.alloc o) p out s :=
  ⟨⟨h.1.1.alloc o, fun h0 => ⟨Own.touch0 (h.1.2 h0).1 ((Touch.refl _ _).alloc o), (h.1.2 h0).2⟩⟩, h.2.1.alloc o, h.2.2⟩

/-- A slice over a block just made. -/
theorem Reads.lit (w : World) (t : TypeId) (fr : Nat × Nat) (xs : List Value) (n : Nat) (hn : xs.length = n) (hm : n ≤ maxLen) : Reads (w.alloc (.cells xs.toArray t fr)) 1 (.slice (some ⟨w.heap.size, 0, none⟩) n n) n xs := by
  refine ⟨_, _, rfl, Nat.le_refl _, hm, by omega, fun _ => ⟨w.heap.size, 0, rfl, by simp, fun j u hu => ?_⟩⟩
  have hb : (w.alloc (.cells xs.toArray t fr)).heap[w.heap.size]? = some (.cells xs.toArray t fr) := heap_alloc_new w _
  rw [Nat.zero_add, cell_of_row _ _ _ _ _ _ hb]
  simpa using hu

theorem known_bytes : wInts (wBytes (wBool (wInt (wInt (wUint (0, []) 300) (-64)) (-9223372036854775808)) true) [97, 98]) [1, -1] = (0, [172, 2, 127, 255, 255, 255, 255, 255, 255, 255, 255, 255, 1, 1, 2, 97, 98, 2, 2, 1]) := by decide +kernel
theorem known_r1 : rRead 0 (pUint [128, 0]) (0, 0) = (0, (6, 0)) := by decide +kernel
theorem known_r2 : rRead 0 (pUint [5, 255]) (0, 0) = (5, (0, 1)) := by decide +kernel
theorem known_r3 : rRead 0 (pUint [5, 255]) (0, 1) = (0, (4, 1)) := by decide +kernel
theorem known_r4 : rRead [] (pPart [2, 97, 98] 1) (0, 0) = ([], (7, 0)) := by decide +kernel
/-- A reader stays where another one is moved. -/
theorem Rd.apart {w w' : World} {p q : Nat} {inp : Value} {l : List UInt8} {e : Int} {a : Nat} (h : Rd w p inp l e a) (ht : Touch [q] w w') (h1 : p ≠ q) (h2 : q ∉ rb inp) : Rd w' p inp l e a :=
  h.touch ht (by simpa using h1) (fun b hb hm => by simp at hm; subst hm; exact h2 hb)
theorem Rd.touch0 {w w' : World} {p : Nat} {inp : Value} {l : List UInt8} {e : Int} {a : Nat} (h : Rd w p inp l e a) (ht : Touch [] w w') : Rd w' p inp l e a := h.touch ht (by simp) (by simp)
theorem known_frame : wBytes (wUint (0, []) 5) [120] = (0, [5, 1, 120]) := by decide +kernel

set_option maxRecDepth 100000 in
set_option maxHeartbeats 1000000 in
theorem known_any (w : World) : Calls Try.prog 19 #[] w fun r w' => r = .returned (.bool true) ∧ Touch [] w w' := by
  have kc := fun (w : World) (C : Array Value) (n c : Nat) => Lib.run_convert_bytes_const (P := Try.prog) w 28 5 C n c Try.underlying28 Try.underlying5
  go_enter Try.func19, Try.ntmps19
  go_wp2_with fail
  refine (wr_uint _ _ _ 300 _ (WrL.new w).1 (by omega)).mono ?_
  intro r w1 hd
  obtain ⟨rfl, o1, h1⟩ := (WrL.new w).done hd
  clear hd
  go_wp2_with fail
  refine (wr_int _ _ _ (-64) _ h1.1 (by omega) (by omega)).mono ?_
  intro r w2 hd
  obtain ⟨rfl, o2, h2⟩ := h1.done hd
  clear hd h1
  go_wp2_with fail
  refine (wr_int _ _ _ (-9223372036854775808) _ h2.1 (by omega) (by omega)).mono ?_
  intro r w3 hd
  obtain ⟨rfl, o3, h3⟩ := h2.done hd
  clear hd h2
  go_wp2_with fail
  refine (wr_bool _ _ _ true _ h3.1).mono ?_
  intro r w4 hd
  obtain ⟨rfl, o4, h4⟩ := h3.done hd
  clear hd h3
  go_wp2_with fail
  refine (wr_str _ _ _ ⟨#[97, 98]⟩ _ h4.1 (by decide)).mono ?_
  intro r w5 hd
  obtain ⟨rfl, o5, h5⟩ := h4.done hd
  clear hd h4
  go_wp2_with fail
  have i6 : Ints (w5.alloc (.cells #[.int .i64 1, .int .i64 (-1)] 3)) (.slice (some ⟨w5.heap.size, 0, none⟩) 2 2) [1, -1] :=
    ⟨Reads.lit w5 _ _ [.int .i64 1, .int .i64 (-1)] 2 rfl (by decide), by intro n hn; simp at hn; rcases hn with rfl | rfl <;> exact ⟨by omega, by omega⟩⟩
  have h6 := h5.alloc (.cells #[.int .i64 1, .int .i64 (-1)] 3)
  refine (wr_ints _ _ _ _ [1, -1] _ h6.1 i6 (fun h0 g hg hm => ?_)).mono ?_
  · simp [rb] at hg
    subst hg
    have := Own.lt (h5.1.2 h0).1 _ hm
    omega
  clear h5
  intro r w7 hd
  obtain ⟨rfl, o7, h7⟩ := h6.done hd
  clear hd h6 i6
  go_wp2_with fail
  refine (wr_end _ _ _ _ h7.1).mono ?_
  rintro r w8 ⟨b, rfl, hb, ht8, _⟩
  have ht8' := h7.2.1.then0 ht8
  clear h7 ht8
  rw [known_bytes] at hb ⊢
  simp only [if_true] at hb ⊢
  go_wp2_with fail
  have i9 : Bytes (w8.alloc (.cells #[.int .u8 120] 5 (1, 2))) (.slice (some ⟨w8.heap.size, 0, none⟩) 1 1) [120] := Reads.lit w8 _ _ [.int .u8 120] 1 rfl (by decide)
  refine (frame_any 5 _ [120] _ (by omega) i9).mono ?_
  rintro r w9 ⟨f, rfl, hf, ht9, _⟩
  rw [known_frame] at hf ⊢
  simp only [if_true] at hf ⊢
  have ht9a : Touch [] w8 w9 := ((Touch.refl [] w8).alloc _).then0 ht9
  have ht9' := ht8'.then0 ht9a
  have hs9 := ht9'.size
  have hb9 := Own.touch0 hb ht9a
  clear hb i9 ht9 ht9a
  have s1 := run_str (Row.bytes hb9)
  have s2 := run_str (Row.bytes hf)
  go_wp2_with fail
  have i10 : Bytes (w9.alloc (.cells #[.int .u8 128, .int .u8 0] 5)) (.slice (some ⟨w9.heap.size, 0, none⟩) 2 2) [128, 0] := Reads.lit w9 _ _ [.int .u8 128, .int .u8 0] 2 rfl (by decide)
  refine (read_any _ [128, 0] _ i10 (by decide)).mono ?_
  rintro r w10 ⟨p1, in1, rfl, hp1, hi1, hr1, ht10⟩
  have ht10' := (ht9'.alloc _).then0 ht10
  clear ht10 i10 s1 s2 hb9 hf ht9'
  go_wp2_with fail
  have i11 : Bytes (w10.alloc (.cells #[.int .u8 5, .int .u8 255] 5)) (.slice (some ⟨w10.heap.size, 0, none⟩) 2 2) [5, 255] := Reads.lit w10 _ _ [.int .u8 5, .int .u8 255] 2 rfl (by decide)
  refine (read_any _ [5, 255] _ i11 (by decide)).mono ?_
  rintro r w11 ⟨p2, in2, rfl, hp2, hi2, hr2, ht11⟩
  have hr1b := hr1.touch0 (((Touch.refl [] w10).alloc _).then0 ht11)
  have ht11' := (ht10'.alloc _).then0 ht11
  have hp12 : p1 < p2 := by have := hr1.1.lt; simp at hp2; omega
  have Hi2 : Hid (p1 ∉ rb in2) := fun hm => by have q1 := hi2 _ hm; have q2 := hr1.1.lt; simp at q1; omega
  clear ht11 i11 ht10' hr1 hi1
  go_wp2_with fail
  have i12 : Bytes (w11.alloc (.cells #[.int .u8 2, .int .u8 97, .int .u8 98] 5)) (.slice (some ⟨w11.heap.size, 0, none⟩) 3 3) [2, 97, 98] := Reads.lit w11 _ _ [.int .u8 2, .int .u8 97, .int .u8 98] 3 rfl (by decide)
  refine (read_any _ [2, 97, 98] _ i12 (by decide)).mono ?_
  rintro r w12 ⟨p3, in3, rfl, hp3, hi3, hr3, ht12⟩
  have hr1c := hr1b.touch0 (((Touch.refl [] w11).alloc _).then0 ht12)
  have hr2c := hr2.touch0 (((Touch.refl [] w11).alloc _).then0 ht12)
  have ht12' := (ht11'.alloc _).then0 ht12
  have hp23 : p2 < p3 := by have := hr2.1.lt; simp at hp3; omega
  have Hi3 : Hid (p1 ∉ rb in3) := fun hm => by have q1 := hi3 _ hm; have q2 := hr1b.1.lt; simp at q1; omega
  have Hi3' : Hid (p2 ∉ rb in3) := fun hm => by have q1 := hi3 _ hm; have q2 := hr2.1.lt; simp at q1; omega
  have hpp1 : w.heap.size ≤ p1 := by simp at hp1; omega
  clear ht12 i12 ht11' hr1b hr2 hi2 hi3
  go_wp2_with fail
  refine (rd_uint _ _ _ (0, 0) _ hr1c).mono ?_
  rintro r w13 ⟨rfl, hr1d, ht13⟩
  rw [known_r1] at hr1d ⊢
  simp only at hr1d ⊢
  have hr2d := hr2c.apart ht13 (by omega) Hi2.out
  have hr3d := hr3.apart ht13 (by omega) Hi3.out
  have ht13' := ht12'.step ht13 (by simp; omega)
  clear hr1c hr2c hr3 ht13 ht12'
  go_wp2_with fail
  refine (rd_err _ _ _ _ _ _ hr1d).mono ?_
  rintro r w' ⟨rfl, rfl⟩
  go_wp2_with fail
  refine (rd_uint _ _ _ (0, 0) _ hr2d).mono ?_
  rintro r w14 ⟨rfl, hr2e, ht14⟩
  rw [known_r2] at hr2e ⊢
  simp only at hr2e ⊢
  have hr3e := hr3d.apart ht14 (by omega) Hi3'.out
  have ht14' := ht13'.step ht14 (by simp; omega)
  clear hr1d hr2d hr3d ht14 ht13'
  go_wp2_with fail
  refine (rd_uint _ _ _ (0, 1) _ hr2e).mono ?_
  rintro r w15 ⟨rfl, hr2f, ht15⟩
  rw [known_r3] at hr2f ⊢
  simp only at hr2f ⊢
  have hr3f := hr3e.apart ht15 (by omega) Hi3'.out
  have ht15' := ht14'.step ht15 (by simp; omega)
  clear hr2e hr3e ht15 ht14'
  go_wp2_with fail
  refine (rd_err _ _ _ _ _ _ hr2f).mono ?_
  rintro r w' ⟨rfl, rfl⟩
  go_wp2_with fail
  refine (rd_at _ _ _ _ _ _ hr2f).mono ?_
  rintro r w' ⟨rfl, rfl⟩
  go_wp2_with fail
  refine (rd_bytes _ _ _ (0, 0) 1 _ hr3f).mono ?_
  rintro r w16 ⟨y, rfl, hy, _, hr3g, ht16⟩
  rw [known_r4] at hy hr3g
  simp only at hy hr3g
  obtain ⟨A4, c4, rfl⟩ := Own.form hy
  have ht16' := ht15'.step ht16 (by simp; omega)
  clear hr2f hr3f ht16 ht15'
  go_wp2_with fail
  refine (rd_err _ _ _ _ _ _ hr3g).mono ?_
  rintro r w' ⟨rfl, rfl⟩
  go_wp2_with fail
  go_ret
  exact ⟨rfl, ht16'⟩
end Go.Proofs.Ytpbknnkobhjjcaa
