/- The law WireFull: its walk. -/
import Derived.Test.YtpbknnkobhjjcaaRound
import Derived.Laws.MakeOwn
import Derived.Deep.DeepCutAuto
namespace Go.Proofs.Ytpbknnkobhjjcaa
open Go.RowKit

theorem made_zero (m : Nat) : madeCells (Value.int .u8 0).cells m = ((List.replicate m (0 : UInt8)).map B).toArray := by
  apply Array.ext
  · simp [madeCells]
  · intro i h1 h2
    simp [madeCells, Value.cells, B]
    rw [Nat.mod_one]
    rfl
set_option maxRecDepth 100000 in
/-- make([]byte, n) of a variable n. -/
theorem make_bytes (m : Nat) (hm : m ≤ 1099511627776) (W : World) : (Instr.makeSlice 28 (.int .i64 (m : Int)) (.int .i64 (m : Int))).run Try.prog W = .ok (.slice (some ⟨W.heap.size, 0, none⟩) m m) (W.alloc (.cells (((List.replicate m (0 : UInt8)).map B).toArray) 5)) := by
  obtain ⟨ht, i, z, hi, hz, hsz, hby, hzs, hpos⟩ := elem_u8
  have hz2 := zero_u8
  rw [hi] at hz2
  have hz0 : i.zero = some (.int .u8 0) := by simpa using hz2
  have hb : (i.bytes : Int) * (m : Int) ≤ 281474976710656 := by rw [hby]; omega
  have hr := run_make (P := Try.prog) W 28 5 i (.int .u8 0) ht hi hz0 .i64 .i64 m m (by omega) (by omega) hb (by omega)
  simp only [Int.toNat_natCast] at hr
  rw [hr, hsz, Nat.mul_one, made_zero]

theorem grp3 (m : Nat) (h1 : 16384 ≤ m) (h2 : m < 2097152) : (grp m).length = 3 := by
  unfold grp
  rw [grpF, if_neg (by omega), grpF, if_neg (by omega), grpF, if_pos (by omega)]
  rfl
/-- What End returns of a state. -/
def endLen (s : WS) : Nat := (if s.1 = 0 then s.2 else []).length
theorem put_ok (s : WS) (enc : List UInt8) (h0 : s.1 = 0) (hl : s.2.length + enc.length ≤ 65536) : wPut s enc = (0, s.2 ++ enc) := by unfold wPut; rw [if_pos h0, if_pos hl]
theorem put_full (s : WS) (enc : List UInt8) (h0 : s.1 = 0) (hl : ¬ s.2.length + enc.length ≤ 65536) : wPut s enc = (7, s.2) := by unfold wPut; rw [if_pos h0, if_neg hl]

section
variable (m : Nat) (z : List UInt8) (hz : z.length = m) (h1 : 65500 ≤ m) (h2 : m ≤ 65600)
include hz h1 h2
theorem full_ok (h : m + 3 ≤ 65536) : wBytes (0, []) z = (0, grp m ++ z) ∧ (grp m ++ z).length = m + 3 := by
  have g := grp3 m (by omega) (by omega)
  have e : (grp m ++ z).length = m + 3 := by rw [List.length_append, g, hz]; omega
  refine ⟨?_, e⟩
  unfold wBytes
  rw [hz, put_ok _ _ rfl (by rw [e]; simp; omega)]
  rfl
theorem full_bad (h : ¬ m + 3 ≤ 65536) : wBytes (0, []) z = (7, []) := by
  have g := grp3 m (by omega) (by omega)
  unfold wBytes
  rw [hz, put_full _ _ rfl (by rw [List.length_append, g, hz]; simp; omega)]
theorem frame_ok (h : m + 4 ≤ 65536) : (wBytes (wUint (0, []) 1) z).1 = 0 ∧ endLen (wBytes (wUint (0, []) 1) z) = m + 4 := by
  have g := grp3 m (by omega) (by omega)
  have e0 : wUint (0, []) 1 = (0, [1]) := by decide +kernel
  rw [e0]
  unfold wBytes
  rw [hz, put_ok _ _ rfl (by rw [List.length_append, g, hz]; simp; omega)]
  refine ⟨rfl, ?_⟩
  unfold endLen
  simp only [if_true, List.length_append, g, hz]
  simp
  omega
theorem frame_bad (h : ¬ m + 4 ≤ 65536) : (wBytes (wUint (0, []) 1) z).1 = 7 ∧ endLen (wBytes (wUint (0, []) 1) z) = 0 := by
  have g := grp3 m (by omega) (by omega)
  have e0 : wUint (0, []) 1 = (0, [1]) := by decide +kernel
  rw [e0]
  unfold wBytes
  rw [hz, put_full _ _ rfl (by rw [List.length_append, g, hz]; simp; omega)]
  exact ⟨rfl, rfl⟩
theorem bools_ok (h : m + 5 ≤ 65536) : (wBool (wBool (wBytes (0, []) z) true) false).1 = 0 ∧ endLen (wBool (wBool (wBytes (0, []) z) true) false) = m + 5 := by
  obtain ⟨e, el⟩ := full_ok m z hz h1 h2 (by omega)
  rw [e]
  have a1 : wBool (0, grp m ++ z) true = (0, grp m ++ z ++ [1]) := put_ok _ _ rfl (by simp only [el]; simp; omega)
  have el2 : (grp m ++ z ++ [1]).length = m + 4 := by rw [List.length_append, el]; rfl
  rw [a1]
  have a2 : wBool (0, grp m ++ z ++ [1]) false = (0, grp m ++ z ++ [1] ++ [0]) := put_ok _ _ rfl (by simp only [el2]; simp; omega)
  rw [a2]
  refine ⟨rfl, ?_⟩
  unfold endLen
  simp only [if_true]
  rw [List.length_append, el2]
  rfl
theorem bools_bad (h : ¬ m + 5 ≤ 65536) : (wBool (wBool (wBytes (0, []) z) true) false).1 = 7 ∧ endLen (wBool (wBool (wBytes (0, []) z) true) false) = 0 := by
  by_cases h3 : m + 3 ≤ 65536
  · obtain ⟨e, el⟩ := full_ok m z hz h1 h2 h3
    rw [e]
    by_cases h4 : m + 4 ≤ 65536
    · have a1 : wBool (0, grp m ++ z) true = (0, grp m ++ z ++ [1]) := put_ok _ _ rfl (by simp only [el]; simp; omega)
      have el2 : (grp m ++ z ++ [1]).length = m + 4 := by rw [List.length_append, el]; rfl
      rw [a1]
      have a2 : wBool (0, grp m ++ z ++ [1]) false = (7, grp m ++ z ++ [1]) := put_full _ _ rfl (by simp only [el2]; simp; omega)
      rw [a2]
      exact ⟨rfl, rfl⟩
    · have a1 : wBool (0, grp m ++ z) true = (7, grp m ++ z) := put_full _ _ rfl (by simp only [el]; simp; omega)
      rw [a1]
      have a2 : wBool (7, grp m ++ z) false = (7, grp m ++ z) := wPut_bad _ _ (by simp)
      rw [a2]
      exact ⟨rfl, rfl⟩
  · rw [full_bad m z hz h1 h2 h3]
    exact ⟨rfl, rfl⟩
end
/-- The results of End, by their number of bytes. -/
theorem EndDone.form {w : World} {s : WS} {r : Ending} {w' : World} (h : EndDone w s r w') : ∃ A c, r = .returned (.tuple #[.slice A (endLen s) c, .int .i64 s.1]) ∧ Touch [] w w' := by
  obtain ⟨v, rfl, h2, h3, _⟩ := h
  obtain ⟨A, c, rfl⟩ := Own.form h2
  exact ⟨A, c, rfl, h3⟩

set_option maxRecDepth 1000000 in
set_option maxHeartbeats 2000000 in
theorem full_walk (n : Int) (w : World) (hf : Fits n) :
    Calls Try.prog 4 #[.int .i64 n] w fun r w' => r = .returned (.bool true) ∧ Touch [] w w' := by
  obtain ⟨hf1, hf2⟩ := hf
  by_cases hr : 65500 ≤ n ∧ n ≤ 65600
  · obtain ⟨hr1, hr2⟩ := hr
    obtain ⟨m, rfl⟩ := Int.eq_ofNat_of_zero_le (show 0 ≤ n by omega)
    clear hf1 hf2
    have hm1 : 65500 ≤ m := by omega
    have hm2 : m ≤ 65600 := by omega
    have hmk := make_bytes m (by omega)
    have d1 : decide ((m : Int) < 65500) = false := by simp; omega
    have d2 : decide (65600 < (m : Int)) = false := by simp; omega
    have hzl : (List.replicate m (0 : UInt8)).length = m := by simp
    have F1 : m + 3 ≤ 65536 → (wBytes (0, []) (List.replicate m (0 : UInt8))).1 = 0 ∧ endLen (wBytes (0, []) (List.replicate m (0 : UInt8))) = m + 3 := fun h => by
      obtain ⟨e, l⟩ := full_ok m _ hzl hm1 hm2 h
      rw [e]
      exact ⟨rfl, l⟩
    have F2 : ¬ m + 3 ≤ 65536 → (wBytes (0, []) (List.replicate m (0 : UInt8))).1 = 7 ∧ endLen (wBytes (0, []) (List.replicate m (0 : UInt8))) = 0 := fun h => by
      rw [full_bad m _ hzl hm1 hm2 h]
      exact ⟨rfl, rfl⟩
    have F3 := frame_ok m _ hzl hm1 hm2
    have F4 := frame_bad m _ hzl hm1 hm2
    have F5 := bools_ok m _ hzl hm1 hm2
    have F6 := bools_bad m _ hzl hm1 hm2
    have hbz : ∀ W : World, Bytes (W.alloc (.cells (((List.replicate m (0 : UInt8)).map B).toArray) 5)) (.slice (some ⟨W.heap.size, 0, none⟩) m m) (List.replicate m 0) := fun W => by
      have := Reads.lit W 5 (0, 0) ((List.replicate m (0 : UInt8)).map B) m (by simp) (by unfold maxLen; omega)
      unfold Bytes
      rw [hzl]
      exact this
    generalize hzz : List.replicate m (0 : UInt8) = z at *
    clear hzz
    have HZ := Lib.hid hbz
    have H1 := Lib.hid F1
    have H2 := Lib.hid F2
    have H3 := Lib.hid F3
    have H4 := Lib.hid F4
    have H5 := Lib.hid F5
    have H6 := Lib.hid F6
    clear hbz F1 F2 F3 F4 F5 F6 hzl
    go_enter Try.func4, Try.ntmps4
    go_wp2_with fail
    have h0 := (WrL.new w).alloc (.cells ((z.map B).toArray) 5)
    have hz1 := HZ.out (w.alloc (.cells #[.int .i64 0, .slice none 0 0] 30))
    rw [show (w.alloc (.cells #[.int .i64 0, .slice none 0 0] 30)).heap.size = w.heap.size + 1 by simp] at hz1
    refine (wr_bytes _ _ _ _ z _ h0.1 hz1 (fun _ g hg hm => by simp [blk] at hm)).mono ?_
    intro r w1 hd
    obtain ⟨rfl, o1, h1⟩ := h0.done hd
    clear hd h0 hz1
    go_wp2_with fail
    refine (wr_end _ _ _ _ h1.1).mono ?_
    intro r w2 hd
    obtain ⟨A2, c2, rfl, ht2⟩ := hd.form
    have h2 : WrL w w2 w.heap.size o1 _ := ⟨⟨h1.1.1.touch ht2 (by simp), fun he => ⟨Own.touch0 (h1.1.2 he).1 ht2, (h1.1.2 he).2⟩⟩, h1.2.1.then0 ht2, h1.2.2⟩
    clear hd h1 ht2
    go_wp2_with fail
    refine (frame_any 1 _ z _ (by omega) (HZ.out _)).mono ?_
    intro r w3 hd
    obtain ⟨A3, c3, rfl, ht3⟩ := hd.form
    have ht3' : Touch [] w2 w3 := ((Touch.refl [] w2).alloc _).then0 ht3
    have h3 : WrL w w3 w.heap.size o1 _ := ⟨⟨h2.1.1.touch ht3' (by simp), fun he => ⟨Own.touch0 (h2.1.2 he).1 ht3', (h2.1.2 he).2⟩⟩, h2.2.1.then0 ht3', h2.2.2⟩
    clear hd h2 ht3 ht3'
    go_wp2_with fail
    refine (wr_bool _ _ _ true _ h3.1).mono ?_
    intro r w4 hd
    obtain ⟨rfl, o4, h4⟩ := h3.done hd
    clear hd h3
    go_wp2_with fail
    refine (wr_bool _ _ _ false _ h4.1).mono ?_
    intro r w5 hd
    obtain ⟨rfl, o5, h5⟩ := h4.done hd
    clear hd h4
    go_wp2_with fail
    refine (wr_end _ _ _ _ h5.1).mono ?_
    intro r w6 hd
    obtain ⟨A6, c6, rfl, ht6⟩ := hd.form
    have htt := h5.2.1.then0 ht6
    clear hd h5 ht6
    generalize endLen (wBytes (0, []) z) = n2 at *
    generalize (wBytes (0, []) z).1 = e2 at *
    generalize endLen (wBytes (wUint (0, []) 1) z) = n3 at *
    generalize (wBytes (wUint (0, []) 1) z).1 = e3 at *
    generalize endLen (wBool (wBool (wBytes (0, []) z) true) false) = n6 at *
    generalize (wBool (wBool (wBytes (0, []) z) true) false).1 = e6 at *
    by_cases q3 : m + 3 ≤ 65536
    · obtain ⟨rfl, k2⟩ := (H1.out) q3
      by_cases q4 : m + 4 ≤ 65536
      · obtain ⟨rfl, k3⟩ := (H3.out) q4
        by_cases q5 : m + 5 ≤ 65536
        · obtain ⟨rfl, k6⟩ := (H5.out) q5
          have d3 : decide (65536 < (m : Int) + 3) = false := by simp; omega
          have d4 : decide ((m : Int) + 4 ≤ 65536) = true := by simp; omega
          have d5 : decide (65536 < (m : Int) + 5) = false := by simp; omega
          have t1 : ((n2 : Int) != (m : Int) + 3) = false := by rw [bne_eq_false_iff_eq]; omega
          have t2 : ((n3 : Int) != 0) = true := by rw [bne_iff_ne]; omega
          have t3 : ((n3 : Int) != (m : Int) + 4) = false := by rw [bne_eq_false_iff_eq]; omega
          have t4 : ((n6 : Int) == (m : Int) + 5) = true := by rw [beq_iff_eq]; omega
          clear q3 q4 q5 k2 k3 k6 hm1 hm2 hmk HZ H1 H2 H3 H4 H5 H6
          go_wp2_with fail
          refine (known_any _).mono ?_
          rintro r w7 ⟨rfl, ht7⟩
          go_wp2_with fail
          go_ret
          exact ⟨rfl, htt.then0 ht7⟩
        · obtain ⟨rfl, rfl⟩ := (H6.out) q5
          have d3 : decide (65536 < (m : Int) + 3) = false := by simp; omega
          have d4 : decide ((m : Int) + 4 ≤ 65536) = true := by simp; omega
          have d5 : decide (65536 < (m : Int) + 5) = true := by simp; omega
          have t1 : ((n2 : Int) != (m : Int) + 3) = false := by rw [bne_eq_false_iff_eq]; omega
          have t2 : ((n3 : Int) != 0) = true := by rw [bne_iff_ne]; omega
          have t3 : ((n3 : Int) != (m : Int) + 4) = false := by rw [bne_eq_false_iff_eq]; omega
          clear q3 q4 q5 k2 k3 hm1 hm2 hmk HZ H1 H2 H3 H4 H5 H6
          go_wp2_with fail
          refine (known_any _).mono ?_
          rintro r w7 ⟨rfl, ht7⟩
          go_wp2_with fail
          go_ret
          exact ⟨rfl, htt.then0 ht7⟩
      · obtain ⟨rfl, rfl⟩ := (H4.out) q4
        obtain ⟨rfl, rfl⟩ := (H6.out) (by omega)
        have d3 : decide (65536 < (m : Int) + 3) = false := by simp; omega
        have d4 : decide ((m : Int) + 4 ≤ 65536) = false := by simp; omega
        have d5 : decide (65536 < (m : Int) + 5) = true := by simp; omega
        have t1 : ((n2 : Int) != (m : Int) + 3) = false := by rw [bne_eq_false_iff_eq]; omega
        clear q3 q4 k2 hm1 hm2 hmk HZ H1 H2 H3 H4 H5 H6
        go_wp2_with fail
        refine (known_any _).mono ?_
        rintro r w7 ⟨rfl, ht7⟩
        go_wp2_with fail
        go_ret
        exact ⟨rfl, htt.then0 ht7⟩
    · obtain ⟨rfl, rfl⟩ := (H2.out) q3
      obtain ⟨rfl, rfl⟩ := (H4.out) (by omega)
      obtain ⟨rfl, rfl⟩ := (H6.out) (by omega)
      have d3 : decide (65536 < (m : Int) + 3) = true := by simp; omega
      have d4 : decide ((m : Int) + 4 ≤ 65536) = false := by simp; omega
      have d5 : decide (65536 < (m : Int) + 5) = true := by simp; omega
      clear q3 hm1 hm2 hmk HZ H1 H2 H3 H4 H5 H6
      go_wp2_with fail
      refine (known_any _).mono ?_
      rintro r w7 ⟨rfl, ht7⟩
      go_wp2_with fail
      go_ret
      exact ⟨rfl, htt.then0 ht7⟩
  · have hr1 : n < 65500 ∨ ¬ n < 65500 ∧ 65600 < n := by omega
    rcases hr1 with hr1 | ⟨hr1, hr2⟩
    · go_enter Try.func4, Try.ntmps4
      go_wp2_with fail
      refine (known_any _).mono ?_
      rintro r w7 ⟨rfl, ht7⟩
      go_wp2_with fail
      go_ret
      exact ⟨rfl, ht7⟩
    · go_enter Try.func4, Try.ntmps4
      go_wp2_with fail
      refine (known_any _).mono ?_
      rintro r w7 ⟨rfl, ht7⟩
      go_wp2_with fail
      go_ret
      exact ⟨rfl, ht7⟩
end Go.Proofs.Ytpbknnkobhjjcaa
