/- Package band: channels; the options that are open. -/
import Derived.Test.YtpbknnkobhjjcaaBand
namespace Go.Proofs.Ytpbknnkobhjjcaa
open Go.RowKit
set_option linter.unusedSimpArgs false

theorem tg_look2 (n : Int) (w : World) (r : Nat) (ks : List Int) (h : TMap w r ks) (hk : ∀ n, n ∈ ks ↔ n ∈ targets) : ∃ v, (Instr.lookup 133 (.map (some r)) (.agg #[.int .i64 n]) true).run Try.prog w = .ok (.tuple #[v, .bool (tgB n)]) w := by
  obtain ⟨v, hv⟩ := tg_look n w r ks h
  have e : decide (n ∈ ks) = tgB n := decide_eq_decide.2 (hk n)
  rw [e] at hv
  exact ⟨v, hv⟩
set_option maxRecDepth 100000 in
set_option maxHeartbeats 1000000 in
theorem tvalid_any (t : Int) (w : World) : Calls Try.prog 102 #[.agg #[.int .i64 t]] w fun r w' => r = .returned (.bool (tgB t)) ∧ Touch [] w w' := by
  have hblk := Blk.new w 86 #[.int .i64 t]
  have HC := Lib.hid (show (w.alloc (.cells #[.int .i64 t] 86)).cell? ⟨w.heap.size, 0, none⟩ = some (.int .i64 t) from hblk.cell 0)
  clear hblk
  go_enter Try.func102, Try.ntmps102
  go_wp2_with fail
  go_region_held3 (fun W => W.cell? ⟨w.heap.size, 0, none⟩ = some (.int .i64 t)) (first | exact HC.out | exact (ht1.cell (p := ⟨w.heap.size, 0, none⟩) (by simp) (by simp)).trans HC.out) (first | (go_at_call 113; refine (blocks_any _).mono ?_; rintro r w1 ⟨m, ks, rfl, hm, hks, ht, hge⟩; have ht1 : Touch [] (w.alloc (.cells #[.int .i64 t] 86)) w1 := ⟨ht.os, ht.tape, ht.output, ht.size, ht.block⟩; obtain ⟨v, hl⟩ := tg_look2 t w1 m ks hm hks; clear hks hm))
  all_goals
    go_wp2_with fail
    go_ret
    exact ⟨rfl, ((Touch.refl [] w).alloc _).then0 ht1⟩

theorem targets_small : ∀ n ∈ targets, 7 ≤ n ∧ n ≤ 24 := by decide
theorem targets_fit (n : Int) (hn : n ∈ targets) : Fits n := by have := targets_small n hn; unfold Fits; omega
theorem targets_ints (w : World) : Ints (w.alloc (.cells #[.int .i64 24, .int .i64 23, .int .i64 21, .int .i64 19, .int .i64 18, .int .i64 14, .int .i64 13, .int .i64 12, .int .i64 10, .int .i64 8, .int .i64 7] 3)) (.slice (some ⟨w.heap.size, 0, none⟩) 11 11) targets :=
  ⟨Reads.lit w 3 (0, 0) (targets.map I) 11 rfl (by simp [maxLen]), fun n hn => targets_fit n hn⟩
def TgRel (w : World) (p q : Nat) (t : Int) (ti : Value) (wr : World) : Prop := noneRel targets t ti ∧ Ints wr (.slice (some ⟨q, 0, none⟩) 11 11) targets ∧ Blk wr p 86 #[.int .i64 t] ∧ Touch [] w wr
set_option maxRecDepth 100000 in
set_option maxHeartbeats 1000000 in
theorem rtarget_any (t : Int) (w : World) : Calls Try.prog 104 #[.agg #[.int .i64 t]] w fun r w' => r = .returned (.bool (tgB t)) ∧ Touch [] w w' := by
  go_enter Try.func104, Try.ntmps104
  go_wp2_with fail
  go_loopw [4] (fun ti wr => TgRel w w.heap.size (w.heap.size + 1) t ti wr) (fun ti _ => 11 - (intOf ti).toNat)
  case atStart =>
    refine ⟨⟨0, by decide, rfl, by simp⟩, ?_, (Blk.new w _ _).alloc _, ((Touch.refl [] w).alloc _).alloc _⟩
    have := targets_ints (w.alloc (.cells #[.int .i64 t] 86))
    simpa using this
  case round =>
    obtain ⟨⟨k, hk, rfl, hk2⟩, hI, hB, ht⟩ := hrel
    have HK := Lib.hid hk2
    clear hk2
    have hk11 : k ≤ 11 := hk
    have hb0 := hB.cell 0
    simp at hb0
    by_cases hlt : k < 11
    · have hlt' : (k : Int) < 11 := by omega
      obtain ⟨b, off, c, e, hc, hc1, hc2⟩ := hI.at (k := k) hlt
      injection e with e1 e4 e2
      injection e1 with e1
      injection e1 with e1 e3
      subst e1 e2 e3
      clear e4
      have HN := Lib.hid (fun he => noneRel.next (l := targets) hlt HK.out he)
      have HF : Hid (targets[k] = t → t ∈ targets) := Lib.hid (fun he => he ▸ List.getElem_mem hlt)
      rw [Nat.zero_add] at hc
      generalize targets[k] = y at *
      clear hc1 hc2 hk
      by_cases hxy : y = t
      · have hb : (y == t) = true := by simp [hxy]
        go_wp2_with fail
        go_quiet (fail)
        go_wp2_with fail
        go_ret
        exact ⟨by unfold tgB; rw [decide_eq_true (HF.out hxy)]; rfl, ht.drewN _⟩
      · have hb : (y == t) = false := by simpa using hxy
        have HR : Hid (∀ n, TgRel w w.heap.size (w.heap.size + 1) t (.int .i64 ((k : Int) + 1)) (wr.drewN n)) := Lib.hid (fun n => ⟨HN.out hxy, hI.touch0 ((Touch.refl [] wr).drewN n), hB, ht.drewN n⟩)
        go_wp2_with fail
        go_quiet (fail)
        go_wp2_with fail
        go_roundw
        case rel => exact HR.out _
        case measure => simp [intOf]; omega
    · have hlt' : ¬ (k : Int) < 11 := by omega
      have hno : t ∉ targets := by have := HK.out; rwa [List.take_of_length_le (by show 11 ≤ k; omega)] at this
      go_wp2_with fail
      go_ret
      exact ⟨by unfold tgB; rw [decide_eq_false hno]; rfl, ht⟩

def lowOf (b : Int) : Int := if b = 1 then 2 else if b = 2 then 7 else 14
def manyOf (b : Int) : Nat := if b = 1 then 5 else if b = 2 then 7 else 38
def highOf (b : Int) : Int := if b = 1 then 6 else if b = 2 then 13 else 51
set_option maxRecDepth 100000 in
set_option maxHeartbeats 1000000 in
theorem range_any (b : Int) (w : World) (hb : b = 1 ∨ b = 2 ∨ b = 3) : Calls Try.prog 115 #[.int .i64 b] w fun r w' => r = .returned (.tuple #[.int .i64 (lowOf b), .int .i64 (highOf b), .int .i64 0]) ∧ w = w' := by
  rcases hb with rfl | rfl | rfl
  all_goals
    go_enter Try.func115, Try.ntmps115
    go_wp2
    go_ret3
    exact ⟨rfl, rfl⟩
set_option maxRecDepth 100000 in
set_option maxHeartbeats 1000000 in
theorem top_any (t : Int) (w : World) (h1 : 0 ≤ t) (h2 : t ≤ 100) : Calls Try.prog 118 #[.agg #[.int .i64 t]] w fun r w' => r = .returned (.int .i64 (51 - t)) ∧ Touch [] w w' := by
  go_enter Try.func118, Try.ntmps118
  go_wp2
  go_ret
  exact ⟨rfl, (Touch.refl [] w).alloc _⟩

def chB (t c : Int) : Bool := decide (c ≤ 51 - t) && (c != 37)
def LeftRel (w : World) (p : Nat) (t : Int) (v : Value) (xs cs : List Int) (tv ti : Value) (wr : World) : Prop := ∃ k : Nat, k ≤ cs.length ∧ ti = .int .i64 k ∧ RowI wr tv (xs ++ (cs.take k).filter (chB t)) ∧ Blk wr p 86 #[.int .i64 t] ∧ Touch (blk v) w wr ∧ From w v tv ∧ p ∉ blk tv
theorem filter_take {cs : List Int} {k : Nat} (hk : k < cs.length) (f : Int → Bool) : (cs.take (k + 1)).filter f = (cs.take k).filter f ++ (if f cs[k] then [cs[k]] else []) := by
  rw [List.take_succ_eq_append_getElem hk, List.filter_append]
  congr 1
  cases h : f cs[k] <;> simp [h]
set_option maxRecDepth 100000 in
set_option maxHeartbeats 1000000 in
theorem left_any (v u : Value) (xs cs : List Int) (t : Int) (w : World) (h1 : 0 ≤ t) (h2 : t ≤ 100) (hv : RowI w v xs) (hu : Ints w u cs) (hd : ∀ g ∈ rb u, g ∉ blk v) (hl : xs.length + cs.length ≤ 1000) :
    Calls Try.prog 117 #[v, .agg #[.int .i64 t], u] w fun r w' => ∃ v', r = .returned v' ∧ RowI w' v' (xs ++ cs.filter (chB t)) ∧ Touch (blk v) w w' ∧ From w v v' := by
  obtain ⟨A, cap, rfl, -⟩ := id hu.1
  have hlt0 := Own.lt hv
  go_enter Try.func117, Try.ntmps117
  go_wp2_with fail
  go_loopw [0, 11] (fun tv ti wr => LeftRel w w.heap.size t v xs cs tv ti wr) (fun _ ti _ => cs.length - (intOf ti).toNat)
  case atStart =>
    refine ⟨0, by omega, rfl, ?_, Blk.new w _ _, ((Touch.refl _ w).alloc _), From.refl _ _, fun h => by have := hlt0 _ h; omega⟩
    rw [List.take_zero, List.filter_nil, List.append_nil]
    exact Own.touch0 hv ((Touch.refl [] w).alloc _)
  case round =>
    obtain ⟨k, hk, rfl, hr, hB, ht, hf, hp⟩ := hrel
    have hb0 := hB.cell 0
    simp at hb0
    by_cases hlt : k < cs.length
    · have hlt' : (k : Int) < (cs.length : Int) := by omega
      obtain ⟨b, off, c, e, hc, hc1, hc2⟩ := (hu.touch ht (fun g hg hm => hd g hg hm)).at hlt
      injection e with e1 _ e2
      subst e1 e2
      have hlen : (xs ++ (cs.take k).filter (chB t)).length ≤ 1000 := by
        have h3 := List.length_filter_le (chB t) (cs.take k)
        rw [List.length_append]
        rw [List.length_take] at h3
        omega
      have HFT := Lib.hid (filter_take hlt (chB t))
      have HCB : Hid (chB t cs[k] = (decide (cs[k] ≤ 51 - t) && (cs[k] != 37))) := Lib.hid rfl
      generalize chB t cs[k] = cb at *
      generalize cs[k] = y at *
      go_wp2_with fail
      refine (top_any t _ h1 h2).mono ?_
      rintro r w1 ⟨rfl, ht1⟩
      have hr1 : RowI w1 _ _ := Own.touch0 hr ht1
      have hB1 := hB.touch ht1 (by simp)
      have htt1 := ht.then0 ht1
      have hsz : w.heap.size ≤ wr.heap.size := ht.size
      clear hr hB hb0 hc
      by_cases q1 : y ≤ 51 - t
      · by_cases q2 : y = 37
        · have hcb : cb = false := by rw [HCB.out]; simp [q2]
          have b2 : (y != 37) = false := by simp [q2]
          subst hcb
          clear q2
          go_wp2_with fail
          go_roundw
          case rel => exact ⟨k + 1, hlt, by go_num, by rw [HFT.out]; simpa using hr1, hB1, htt1, hf, hp⟩
          case measure => simp [intOf]; omega
        · have hcb : cb = true := by rw [HCB.out]; simp [q1, q2]
          have b2 : (y != 37) = true := by simpa using q2
          subst hcb
          go_wp2_with (at_builtin; go_must (refine app_new elem_int hr1 [Value.int .i64 y] 1 1 (by omega) (by unfold maxLen; omega) ?_); intro v2 w2 ho2 ht2 hf2)
          have hp1 : w.heap.size ≠ w1.heap.size := by have := hB1.lt; omega
          have htt2 : Touch (blk v) w w2 := htt1.step ht2 (fun m hm => hf m hm)
          have hff : From w v v2 := fun g hg => by rcases hf2 g hg with h | h; exact hf g h; exact .inr (by have := htt1.size; omega)
          have hpp : w.heap.size ∉ blk v2 := fun h => by rcases hf2 _ h with h' | h'; exact hp h'; have := hB1.lt; omega
          have hB2 := hB1.touch ht2 hp
          go_roundw
          case rel => exact ⟨k + 1, hlt, by go_num, by rw [HFT.out]; simp only [if_true]; rw [← List.append_assoc]; exact RowI.snoc ho2, hB2, htt2, hff, hpp⟩
          case measure => simp [intOf]; omega
      · have hcb : cb = false := by rw [HCB.out]; simp [q1]
        subst hcb
        go_wp2_with fail
        go_roundw
        case rel => exact ⟨k + 1, hlt, by go_num, by rw [HFT.out]; simpa using hr1, hB1, htt1, hf, hp⟩
        case measure => simp [intOf]; omega
    · have hlt' : ¬ (k : Int) < (cs.length : Int) := by omega
      go_wp2_with fail
      go_ret
      refine ⟨_, rfl, ?_, ht, hf⟩
      rw [List.take_of_length_le (by omega)] at hr
      exact hr
end Go.Proofs.Ytpbknnkobhjjcaa
