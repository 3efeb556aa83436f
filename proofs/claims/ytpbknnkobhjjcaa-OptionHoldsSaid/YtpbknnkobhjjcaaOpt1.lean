/- Options of stations: the small functions of package option and of its specification. -/
import Derived.Test.YtpbknnkobhjjcaaAgain0
namespace Go.Proofs.Ytpbknnkobhjjcaa
open Go.RowKit
set_option linter.unusedSimpArgs false

def goodB (h c : Int) : Bool := decide (1 ≤ h ∧ h ≤ 3 ∧ 0 ≤ c ∧ c ≤ h)
def allowB (h c o : Int) : Bool := goodB h c && decide (c ≤ o ∧ o ≤ h)
def optB (n : Int) : Bool := decide (0 ≤ n ∧ n ≤ 3)
/-- n numbers from c on. -/
def numsFrom (c : Int) (n : Nat) : List Int := (List.range n).map fun (i : Nat) => c + (i : Int)
theorem numsFrom_succ (c : Int) (n : Nat) : numsFrom c (n + 1) = numsFrom c n ++ [c + n] := by unfold numsFrom; rw [List.range_succ, List.map_append]; rfl
theorem numsFrom_len (c : Int) (n : Nat) : (numsFrom c n).length = n := by simp [numsFrom]
theorem goodB_iff {h c : Int} : goodB h c = true ↔ 1 ≤ h ∧ h ≤ 3 ∧ 0 ≤ c ∧ c ≤ h := by simp [goodB]
def optsL (h c : Int) : List Int := if goodB h c then numsFrom c (h - c + 1).toNat else []
def NewInts (w : World) (l : List Int) (e : Int) (r : Ending) (w' : World) : Prop := ∃ v, r = .returned (.tuple #[v, .int .i64 e]) ∧ RowI w' v l ∧ Touch [] w w' ∧ ∀ g ∈ blk v, w.heap.size ≤ g
set_option maxRecDepth 100000 in
set_option maxHeartbeats 400000 in
theorem bidding_any (h c : Int) (w : World) : Calls Try.prog 100 #[.int .i64 h, .int .i64 c] w fun r w' => r = .returned (.bool (goodB h c)) ∧ w = w' := by
  unfold goodB
  by_cases h0 : 1 ≤ h
  case neg =>
    have n0 : h < 1 := by omega
    have d0 : decide (1 ≤ h) = false := by simpa using h0
    go_enter Try.func100, Try.ntmps100
    go_wp2
    go_ret
    exact ⟨by simp [h0], rfl⟩
  by_cases h1 : h ≤ 3
  case neg =>
    have n1 : 3 < h := by omega
    have d1 : decide (h ≤ 3) = false := by simpa using h1
    go_enter Try.func100, Try.ntmps100
    go_wp2
    go_ret
    exact ⟨by simp [h1], rfl⟩
  by_cases h2 : 0 ≤ c
  case neg =>
    have n2 : c < 0 := by omega
    have d2 : decide (0 ≤ c) = false := by simpa using h2
    go_enter Try.func100, Try.ntmps100
    go_wp2
    go_ret
    exact ⟨by simp [h2], rfl⟩
  by_cases h3 : c ≤ h
  case neg =>
    have n3 : h < c := by omega
    have d3 : decide (c ≤ h) = false := by simpa using h3
    go_enter Try.func100, Try.ntmps100
    go_wp2
    go_ret
    exact ⟨by simp [h3], rfl⟩
  go_enter Try.func100, Try.ntmps100
  go_wp2
  go_ret
  exact ⟨by simp [h0, h1, h2, h3], rfl⟩
set_option maxRecDepth 100000 in
set_option maxHeartbeats 400000 in
theorem rgood_any (h c : Int) (w : World) : Calls Try.prog 101 #[.int .i64 h, .int .i64 c] w fun r w' => r = .returned (.bool (goodB h c)) ∧ w = w' := by
  unfold goodB
  by_cases h0 : 1 ≤ h
  case neg =>
    have n0 : h < 1 := by omega
    have d0 : decide (1 ≤ h) = false := by simpa using h0
    go_enter Try.func101, Try.ntmps101
    go_wp2
    go_ret
    exact ⟨by simp [h0], rfl⟩
  by_cases h1 : h ≤ 3
  case neg =>
    have n1 : 3 < h := by omega
    have d1 : decide (h ≤ 3) = false := by simpa using h1
    go_enter Try.func101, Try.ntmps101
    go_wp2
    go_ret
    exact ⟨by simp [h1], rfl⟩
  by_cases h2 : 0 ≤ c
  case neg =>
    have n2 : c < 0 := by omega
    have d2 : decide (0 ≤ c) = false := by simpa using h2
    go_enter Try.func101, Try.ntmps101
    go_wp2
    go_ret
    exact ⟨by simp [h2], rfl⟩
  by_cases h3 : c ≤ h
  case neg =>
    have n3 : h < c := by omega
    have d3 : decide (c ≤ h) = false := by simpa using h3
    go_enter Try.func101, Try.ntmps101
    go_wp2
    go_ret
    exact ⟨by simp [h3], rfl⟩
  go_enter Try.func101, Try.ntmps101
  go_wp2
  go_ret
  exact ⟨by simp [h0, h1, h2, h3], rfl⟩
set_option maxRecDepth 100000 in
set_option maxHeartbeats 400000 in
theorem allowed_any (h c o : Int) (w : World) : Calls Try.prog 56 #[.int .i64 h, .int .i64 c, .int .i64 o] w fun r w' => r = .returned (.bool (allowB h c o)) ∧ w = w' := by
  unfold allowB
  have hc := bidding_any h c w
  generalize goodB h c = g at *
  have HC := Lib.hid hc
  clear hc
  cases g with
  | false =>
    go_enter Try.func56, Try.ntmps56
    go_wp2_with fail
    refine HC.out.mono ?_
    rintro r w' ⟨rfl, rfl⟩
    go_wp2
    go_ret
    exact ⟨by simp, rfl⟩
  | true =>
    by_cases h1 : c ≤ o
    case neg =>
      have n1 : o < c := by omega
      have d1 : decide (c ≤ o) = false := by simpa using h1
      go_enter Try.func56, Try.ntmps56
      go_wp2_with fail
      refine HC.out.mono ?_
      rintro r w' ⟨rfl, rfl⟩
      go_wp2
      go_ret
      exact ⟨by simp; omega, rfl⟩
    by_cases h2 : o ≤ h
    case neg =>
      have n2 : h < o := by omega
      have d2 : decide (o ≤ h) = false := by simpa using h2
      go_enter Try.func56, Try.ntmps56
      go_wp2_with fail
      refine HC.out.mono ?_
      rintro r w' ⟨rfl, rfl⟩
      go_wp2
      go_ret
      exact ⟨by simp; omega, rfl⟩
    go_enter Try.func56, Try.ntmps56
    go_wp2_with fail
    refine HC.out.mono ?_
    rintro r w' ⟨rfl, rfl⟩
    go_wp2
    go_ret
    exact ⟨by simp [h1, h2], rfl⟩
set_option maxRecDepth 100000 in
set_option maxHeartbeats 400000 in
theorem rallowed_any (h c o : Int) (w : World) : Calls Try.prog 57 #[.int .i64 h, .int .i64 c, .int .i64 o] w fun r w' => r = .returned (.bool (allowB h c o)) ∧ w = w' := by
  unfold allowB
  have hc := rgood_any h c w
  generalize goodB h c = g at *
  have HC := Lib.hid hc
  clear hc
  cases g with
  | false =>
    go_enter Try.func57, Try.ntmps57
    go_wp2_with fail
    refine HC.out.mono ?_
    rintro r w' ⟨rfl, rfl⟩
    go_wp2
    go_ret
    exact ⟨by simp, rfl⟩
  | true =>
    by_cases h1 : c ≤ o
    case neg =>
      have n1 : o < c := by omega
      have d1 : decide (c ≤ o) = false := by simpa using h1
      go_enter Try.func57, Try.ntmps57
      go_wp2_with fail
      refine HC.out.mono ?_
      rintro r w' ⟨rfl, rfl⟩
      go_wp2
      go_ret
      exact ⟨by simp; omega, rfl⟩
    by_cases h2 : o ≤ h
    case neg =>
      have n2 : h < o := by omega
      have d2 : decide (o ≤ h) = false := by simpa using h2
      go_enter Try.func57, Try.ntmps57
      go_wp2_with fail
      refine HC.out.mono ?_
      rintro r w' ⟨rfl, rfl⟩
      go_wp2
      go_ret
      exact ⟨by simp; omega, rfl⟩
    go_enter Try.func57, Try.ntmps57
    go_wp2_with fail
    refine HC.out.mono ?_
    rintro r w' ⟨rfl, rfl⟩
    go_wp2
    go_ret
    exact ⟨by simp [h1, h2], rfl⟩

def OptRel (w : World) (c : Int) (n : Nat) (tv tp : Value) (wr : World) : Prop := ∃ k : Nat, k ≤ n ∧ tp = .int .i64 (c + k) ∧ RowI wr tv (numsFrom c k) ∧ Touch [] w wr ∧ ∀ g ∈ blk tv, w.heap.size ≤ g
set_option maxRecDepth 100000 in
set_option maxHeartbeats 400000 in
theorem options_any (h c : Int) (w : World) : Calls Try.prog 53 #[.int .i64 h, .int .i64 c] w (NewInts w (optsL h c) (if goodB h c then 0 else 2)) := by
  have hc := bidding_any h c w
  unfold optsL
  cases hg : goodB h c with
  | false =>
    rw [hg] at hc
    have HC := Lib.hid hc
    clear hc hg
    go_enter Try.func53, Try.ntmps53
    go_wp2_with fail
    refine HC.out.mono ?_
    rintro r w' ⟨rfl, rfl⟩
    go_wp2
    go_ret2
    exact ⟨_, rfl, RowI.nil _, Touch.refl _ _, by simp [blk]⟩
  | true =>
    rw [hg] at hc
    obtain ⟨g1, g2, g3, g4⟩ := goodB_iff.1 hg
    have HC := Lib.hid hc
    clear hc hg
    simp only [if_true]
    obtain ⟨n, hn⟩ : ∃ n : Nat, n = (h - c + 1).toNat := ⟨_, rfl⟩
    rw [← hn]
    have hn1 : (n : Int) = h - c + 1 := by omega
    have hn2 : n ≤ 4 := by omega
    have HN := Lib.hid hn1
    clear hn hn1
    go_enter Try.func53, Try.ntmps53
    go_wp2_with fail
    refine HC.out.mono ?_
    rintro r w' ⟨rfl, rfl⟩
    go_wp2_with fail
    go_loopw [6, 7] (fun tv tp wr => OptRel w c n tv tp wr) (fun _ tp _ => (h + 1 - intOf tp).toNat)
    case atStart => exact ⟨0, by omega, by simp, RowI.nil _, Touch.refl _ _, by simp [blk]⟩
    case round =>
      obtain ⟨k, hk, rfl, hr, ht, hf⟩ := hrel
      have hl := numsFrom_len c k
      have HL := Lib.hid hl
      clear hl
      have hN := HN.out
      by_cases hlt : k < n
      · have hlt' : c + (k : Int) ≤ h := by omega
        have hlen : (numsFrom c k).length ≤ 4 := by rw [HL.out]; omega
        clear hN
        go_wp2_with (at_builtin; go_must (refine app_new elem_int hr [Value.int .i64 (c + (k : Int))] 1 1 (by omega) (by unfold maxLen; omega) ?_); intro v1 w1 ho1 hg1 hf1)
        go_roundw
        case rel =>
          refine ⟨k + 1, by omega, by congr 1; omega, ?_, ht.fresh hf hg1, From.fresh ht hf hf1⟩
          rw [numsFrom_succ]
          exact RowI.snoc ho1
        case measure => simp [intOf]; omega
      · have hlt' : ¬ c + (k : Int) ≤ h := by omega
        obtain rfl : k = n := by omega
        clear hN
        go_wp2_with fail
        go_ret2
        exact ⟨_, rfl, hr, ht, hf⟩
set_option maxRecDepth 100000 in
set_option maxHeartbeats 400000 in
theorem roptions_any (h c : Int) (w : World) : Calls Try.prog 54 #[.int .i64 h, .int .i64 c] w (NewInts w (optsL h c) (if goodB h c then 0 else 2)) := by
  have hc := rgood_any h c w
  unfold optsL
  cases hg : goodB h c with
  | false =>
    rw [hg] at hc
    have HC := Lib.hid hc
    clear hc hg
    go_enter Try.func54, Try.ntmps54
    go_wp2_with fail
    refine HC.out.mono ?_
    rintro r w' ⟨rfl, rfl⟩
    go_wp2
    go_ret2
    exact ⟨_, rfl, RowI.nil _, Touch.refl _ _, by simp [blk]⟩
  | true =>
    rw [hg] at hc
    obtain ⟨g1, g2, g3, g4⟩ := goodB_iff.1 hg
    have HC := Lib.hid hc
    clear hc hg
    simp only [if_true]
    obtain ⟨n, hn⟩ : ∃ n : Nat, n = (h - c + 1).toNat := ⟨_, rfl⟩
    rw [← hn]
    have hn1 : (n : Int) = h - c + 1 := by omega
    have hn2 : n ≤ 4 := by omega
    have HN := Lib.hid hn1
    clear hn hn1
    go_enter Try.func54, Try.ntmps54
    go_wp2_with fail
    refine HC.out.mono ?_
    rintro r w' ⟨rfl, rfl⟩
    go_wp2_with fail
    go_loopw [6, 7] (fun tv tp wr => OptRel w c n tv tp wr) (fun _ tp _ => (h + 1 - intOf tp).toNat)
    case atStart => exact ⟨0, by omega, by simp, RowI.nil _, Touch.refl _ _, by simp [blk]⟩
    case round =>
      obtain ⟨k, hk, rfl, hr, ht, hf⟩ := hrel
      have hl := numsFrom_len c k
      have HL := Lib.hid hl
      clear hl
      have hN := HN.out
      by_cases hlt : k < n
      · have hlt' : c + (k : Int) ≤ h := by omega
        have hlen : (numsFrom c k).length ≤ 4 := by rw [HL.out]; omega
        clear hN
        go_wp2_with (at_builtin; go_must (refine app_new elem_int hr [Value.int .i64 (c + (k : Int))] 1 1 (by omega) (by unfold maxLen; omega) ?_); intro v1 w1 ho1 hg1 hf1)
        go_roundw
        case rel =>
          refine ⟨k + 1, by omega, by congr 1; omega, ?_, ht.fresh hf hg1, From.fresh ht hf hf1⟩
          rw [numsFrom_succ]
          exact RowI.snoc ho1
        case measure => simp [intOf]; omega
      · have hlt' : ¬ c + (k : Int) ≤ h := by omega
        obtain rfl : k = n := by omega
        clear hN
        go_wp2_with fail
        go_ret2
        exact ⟨_, rfl, hr, ht, hf⟩
set_option maxRecDepth 100000 in
set_option maxHeartbeats 1000000 in
theorem same_any (v u : Value) (l m : List Int) (w : World) (hv : Ints w v l) (hu : Ints w u m) :
    Calls Try.prog 55 #[v, u] w fun r w' => r = .returned (.bool (decide (l = m))) ∧ Touch [] w w' := by
  obtain ⟨A, cap, rfl, -⟩ := id hv.1
  obtain ⟨A', cap', rfl, -⟩ := id hu.1
  by_cases hl : l.length = m.length
  · have d0 : ((l.length : Int) != (m.length : Int)) = false := by rw [hl]; simp
    generalize hres : decide (l = m) = res at *
    have HR := Lib.hid hres
    clear hres
    have HL := Lib.hid hl
    clear hl
    go_enter Try.func55, Try.ntmps55
    go_wp2_with fail
    go_loopw [5] (fun t wr => eqRel l m t ∧ Touch [] w wr) (fun t _ => l.length - (intOf t).toNat)
    case atStart => exact ⟨⟨0, by omega, rfl, by simp⟩, Touch.refl _ _⟩
    case round =>
      obtain ⟨⟨k, hk, rfl, hk2⟩, ht⟩ := hrel
      have HK := Lib.hid hk2
      clear hk2
      by_cases hlt : k < l.length
      · have hlt' : (k : Int) < (l.length : Int) := by omega
        have hlm : k < m.length := by have := HL.out; omega
        have hlm' : (k : Int) < (m.length : Int) := by omega
        obtain ⟨b, off, c, e, hc, hc1, hc2⟩ := (hv.touch0 ht).at hlt
        obtain ⟨b', off', c', e', hc', hc1', hc2'⟩ := (hu.touch0 ht).at hlm
        injection e with e1 _ e2
        injection e' with e1' _ e2'
        subst e1 e2 e1' e2'
        have HN := Lib.hid (fun he => eqRel.next hlt hlm HK.out he)
        have HE : Hid (¬ l[k] = m[k] → res = false) := Lib.hid (fun hne => by
          rw [← HR.out]
          simp
          rintro rfl
          exact hne rfl)
        generalize l[k] = x at *
        generalize m[k] = y at *
        by_cases hxy : x = y
        · have hb : (x != y) = false := by simp [hxy]
          go_wp2_with fail
          go_quiet (fail)
          go_wp2_with fail
          go_roundw
          case rel => exact ⟨HN.out hxy, ht.drewN _⟩
          case measure => simp [intOf]; omega
        · have hb : (x != y) = true := by simp [hxy]
          go_wp2_with fail
          go_quiet (fail)
          go_wp2_with fail
          go_ret
          exact ⟨by rw [HE.out hxy]; rfl, ht.drewN _⟩
      · have hlt' : ¬ (k : Int) < (l.length : Int) := by omega
        go_wp2_with fail
        go_ret
        refine ⟨?_, ht⟩
        have h1 := HK.out
        rw [List.take_of_length_le (by omega), List.take_of_length_le (by have := HL.out; omega)] at h1
        rw [← HR.out, h1]
        simp
  · have d0 : ((l.length : Int) != (m.length : Int)) = true := by rw [bne_iff_ne]; omega
    have hne : decide (l = m) = false := by
      simp
      rintro rfl
      exact hl rfl
    rw [hne]
    go_enter Try.func55, Try.ntmps55
    go_wp2_with fail
    go_ret
    exact ⟨rfl, Touch.refl _ _⟩
set_option maxRecDepth 100000 in
set_option maxHeartbeats 400000 in
theorem isopt_any (n : Int) (w : World) : Calls Try.prog 107 #[.int .i64 n] w fun r w' => r = .returned (.bool (optB n)) ∧ w = w' := by
  unfold optB
  by_cases h1 : 0 ≤ n
  case neg =>
    have n1 : n < 0 := by omega
    have d1 : decide (0 ≤ n) = false := by simpa using h1
    go_enter Try.func107, Try.ntmps107
    go_wp2
    go_ret
    exact ⟨by simp [h1], rfl⟩
  by_cases h2 : n ≤ 3
  case neg =>
    have n2 : 3 < n := by omega
    have d2 : decide (n ≤ 3) = false := by simpa using h2
    go_enter Try.func107, Try.ntmps107
    go_wp2
    go_ret
    exact ⟨by simp [h2], rfl⟩
  go_enter Try.func107, Try.ntmps107
  go_wp2
  go_ret
  exact ⟨by simp [h1, h2], rfl⟩

def noneRel (l : List Int) (x : Int) (t : Value) : Prop := ∃ k : Nat, k ≤ l.length ∧ t = .int .i64 k ∧ x ∉ l.take k
theorem noneRel.next {l : List Int} {x : Int} {k : Nat} (hk : k < l.length) (h : x ∉ l.take k) (hx : ¬ l[k] = x) : noneRel l x (.int .i64 ((k : Int) + 1)) :=
  ⟨k + 1, hk, by go_num, by rw [List.take_succ_eq_append_getElem hk, List.mem_append]; rintro (h' | h'); exact h h'; exact hx (List.mem_singleton.1 h').symm⟩
/-- Is x in l? -/
def hasB (l : List Int) (x : Int) : Bool := decide (x ∈ l)
def IdxPost (l : List Int) (x : Int) (w : World) (r : Ending) (w' : World) : Prop := ∃ n : Int, r = .returned (.int .i64 n) ∧ (0 ≤ n ↔ x ∈ l) ∧ w = w'
set_option maxRecDepth 100000 in
set_option maxHeartbeats 400000 in
theorem index_any (v : Value) (l : List Int) (x : Int) (w : World) (hv : Ints w v l) :
    Calls Try.prog 116 #[v, .int .i64 x] w (IdxPost l x w) := by
  obtain ⟨A, cap, rfl, -⟩ := id hv.1
  have hlen : l.length ≤ 9223372036854775807 := by obtain ⟨_, _, _, h1, h2, _⟩ := id hv.1; unfold maxLen at h2; omega
  go_enter Try.func116, Try.ntmps116
  go_wp2_with fail
  go_loop [8] (fun t => noneRel l x t) (fun t => l.length - (intOf t).toNat)
  case atStart => exact ⟨0, by omega, rfl, by simp⟩
  case round =>
    obtain ⟨k, hk, rfl, hk2⟩ := hrel
    have HK := Lib.hid hk2
    clear hk2
    by_cases hlt : k < l.length
    · have hlt' : (k : Int) < (l.length : Int) := by omega
      obtain ⟨b, off, c, e, hc, hc1, hc2⟩ := hv.at hlt
      injection e with e1 _ e2
      subst e1 e2
      have HN := Lib.hid (fun he => noneRel.next hlt HK.out he)
      have HF : Hid (l[k] = x → x ∈ l) := Lib.hid (fun he => he ▸ List.getElem_mem hlt)
      generalize l[k] = y at *
      by_cases hxy : y = x
      · have hb : (x == y) = true := by simp [hxy]
        go_wp2_with fail
        go_ret
        exact ⟨k, rfl, ⟨fun _ => HF.out hxy, fun _ => by omega⟩, rfl⟩
      · have hb : (x == y) = false := by simp; first | exact hxy | exact fun e => hxy e.symm
        go_wp2_with fail
        go_round
        case rel => exact HN.out hxy
        case measure => simp [intOf]; omega
    · have hlt' : ¬ (k : Int) < (l.length : Int) := by omega
      have hno : x ∉ l := by have := HK.out; rwa [List.take_of_length_le (by omega)] at this
      go_wp2_with fail
      go_ret
      exact ⟨-1, rfl, ⟨fun h => absurd h (by omega), fun h => absurd h hno⟩, rfl⟩
set_option maxRecDepth 100000 in
set_option maxHeartbeats 400000 in
theorem rhas_any (v : Value) (l : List Int) (x : Int) (w : World) (hv : Ints w v l) :
    Calls Try.prog 74 #[v, .int .i64 x] w fun r w' => r = .returned (.bool (hasB l x)) ∧ w = w' := by
  obtain ⟨A, cap, rfl, -⟩ := id hv.1
  have hlen : l.length ≤ 9223372036854775807 := by obtain ⟨_, _, _, h1, h2, _⟩ := id hv.1; unfold maxLen at h2; omega
  go_enter Try.func74, Try.ntmps74
  go_wp2_with fail
  go_loop [5] (fun t => noneRel l x t) (fun t => l.length - (intOf t).toNat)
  case atStart => exact ⟨0, by omega, rfl, by simp⟩
  case round =>
    obtain ⟨k, hk, rfl, hk2⟩ := hrel
    have HK := Lib.hid hk2
    clear hk2
    by_cases hlt : k < l.length
    · have hlt' : (k : Int) < (l.length : Int) := by omega
      obtain ⟨b, off, c, e, hc, hc1, hc2⟩ := hv.at hlt
      injection e with e1 _ e2
      subst e1 e2
      have HN := Lib.hid (fun he => noneRel.next hlt HK.out he)
      have HF : Hid (l[k] = x → x ∈ l) := Lib.hid (fun he => he ▸ List.getElem_mem hlt)
      generalize l[k] = y at *
      by_cases hxy : y = x
      · have hb : (y == x) = true := by simp [hxy]
        go_wp2_with fail
        go_ret
        exact ⟨by unfold hasB; rw [decide_eq_true (HF.out hxy)]; rfl, rfl⟩
      · have hb : (y == x) = false := by simp; first | exact hxy | exact fun e => hxy e.symm
        go_wp2_with fail
        go_round
        case rel => exact HN.out hxy
        case measure => simp [intOf]; omega
    · have hlt' : ¬ (k : Int) < (l.length : Int) := by omega
      have hno : x ∉ l := by have := HK.out; rwa [List.take_of_length_le (by omega)] at this
      go_wp2_with fail
      go_ret
      exact ⟨by unfold hasB; rw [decide_eq_false hno]; rfl, rfl⟩
set_option maxRecDepth 100000 in
set_option maxHeartbeats 400000 in
theorem contains_any (v : Value) (l : List Int) (x : Int) (w : World) (hv : Ints w v l) :
    Calls Try.prog 108 #[v, .int .i64 x] w fun r w' => r = .returned (.bool (hasB l x)) ∧ w = w' := by
  go_enter Try.func108, Try.ntmps108
  go_wp2_with fail
  refine (index_any v l x w hv).mono ?_
  rintro r w' ⟨n, rfl, hn, rfl⟩
  have HN := Lib.hid hn
  clear hn
  go_wp2_with fail
  go_ret
  refine ⟨?_, rfl⟩
  unfold hasB
  by_cases hx : x ∈ l
  · rw [decide_eq_true hx]
    have := HN.out.2 hx
    simp [this]
  · rw [decide_eq_false hx]
    have : ¬ 0 ≤ n := fun h => hx (HN.out.1 h)
    simp
    omega
end Go.Proofs.Ytpbknnkobhjjcaa
