/- Package band: the channels of a band; how many there are; the options that are open. -/
import Derived.Test.YtpbknnkobhjjcaaBand2
namespace Go.Proofs.Ytpbknnkobhjjcaa
open Go.RowKit
set_option linter.unusedSimpArgs false

def chL (t b : Int) : List Int := (numsFrom (lowOf b) (manyOf b)).filter (chB t)
def cnt (t b : Int) : Nat := (chL t b).length
theorem band_bounds {b : Int} (hb : b = 1 ∨ b = 2 ∨ b = 3) : 2 ≤ lowOf b ∧ lowOf b ≤ 14 ∧ manyOf b ≤ 38 ∧ highOf b = lowOf b + (manyOf b : Int) - 1 := by
  rcases hb with rfl | rfl | rfl <;> decide
theorem filter_nums (c : Int) (k : Nat) (f : Int → Bool) : (numsFrom c (k + 1)).filter f = (numsFrom c k).filter f ++ (if f (c + k) then [c + k] else []) := by
  rw [numsFrom_succ, List.filter_append]
  congr 1
  cases h : f (c + k) <;> simp [h]
theorem mem_nums {c x : Int} {n : Nat} : x ∈ numsFrom c n ↔ c ≤ x ∧ x < c + n := by
  unfold numsFrom
  rw [List.mem_map]
  constructor
  · rintro ⟨i, hi, rfl⟩
    rw [List.mem_range] at hi
    omega
  · rintro ⟨h1, h2⟩
    exact ⟨(x - c).toNat, by rw [List.mem_range]; omega, by omega⟩
def ChRel (w : World) (p : Nat) (t lo : Int) (n : Nat) (tv tc : Value) (wr : World) : Prop := ∃ k : Nat, k ≤ n ∧ tc = .int .i64 (lo + k) ∧ RowI wr tv ((numsFrom lo k).filter (chB t)) ∧ Blk wr p 86 #[.int .i64 t] ∧ Touch [] w wr ∧ (∀ g ∈ blk tv, w.heap.size ≤ g) ∧ p ∉ blk tv
theorem fit_near {x : Int} (h1 : -1000 ≤ x) (h2 : x ≤ 1000) : Fits x := by unfold Fits; omega

set_option maxRecDepth 100000 in
set_option maxHeartbeats 1000000 in
theorem channels_any (b t : Int) (w : World) (hb : b = 1 ∨ b = 2 ∨ b = 3) (ht : tgB t = true) : Calls Try.prog 114 #[.int .i64 b, .agg #[.int .i64 t]] w (NewInts w (chL t b) 0) := by
  have ht' : t ∈ targets := by simpa [tgB] using ht
  obtain ⟨t1, t2⟩ := targets_small t ht'
  have hrg := range_any b (w.alloc (.cells #[.int .i64 t] 86)) hb
  obtain ⟨l1, l2, l3, l4⟩ := band_bounds hb
  unfold chL
  generalize lowOf b = lo at *
  generalize manyOf b = n at *
  rw [l4] at hrg
  have HRG := Lib.hid hrg
  have HTV := Lib.hid ht
  clear hrg ht hb l4 ht'
  have hblk := Blk.new w 86 #[.int .i64 t]
  go_enter Try.func114, Try.ntmps114
  go_wp2_with fail
  refine HRG.out.mono ?_
  rintro r w' ⟨rfl, rfl⟩
  go_wp2_with fail
  refine (tvalid_any t _).mono ?_
  rintro r w1 ⟨rfl, ht1⟩
  rw [HTV.out]
  have hB1 := hblk.touch ht1 (by simp)
  have ht01 := ((Touch.refl [] w).alloc (.cells #[.int .i64 t] 86)).then0 ht1
  clear ht1 hblk
  go_wp2_with fail
  go_loopw [9, 10] (fun tv tc wr => ChRel w w.heap.size t lo n tv tc wr) (fun _ tc _ => (lo + n - intOf tc).toNat)
  case atStart => exact ⟨0, by omega, by simp, RowI.nil _, hB1, ht01, by simp [blk], by simp [blk]⟩
  case round =>
    clear hB1 ht01
    obtain ⟨k, hk, rfl, hr, hB, ht, hf, hp⟩ := hrel
    have hb0 := hB.cell 0
    simp at hb0
    by_cases hlt : k < n
    · have hlt' : lo + (k : Int) ≤ lo + (n : Int) - 1 := by omega
      have hlen : ((numsFrom lo k).filter (chB t)).length ≤ 38 := by
        have h3 := List.length_filter_le (chB t) (numsFrom lo k)
        rw [numsFrom_len] at h3
        omega
      have HFN := Lib.hid (filter_nums lo k (chB t))
      have hta := (Touch.refl [] wr).alloc (.cells #[.int .i64 (lo + (k : Int))] 3)
      have hI : Ints (wr.alloc (.cells #[.int .i64 (lo + (k : Int))] 3)) (.slice (some ⟨wr.heap.size, 0, none⟩) 1 1) [lo + (k : Int)] := ⟨Reads.lit wr 3 (0, 0) [I (lo + (k : Int))] 1 rfl (by simp [maxLen]), fun m hm => by rw [List.mem_singleton.1 hm]; exact fit_near (by omega) (by omega)⟩
      have hdis : ∀ g ∈ rb (.slice (some ⟨wr.heap.size, 0, none⟩) 1 1), g ∉ blk _ := fun g hg hm => by
        have h5 := Own.lt hr g hm
        have : g = wr.heap.size := by simpa [rb] using hg
        omega
      have HL := Lib.hid (left_any _ _ _ [lo + (k : Int)] t _ (by omega) (by omega) (Own.touch0 hr hta) hI hdis (by simp; omega))
      have hB2 := hB.touch hta (by simp)
      clear hI hdis
      go_wp2_with fail
      refine HL.out.mono ?_
      rintro r w2 ⟨v2, rfl, hr2, ht2, hf2⟩
      have htt : Touch [] w w2 := (ht.alloc _).step ht2 (fun m hm => .inr (hf m hm))
      have hff : ∀ g ∈ blk v2, w.heap.size ≤ g := fun g hg => by rcases hf2 g hg with h | h; exact hf g h; have := ht.size; simp at h; omega
      have hpp : w.heap.size ∉ blk v2 := fun h => by rcases hf2 _ h with h' | h'; exact hp h'; have := hB2.lt; omega
      have hB3 := hB2.touch ht2 hp
      have hr3 : RowI w2 v2 ((numsFrom lo (k + 1)).filter (chB t)) := by
        rw [HFN.out]
        have e : List.filter (chB t) [lo + (k : Int)] = if chB t (lo + k) then [lo + (k : Int)] else [] := by cases h : chB t (lo + k) <;> simp [h]
        rw [← e]
        exact hr2
      go_wp2_with fail
      go_roundw
      case rel => exact ⟨k + 1, by omega, by congr 1; omega, hr3, hB3, htt, hff, hpp⟩
      case measure => simp [intOf]; omega
    · have hlt' : ¬ lo + (k : Int) ≤ lo + (n : Int) - 1 := by omega
      obtain rfl : k = n := by omega
      go_wp2_with fail
      go_ret2
      exact ⟨_, rfl, hr, ht, hf⟩

def CntRel (w : World) (t lo : Int) (n : Nat) (v : Value) (L : List Int) (tn ti : Value) (wr : World) : Prop := ∃ k : Nat, k ≤ n ∧ ti = .int .i64 k ∧ tn = .int .i64 ((numsFrom lo k).filter (chB t)).length ∧ Ints wr v L ∧ Touch [] w wr
theorem cnt_next (lo t : Int) (k : Nat) : ((numsFrom lo (k + 1)).filter (chB t)).length = ((numsFrom lo k).filter (chB t)).length + if chB t (lo + k) then 1 else 0 := by
  rw [filter_nums, List.length_append]
  cases chB t (lo + k) <;> rfl
theorem cnt_has {lo t : Int} {n k : Nat} (hk : k < n) : hasB ((numsFrom lo n).filter (chB t)) (lo + k) = chB t (lo + k) := by
  unfold hasB
  have : lo + (k : Int) ∈ (numsFrom lo n).filter (chB t) ↔ chB t (lo + k) = true := by
    rw [List.mem_filter, mem_nums]
    exact ⟨fun h => h.2, fun h => ⟨by omega, h⟩⟩
  rw [Bool.eq_iff_iff, decide_eq_true_iff]
  exact this
theorem nums_fit {lo : Int} {n : Nat} (h1 : 0 ≤ lo) (h2 : lo + n ≤ 1000) (f : Int → Bool) : ∀ m ∈ (numsFrom lo n).filter f, Fits m := fun m hm => by
  have := mem_nums.1 (List.mem_filter.1 hm).1
  exact fit_near (by omega) (by omega)
set_option maxRecDepth 100000 in
set_option maxHeartbeats 1000000 in
theorem count_opt (t b : Int) (w : World) (hb : b = 1 ∨ b = 2 ∨ b = 3) (ht : tgB t = true) : Calls Try.prog 103 #[.agg #[.int .i64 t], .int .i64 b] w fun r w' => r = .returned (.int .i64 (cnt t b)) ∧ Touch [] w w' := by
  have hch := channels_any b t (w.alloc (.cells #[.int .i64 t] 86)) hb ht
  have hrg := fun W => range_any b W hb
  obtain ⟨l1, l2, l3, l4⟩ := band_bounds hb
  unfold cnt chL
  unfold chL at hch
  generalize lowOf b = lo at *
  generalize manyOf b = n at *
  have HRG := Lib.hid hrg
  have HCH := Lib.hid hch
  have HL4 := Lib.hid l4
  generalize highOf b = hi at *
  clear hrg hch ht hb l4
  go_enter Try.func103, Try.ntmps103
  go_wp2_with fail
  refine HCH.out.mono ?_
  rintro r w1 ⟨v, rfl, hr, ht1, -⟩
  go_wp2_with fail
  refine (HRG.out _).mono ?_
  rintro r w' ⟨rfl, rfl⟩
  have hI : Ints w1 v ((numsFrom lo n).filter (chB t)) := ⟨Own.reads hr, nums_fit (by omega) (by omega) _⟩
  have ht01 := ((Touch.refl [] w).alloc (.cells #[.int .i64 t] 86)).then0 ht1
  have hsub : hi - lo + 1 = (n : Int) := by have := HL4.out; omega
  have HSUB := Lib.hid hsub
  clear ht1 hr hsub
  have hhi : hi ≤ 100 ∧ 0 ≤ hi + 100 := by have := HL4.out; omega
  obtain ⟨hhi1, hhi2⟩ := hhi
  go_wp2_with fail
  rw [HSUB.out]
  go_loopw [10, 28] (fun tn ti wr => CntRel w t lo n v ((numsFrom lo n).filter (chB t)) tn ti wr) (fun _ ti _ => n - (intOf ti).toNat)
  case atStart => exact ⟨0, by omega, rfl, rfl, hI, ht01⟩
  case round =>
    clear hI ht01
    obtain ⟨k, hk, rfl, rfl, hI, ht⟩ := hrel
    by_cases hlt : k < n
    · have hlt' : (k : Int) < (n : Int) := by omega
      have HN := Lib.hid (cnt_next lo t k)
      have hlen : ((numsFrom lo k).filter (chB t)).length ≤ 38 := by
        have h3 := List.length_filter_le (chB t) (numsFrom lo k)
        rw [numsFrom_len] at h3
        omega
      have hct := contains_any v _ (lo + (k : Int)) wr hI
      rw [cnt_has hlt] at hct
      have HCT := Lib.hid hct
      clear hct
      generalize chB t (lo + (k : Int)) = cb at *
      generalize ((numsFrom lo k).filter (chB t)).length = m at *
      go_wp2_with fail
      refine HCT.out.mono ?_
      rintro r w' ⟨rfl, rfl⟩
      cases cb with
      | true =>
        go_wp2_with fail
        go_roundw
        case rel => exact ⟨k + 1, by omega, by go_num, by rw [HN.out]; simp only [if_true]; go_num, hI, ht⟩
        case measure => simp [intOf]; omega
      | false =>
        go_wp2_with fail
        go_roundw
        case rel => exact ⟨k + 1, by omega, by go_num, by rw [HN.out]; simp, hI, ht⟩
        case measure => simp [intOf]; omega
    · have hlt' : ¬ (k : Int) < (n : Int) := by omega
      obtain rfl : k = n := by omega
      go_wp2_with fail
      go_ret
      exact ⟨rfl, ht⟩

def manyR (t b : Int) : Nat := if b = 1 then 5 else if b = 2 then 7 else (38 - t).toNat
theorem cnt_eq : ∀ t ∈ targets, ∀ b ∈ ([1, 2, 3] : List Int), ((numsFrom (lowOf b) (manyR t b)).filter (fun c => c != 37)).length = cnt t b := by decide
def RcRel (w : World) (lo : Int) (n : Nat) (tn tc : Value) (wr : World) : Prop := ∃ k : Nat, k ≤ n ∧ tc = .int .i64 (lo + k) ∧ tn = .int .i64 ((numsFrom lo k).filter (fun c => c != 37)).length ∧ Touch [] w wr
theorem rc_next (lo : Int) (k : Nat) : ((numsFrom lo (k + 1)).filter (fun c => c != 37)).length = ((numsFrom lo k).filter (fun c => c != 37)).length + if (lo + (k : Int)) != 37 then 1 else 0 := by
  rw [filter_nums, List.length_append]
  cases ((lo + (k : Int)) != 37) <;> rfl
set_option maxRecDepth 100000 in
set_option maxHeartbeats 1000000 in
theorem rchannels_any (t b : Int) (w : World) (hb : b = 1 ∨ b = 2 ∨ b = 3) (ht : tgB t = true) : Calls Try.prog 105 #[.agg #[.int .i64 t], .int .i64 b] w fun r w' => r = .returned (.int .i64 (cnt t b)) ∧ Touch [] w w' := by
  have ht' : t ∈ targets := by simpa [tgB] using ht
  obtain ⟨t1, t2⟩ := targets_small t ht'
  have he := cnt_eq t ht' b (by rcases hb with rfl | rfl | rfl <;> simp)
  have HE := Lib.hid he
  clear he ht ht'
  generalize cnt t b = res at *
  have ha := (Touch.refl [] w).alloc (.cells #[.int .i64 t] 86)
  rcases hb with rfl | rfl | rfl
  · rw [show lowOf 1 = 2 from rfl, show manyR t 1 = 5 from rfl] at HE
    go_enter Try.func105, Try.ntmps105
    go_wp2_with fail
    go_loopw [7, 8] (fun tn tc wr => RcRel w 2 5 tn tc wr) (fun _ tc _ => (6 + 1 - intOf tc).toNat)
    case atStart => exact ⟨0, by omega, by simp, rfl, ha⟩
    case round =>
      obtain ⟨k, hk, rfl, rfl, ht⟩ := hrel
      have hlen : ((numsFrom 2 k).filter (fun c => c != 37)).length ≤ 38 := by
        have h3 := List.length_filter_le (fun c : Int => c != 37) (numsFrom 2 k)
        rw [numsFrom_len] at h3
        omega
      have HN := Lib.hid (rc_next 2 k)
      by_cases hlt : k < 5
      · have hlt' : 2 + (k : Int) ≤ 6 := by omega
        generalize ((numsFrom 2 k).filter (fun c => c != 37)).length = m at *
        by_cases h37 : 2 + (k : Int) = 37
        · have b2 : ((2 + (k : Int)) != 37) = false := by simp [h37]
          rw [b2] at HN
          clear h37
          go_wp2_with fail
          go_roundw
          case rel => exact ⟨k + 1, by omega, by congr 1 <;> omega, by rw [HN.out]; simp, ht⟩
          case measure => simp [intOf]; omega
        · have b2 : ((2 + (k : Int)) != 37) = true := by simpa using h37
          rw [b2] at HN
          clear h37
          go_wp2_with fail
          go_roundw
          case rel => exact ⟨k + 1, by omega, by congr 1 <;> omega, by rw [HN.out]; simp only [if_true]; go_num, ht⟩
          case measure => simp [intOf]; omega
      · have hlt' : ¬ 2 + (k : Int) ≤ 6 := by omega
        have hkn : k = 5 := by omega
        subst hkn
        go_wp2_with fail
        go_ret
        exact ⟨by rw [HE.out]; rfl, ht⟩
  · rw [show lowOf 2 = 7 from rfl, show manyR t 2 = 7 from rfl] at HE
    go_enter Try.func105, Try.ntmps105
    go_wp2_with fail
    go_loopw [7, 8] (fun tn tc wr => RcRel w 7 7 tn tc wr) (fun _ tc _ => (13 + 1 - intOf tc).toNat)
    case atStart => exact ⟨0, by omega, by simp, rfl, ha⟩
    case round =>
      obtain ⟨k, hk, rfl, rfl, ht⟩ := hrel
      have hlen : ((numsFrom 7 k).filter (fun c => c != 37)).length ≤ 38 := by
        have h3 := List.length_filter_le (fun c : Int => c != 37) (numsFrom 7 k)
        rw [numsFrom_len] at h3
        omega
      have HN := Lib.hid (rc_next 7 k)
      by_cases hlt : k < 7
      · have hlt' : 7 + (k : Int) ≤ 13 := by omega
        generalize ((numsFrom 7 k).filter (fun c => c != 37)).length = m at *
        by_cases h37 : 7 + (k : Int) = 37
        · have b2 : ((7 + (k : Int)) != 37) = false := by simp [h37]
          rw [b2] at HN
          clear h37
          go_wp2_with fail
          go_roundw
          case rel => exact ⟨k + 1, by omega, by congr 1 <;> omega, by rw [HN.out]; simp, ht⟩
          case measure => simp [intOf]; omega
        · have b2 : ((7 + (k : Int)) != 37) = true := by simpa using h37
          rw [b2] at HN
          clear h37
          go_wp2_with fail
          go_roundw
          case rel => exact ⟨k + 1, by omega, by congr 1 <;> omega, by rw [HN.out]; simp only [if_true]; go_num, ht⟩
          case measure => simp [intOf]; omega
      · have hlt' : ¬ 7 + (k : Int) ≤ 13 := by omega
        have hkn : k = 7 := by omega
        subst hkn
        go_wp2_with fail
        go_ret
        exact ⟨by rw [HE.out]; rfl, ht⟩
  · rw [show lowOf 3 = 14 from rfl, show manyR t 3 = (38 - t).toNat from rfl] at HE
    go_enter Try.func105, Try.ntmps105
    go_wp2_with fail
    go_quiet (fail)
    go_wp2_with fail
    go_loopw [7, 8] (fun tn tc wr => RcRel w 14 (38 - t).toNat tn tc wr) (fun _ tc _ => ((51 - t) + 1 - intOf tc).toNat)
    case atStart => exact ⟨0, by omega, by simp, rfl, ha.drewN _⟩
    case round =>
      obtain ⟨k, hk, rfl, rfl, ht⟩ := hrel
      have hlen : ((numsFrom 14 k).filter (fun c => c != 37)).length ≤ 38 := by
        have h3 := List.length_filter_le (fun c : Int => c != 37) (numsFrom 14 k)
        rw [numsFrom_len] at h3
        omega
      have HN := Lib.hid (rc_next 14 k)
      by_cases hlt : k < (38 - t).toNat
      · have hlt' : 14 + (k : Int) ≤ (51 - t) := by omega
        generalize ((numsFrom 14 k).filter (fun c => c != 37)).length = m at *
        by_cases h37 : 14 + (k : Int) = 37
        · have b2 : ((14 + (k : Int)) != 37) = false := by simp [h37]
          rw [b2] at HN
          clear h37
          go_wp2_with fail
          go_roundw
          case rel => exact ⟨k + 1, by omega, by congr 1 <;> omega, by rw [HN.out]; simp, ht⟩
          case measure => simp [intOf]; omega
        · have b2 : ((14 + (k : Int)) != 37) = true := by simpa using h37
          rw [b2] at HN
          clear h37
          go_wp2_with fail
          go_roundw
          case rel => exact ⟨k + 1, by omega, by congr 1 <;> omega, by rw [HN.out]; simp only [if_true]; go_num, ht⟩
          case measure => simp [intOf]; omega
      · have hlt' : ¬ 14 + (k : Int) ≤ (51 - t) := by omega
        have hkn : k = (38 - t).toNat := by omega
        subst hkn
        go_wp2_with fail
        go_ret
        exact ⟨by rw [HE.out]; rfl, ht⟩
end Go.Proofs.Ytpbknnkobhjjcaa
