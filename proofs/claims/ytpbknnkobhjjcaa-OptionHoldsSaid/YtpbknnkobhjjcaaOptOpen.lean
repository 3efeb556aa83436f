/- The options that are open under a target. -/
import Derived.Test.YtpbknnkobhjjcaaBand3
namespace Go.Proofs.Ytpbknnkobhjjcaa
open Go.RowKit
set_option linter.unusedSimpArgs false

def openB (t least o : Int) : Bool := o == 0 || decide (least ≤ (cnt t o : Int))
def openOk (t h c least : Int) : Bool := goodB h c && (tgB t && decide (0 ≤ least))
def openL (t h c least : Int) : List Int := if openOk t h c least then (numsFrom c (h - c + 1).toNat).filter (openB t least) else []
def OpenRel (w : World) (p : Nat) (t least c : Int) (n : Nat) (tv tp : Value) (wr : World) : Prop := ∃ k : Nat, k ≤ n ∧ tp = .int .i64 (c + k) ∧ RowI wr tv ((numsFrom c k).filter (openB t least)) ∧ Blk wr p 86 #[.int .i64 t] ∧ Touch [] w wr ∧ ∀ g ∈ blk tv, w.heap.size ≤ g
theorem cnt_le (t b : Int) (hb : b = 1 ∨ b = 2 ∨ b = 3) : cnt t b ≤ 38 := by
  have h := List.length_filter_le (chB t) (numsFrom (lowOf b) (manyOf b))
  rw [numsFrom_len] at h
  have := (band_bounds hb).2.2.1
  unfold cnt chL
  omega

set_option maxRecDepth 100000 in
set_option maxHeartbeats 2000000 in
theorem open_any (t h c least : Int) (w : World) : Calls Try.prog 59 #[.agg #[.int .i64 t], .int .i64 h, .int .i64 c, .int .i64 least] w (NewInts w (openL t h c least) (if openOk t h c least then 0 else 2)) := by
  have hgd := fun W => bidding_any h c W
  have htv := fun W => tvalid_any t W
  have hblk := Blk.new w 86 #[.int .i64 t]
  have ha := (Touch.refl [] w).alloc (.cells #[.int .i64 t] 86)
  unfold openL
  cases hg : goodB h c with
  | false =>
    have e : openOk t h c least = false := by unfold openOk; rw [hg]; rfl
    rw [e]
    rw [hg] at hgd
    have HG := Lib.hid hgd
    clear hgd htv hg e
    go_enter Try.func59, Try.ntmps59
    go_wp2_with fail
    refine (HG.out _).mono ?_
    rintro r w' ⟨rfl, rfl⟩
    go_wp2_with fail
    go_ret2
    exact ⟨_, rfl, RowI.nil _, ha, by simp [blk]⟩
  | true =>
    rw [hg] at hgd
    have HG := Lib.hid hgd
    cases ht : tgB t with
    | false =>
      have e : openOk t h c least = false := by unfold openOk; rw [hg, ht]; rfl
      rw [e]
      rw [ht] at htv
      have HT := Lib.hid htv
      clear hgd htv hg e ht
      go_enter Try.func59, Try.ntmps59
      go_wp2_with fail
      refine (HG.out _).mono ?_
      rintro r w' ⟨rfl, rfl⟩
      go_wp2_with fail
      refine (HT.out _).mono ?_
      rintro r w1 ⟨rfl, ht1⟩
      go_wp2_with fail
      go_ret2
      exact ⟨_, rfl, RowI.nil _, ha.then0 ht1, by simp [blk]⟩
    | true =>
      rw [ht] at htv
      have HT := Lib.hid htv
      by_cases hle : least < 0
      · have e : openOk t h c least = false := by unfold openOk; rw [hg, ht]; simp; omega
        rw [e]
        clear hgd htv hg e ht
        go_enter Try.func59, Try.ntmps59
        go_wp2_with fail
        refine (HG.out _).mono ?_
        rintro r w' ⟨rfl, rfl⟩
        go_wp2_with fail
        refine (HT.out _).mono ?_
        rintro r w1 ⟨rfl, ht1⟩
        go_wp2_with fail
        go_ret2
        exact ⟨_, rfl, RowI.nil _, ha.then0 ht1, by simp [blk]⟩
      · have e : openOk t h c least = true := by unfold openOk; rw [hg, ht]; simp; omega
        rw [e]
        simp only [if_true]
        have hle' : decide (least < 0) = false := by simpa using hle
        obtain ⟨g1, g2, g3, g4⟩ := goodB_iff.1 hg
        have HTT := Lib.hid ht
        clear hgd htv hg e ht
        obtain ⟨n, hn⟩ : ∃ n : Nat, n = (h - c + 1).toNat := ⟨_, rfl⟩
        rw [← hn]
        have hn1 : (n : Int) = h - c + 1 := by omega
        have hn2 : n ≤ 4 := by omega
        have HN := Lib.hid hn1
        clear hn hn1
        go_enter Try.func59, Try.ntmps59
        go_wp2_with fail
        refine (HG.out _).mono ?_
        rintro r w' ⟨rfl, rfl⟩
        go_wp2_with fail
        refine (HT.out _).mono ?_
        rintro r w1 ⟨rfl, ht1⟩
        have hB1 := hblk.touch ht1 (by simp)
        have ht01 := ha.then0 ht1
        clear hblk ha ht1
        go_wp2_with fail
        go_loopw [10, 11] (fun tv tp wr => OpenRel w w.heap.size t least c n tv tp wr) (fun _ tp _ => (h + 1 - intOf tp).toNat)
        case atStart => exact ⟨0, by omega, by simp, RowI.nil _, hB1, ht01, by simp [blk]⟩
        case round =>
          clear hB1 ht01
          obtain ⟨k, hk, rfl, hr, hB, htt, hf⟩ := hrel
          have hb0 := hB.cell 0
          simp at hb0
          have hN := HN.out
          by_cases hlt : k < n
          · have hlt' : c + (k : Int) ≤ h := by omega
            have hlen : ((numsFrom c k).filter (openB t least)).length ≤ 4 := by
              have h3 := List.length_filter_le (openB t least) (numsFrom c k)
              rw [numsFrom_len] at h3
              omega
            have HFN := Lib.hid (filter_nums c k (openB t least))
            have HOB : Hid (openB t least (c + k) = (c + (k : Int) == 0 || decide (least ≤ (cnt t (c + k) : Int)))) := Lib.hid rfl
            generalize openB t least (c + (k : Int)) = ob at *
            clear hN
            by_cases h0 : c + (k : Int) = 0
            · have b0 : (c + (k : Int) == 0) = true := by simpa using h0
              have hob : ob = true := by rw [HOB.out, b0]; rfl
              subst hob
              clear h0
              go_wp2_with (at_builtin; go_must (refine app_new elem_int hr [Value.int .i64 (c + (k : Int))] 1 1 (by omega) (by unfold maxLen; omega) ?_); intro v2 w2 ho2 hg2 hf2)
              have hB2 := hB.touch hg2 (Own.ne_blk hr hB (by decide))
              go_roundw
              case rel => exact ⟨k + 1, by omega, by congr 1; omega, by rw [HFN.out]; exact RowI.snoc ho2, hB2, htt.fresh hf hg2, From.fresh htt hf hf2⟩
              case measure => simp [intOf]; omega
            · have b0 : (c + (k : Int) == 0) = false := by simpa using h0
              have hbb : c + (k : Int) = 1 ∨ c + (k : Int) = 2 ∨ c + (k : Int) = 3 := by omega
              have hct := count_opt t (c + (k : Int)) wr hbb HTT.out
              have hcl := cnt_le t _ hbb
              have hob : ob = decide (least ≤ (cnt t (c + k) : Int)) := by rw [HOB.out, b0]; rfl
              generalize cnt t (c + (k : Int)) = m at *
              have HCT := Lib.hid hct
              clear hct hbb h0
              go_wp2_with fail
              refine HCT.out.mono ?_
              rintro r w2 ⟨rfl, ht2⟩
              have hr2 : RowI w2 _ _ := Own.touch0 hr ht2
              have hB2 := hB.touch ht2 (by simp)
              have htt2 := htt.then0 ht2
              clear hr hB htt hb0
              by_cases hm : least ≤ (m : Int)
              · have hob2 : ob = true := by rw [hob]; simpa using hm
                clear hob
                subst hob2
                go_wp2_with (at_builtin; go_must (refine app_new elem_int hr2 [Value.int .i64 (c + (k : Int))] 1 1 (by omega) (by unfold maxLen; omega) ?_); intro v3 w3 ho3 hg3 hf3)
                have hB3 := hB2.touch hg3 (Own.ne_blk hr2 hB2 (by decide))
                go_roundw
                case rel => exact ⟨k + 1, by omega, by congr 1; omega, by rw [HFN.out]; exact RowI.snoc ho3, hB3, htt2.fresh hf hg3, From.fresh htt2 hf hf3⟩
                case measure => simp [intOf]; omega
              · have hob2 : ob = false := by rw [hob]; simpa using hm
                clear hob
                subst hob2
                have hm' : decide (least ≤ (m : Int)) = false := by simpa using hm
                go_wp2_with fail
                go_roundw
                case rel => exact ⟨k + 1, by omega, by congr 1; omega, by rw [HFN.out]; simpa using hr2, hB2, htt2, hf⟩
                case measure => simp [intOf]; omega
          · have hlt' : ¬ c + (k : Int) ≤ h := by omega
            obtain rfl : k = n := by omega
            clear hN
            go_wp2_with fail
            go_ret2
            exact ⟨_, rfl, hr, htt, hf⟩
set_option maxRecDepth 100000 in
set_option maxHeartbeats 2000000 in
theorem ropen_any (t h c least : Int) (w : World) : Calls Try.prog 60 #[.agg #[.int .i64 t], .int .i64 h, .int .i64 c, .int .i64 least] w (NewInts w (openL t h c least) (if openOk t h c least then 0 else 2)) := by
  have hgd := fun W => rgood_any h c W
  have htv := fun W => rtarget_any t W
  have hblk := Blk.new w 86 #[.int .i64 t]
  have ha := (Touch.refl [] w).alloc (.cells #[.int .i64 t] 86)
  unfold openL
  cases hg : goodB h c with
  | false =>
    have e : openOk t h c least = false := by unfold openOk; rw [hg]; rfl
    rw [e]
    rw [hg] at hgd
    have HG := Lib.hid hgd
    clear hgd htv hg e
    go_enter Try.func60, Try.ntmps60
    go_wp2_with fail
    refine (HG.out _).mono ?_
    rintro r w' ⟨rfl, rfl⟩
    go_wp2_with fail
    go_ret2
    exact ⟨_, rfl, RowI.nil _, ha, by simp [blk]⟩
  | true =>
    rw [hg] at hgd
    have HG := Lib.hid hgd
    cases ht : tgB t with
    | false =>
      have e : openOk t h c least = false := by unfold openOk; rw [hg, ht]; rfl
      rw [e]
      rw [ht] at htv
      have HT := Lib.hid htv
      clear hgd htv hg e ht
      go_enter Try.func60, Try.ntmps60
      go_wp2_with fail
      refine (HG.out _).mono ?_
      rintro r w' ⟨rfl, rfl⟩
      go_wp2_with fail
      refine (HT.out _).mono ?_
      rintro r w1 ⟨rfl, ht1⟩
      go_wp2_with fail
      go_ret2
      exact ⟨_, rfl, RowI.nil _, ha.then0 ht1, by simp [blk]⟩
    | true =>
      rw [ht] at htv
      have HT := Lib.hid htv
      by_cases hle : least < 0
      · have e : openOk t h c least = false := by unfold openOk; rw [hg, ht]; simp; omega
        rw [e]
        clear hgd htv hg e ht
        go_enter Try.func60, Try.ntmps60
        go_wp2_with fail
        refine (HG.out _).mono ?_
        rintro r w' ⟨rfl, rfl⟩
        go_wp2_with fail
        refine (HT.out _).mono ?_
        rintro r w1 ⟨rfl, ht1⟩
        go_wp2_with fail
        go_ret2
        exact ⟨_, rfl, RowI.nil _, ha.then0 ht1, by simp [blk]⟩
      · have e : openOk t h c least = true := by unfold openOk; rw [hg, ht]; simp; omega
        rw [e]
        simp only [if_true]
        have hle' : decide (least < 0) = false := by simpa using hle
        obtain ⟨g1, g2, g3, g4⟩ := goodB_iff.1 hg
        have HTT := Lib.hid ht
        clear hgd htv hg e ht
        obtain ⟨n, hn⟩ : ∃ n : Nat, n = (h - c + 1).toNat := ⟨_, rfl⟩
        rw [← hn]
        have hn1 : (n : Int) = h - c + 1 := by omega
        have hn2 : n ≤ 4 := by omega
        have HN := Lib.hid hn1
        clear hn hn1
        go_enter Try.func60, Try.ntmps60
        go_wp2_with fail
        refine (HG.out _).mono ?_
        rintro r w' ⟨rfl, rfl⟩
        go_wp2_with fail
        refine (HT.out _).mono ?_
        rintro r w1 ⟨rfl, ht1⟩
        have hB1 := hblk.touch ht1 (by simp)
        have ht01 := ha.then0 ht1
        clear hblk ha ht1
        go_wp2_with fail
        go_loopw [10, 11] (fun tv tp wr => OpenRel w w.heap.size t least c n tv tp wr) (fun _ tp _ => (h + 1 - intOf tp).toNat)
        case atStart => exact ⟨0, by omega, by simp, RowI.nil _, hB1, ht01, by simp [blk]⟩
        case round =>
          clear hB1 ht01
          obtain ⟨k, hk, rfl, hr, hB, htt, hf⟩ := hrel
          have hb0 := hB.cell 0
          simp at hb0
          have hN := HN.out
          by_cases hlt : k < n
          · have hlt' : c + (k : Int) ≤ h := by omega
            have hlen : ((numsFrom c k).filter (openB t least)).length ≤ 4 := by
              have h3 := List.length_filter_le (openB t least) (numsFrom c k)
              rw [numsFrom_len] at h3
              omega
            have HFN := Lib.hid (filter_nums c k (openB t least))
            have HOB : Hid (openB t least (c + k) = (c + (k : Int) == 0 || decide (least ≤ (cnt t (c + k) : Int)))) := Lib.hid rfl
            generalize openB t least (c + (k : Int)) = ob at *
            clear hN
            by_cases h0 : c + (k : Int) = 0
            · have b0 : (c + (k : Int) == 0) = true := by simpa using h0
              have hob : ob = true := by rw [HOB.out, b0]; rfl
              subst hob
              clear h0
              go_wp2_with (at_builtin; go_must (refine app_new elem_int hr [Value.int .i64 (c + (k : Int))] 1 1 (by omega) (by unfold maxLen; omega) ?_); intro v2 w2 ho2 hg2 hf2)
              have hB2 := hB.touch hg2 (Own.ne_blk hr hB (by decide))
              go_roundw
              case rel => exact ⟨k + 1, by omega, by congr 1; omega, by rw [HFN.out]; exact RowI.snoc ho2, hB2, htt.fresh hf hg2, From.fresh htt hf hf2⟩
              case measure => simp [intOf]; omega
            · have b0 : (c + (k : Int) == 0) = false := by simpa using h0
              have hbb : c + (k : Int) = 1 ∨ c + (k : Int) = 2 ∨ c + (k : Int) = 3 := by omega
              have hct := rchannels_any t (c + (k : Int)) wr hbb HTT.out
              have hcl := cnt_le t _ hbb
              have hob : ob = decide (least ≤ (cnt t (c + k) : Int)) := by rw [HOB.out, b0]; rfl
              generalize cnt t (c + (k : Int)) = m at *
              have HCT := Lib.hid hct
              clear hct hbb h0
              go_wp2_with fail
              refine HCT.out.mono ?_
              rintro r w2 ⟨rfl, ht2⟩
              have hr2 : RowI w2 _ _ := Own.touch0 hr ht2
              have hB2 := hB.touch ht2 (by simp)
              have htt2 := htt.then0 ht2
              clear hr hB htt hb0
              by_cases hm : least ≤ (m : Int)
              · have hob2 : ob = true := by rw [hob]; simpa using hm
                clear hob
                subst hob2
                go_wp2_with (at_builtin; go_must (refine app_new elem_int hr2 [Value.int .i64 (c + (k : Int))] 1 1 (by omega) (by unfold maxLen; omega) ?_); intro v3 w3 ho3 hg3 hf3)
                have hB3 := hB2.touch hg3 (Own.ne_blk hr2 hB2 (by decide))
                go_roundw
                case rel => exact ⟨k + 1, by omega, by congr 1; omega, by rw [HFN.out]; exact RowI.snoc ho3, hB3, htt2.fresh hf hg3, From.fresh htt2 hf hf3⟩
                case measure => simp [intOf]; omega
              · have hob2 : ob = false := by rw [hob]; simpa using hm
                clear hob
                subst hob2
                have hm' : decide (least ≤ (m : Int)) = false := by simpa using hm
                go_wp2_with fail
                go_roundw
                case rel => exact ⟨k + 1, by omega, by congr 1; omega, by rw [HFN.out]; simpa using hr2, hB2, htt2, hf⟩
                case measure => simp [intOf]; omega
          · have hlt' : ¬ c + (k : Int) ≤ h := by omega
            obtain rfl : k = n := by omega
            clear hN
            go_wp2_with fail
            go_ret2
            exact ⟨_, rfl, hr, htt, hf⟩
end Go.Proofs.Ytpbknnkobhjjcaa
