/- The law WireWrites: its walk. -/
import Derived.Test.YtpbknnkobhjjcaaWrErr
namespace Go.Proofs.Ytpbknnkobhjjcaa
open Go.RowKit

/-- What has been written behind k values. -/
def wState (xs : List Vx) (k : Nat) : WS := (xs.take k).foldl wVal (0, [])
def wWant (xs : List Vx) (k : Nat) : List UInt8 := (xs.take k).flatMap vForm
def wBadK (xs : List Vx) (k : Nat) : Bool := (xs.take k).any vBad
section
variable {xs : List Vx} {k : Nat}
theorem wState_next (hk : k < xs.length) : wState xs (k + 1) = wVal (wState xs k) xs[k] := by
  unfold wState
  rw [List.take_succ_eq_append_getElem hk, List.foldl_append]
  rfl
theorem wWant_next (hk : k < xs.length) : wWant xs (k + 1) = wWant xs k ++ vForm xs[k] := by
  unfold wWant
  rw [List.take_succ_eq_append_getElem hk, List.flatMap_append]
  simp
theorem wBadK_next (hk : k < xs.length) : wBadK xs (k + 1) = (wBadK xs k || vBad xs[k]) := by
  unfold wBadK
  rw [List.take_succ_eq_append_getElem hk, List.any_append]
  simp
variable (hs : ∀ x ∈ xs, x.Small) (hl : xs.length ≤ 20)
include hs hl
theorem wState_ok (h : wBadK xs k = false) : wState xs k = (0, wWant xs k) := by
  have h1 : (xs.take k).length ≤ 20 := by rw [List.length_take]; omega
  have := fold_ok (xs.take k) [] (fun x hx => hs x (List.mem_of_mem_take hx)) (by simp only [List.length_nil]; omega) h
  exact this
theorem wState_bad (h : wBadK xs k = true) : (wState xs k).1 = 2 := by
  have h1 : (xs.take k).length ≤ 20 := by rw [List.length_take]; omega
  exact fold_bad (xs.take k) [] (fun x hx => hs x (List.mem_of_mem_take hx)) (by simp only [List.length_nil]; omega) h
theorem wWant_len : (wWant xs k).length ≤ 10400 := by
  have h1 : (xs.take k).length ≤ 20 := by rw [List.length_take]; omega
  have := flat_len (xs.take k) (fun x hx => hs x (List.mem_of_mem_take hx))
  unfold wWant
  omega
end

/-- At the head of round k: what is wanted, whether an error has come, and the writer. -/
def WritesRel (w : World) (xs : List Vx) (tw tb ti : Value) (wr : World) : Prop :=
  ∃ (k : Nat) (out : Value), k ≤ xs.length ∧ ti = .int .i64 k ∧ tb = .bool (wBadK xs k) ∧ Row wr tw (wWant xs k) ∧ (∀ g ∈ blk tw, w.heap.size ≤ g) ∧ Touch [] w wr ∧
    Blk wr w.heap.size 30 #[.int .i64 (wState xs k).1, out] ∧ (wBadK xs k = false → Wr wr w.heap.size out (0, wWant xs k) ∧ (∀ g ∈ blk out, w.heap.size ≤ g) ∧ ∀ g ∈ blk tw, g ∉ blk out)

section
variable {w wr w1 w2 w3 w4 : World} {xs : List Vx} {k : Nat} {tw tw' out out1 f a : Value}
theorem WritesRel.bad (hk : k < xs.length) (hb : wBadK xs k = true) (hs2 : (wState xs (k + 1)).1 = 2) (hB : Blk wr w.heap.size 30 #[.int .i64 2, out]) (ht : Touch [] wr w4) (hr : Row w4 tw' (wWant xs k ++ vForm xs[k])) (hg : ∀ g ∈ blk tw', w.heap.size ≤ g) (htt : Touch [] w w4) :
    WritesRel w xs tw' (.bool true) (.int .i64 ((k : Int) + 1)) w4 := by
  refine ⟨k + 1, out, hk, by go_num, by rw [wBadK_next hk, hb]; rfl, by rw [wWant_next hk]; exact hr, hg, htt, ?_, fun h => ?_⟩
  · rw [hs2]
    exact hB.touch ht (by simp)
  · rw [wBadK_next hk, hb] at h
    cases h
end

set_option maxRecDepth 100000 in
set_option maxHeartbeats 4000000 in
theorem writes_walk (v : Value) (xs : List Vx) (w : World) (hv : Vals w v xs) :
    Calls Try.prog 3 #[v] w fun r w' => r = .returned (.bool true) ∧ Touch [] w w' := by
  obtain ⟨b, hb⟩ : ∃ b, b = vLarge xs := ⟨_, rfl⟩
  have hlg := large_any v xs w hv
  rw [← hb] at hlg
  have HLG := Lib.hid hlg
  have HB := Lib.hid hb
  clear hlg hb
  cases b with
  | true =>
    obtain ⟨A, cap, rfl, _⟩ := id hv.1
    go_enter Try.func3, Try.ntmps3
    go_wp2_with fail
    refine HLG.out.mono ?_
    rintro r w' ⟨rfl, rfl⟩
    go_wp2_with fail
    refine (known_any _).mono ?_
    rintro r w7 ⟨rfl, ht7⟩
    go_wp2_with fail
    go_ret
    exact ⟨rfl, ht7⟩
  | false =>
    obtain ⟨hlen, hsm⟩ := vLarge_small HB.out.symm
    have HSM := Lib.hid hsm
    clear hsm
    obtain ⟨A, cap, hvf, -⟩ := id hv.1
    subst hvf
    go_enter Try.func3, Try.ntmps3
    go_wp2_with fail
    refine HLG.out.mono ?_
    rintro r w' ⟨rfl, rfl⟩
    go_wp2_with fail
    go_loopw [4, 5, 6] (fun tw tb ti wr => WritesRel w xs tw tb ti wr) (fun _ _ ti _ => xs.length - (intOf ti).toNat)
    case atStart =>
      refine ⟨0, .slice none 0 0, by omega, rfl, rfl, Own.nil _ _ _, by simp [blk], (Touch.refl _ _).alloc _, (WrL.new w).1.1, fun _ => ⟨(WrL.new w).1, by simp [blk], by simp [blk]⟩⟩
    case round =>
      obtain ⟨k, out, hk, rfl, rfl, hrow, hnew, htt, hblk, hgood⟩ := hrel
      by_cases hlt : k < xs.length
      · have hlt' : (k : Int) < (xs.length : Int) := by omega
        have hvr := hv.touch0 htt
        obtain ⟨b0, off, cap', e, hb0, hc1, hc2⟩ := hv.addr (by omega)
        injection e with e1 _ e2
        subst e1 e2
        obtain ⟨c0, c1, c2, c3⟩ := hvr.elem hlt rfl
        have hok := hvr.2 xs[k] (List.getElem_mem hlt)
        have hok0 := (hv.2 xs[k] (List.getElem_mem hlt)).lt
        have HS := HSM.out xs[k] (List.getElem_mem hlt)
        have HNS := Lib.hid (wState_next hlt)
        have HNW := Lib.hid (wWant_next hlt)
        have HNB := Lib.hid (wBadK_next hlt)
        have hwl := wWant_len (k := k) HSM.out hlen
        have hfl := form_len _ HS
        cases hbk : wBadK xs k with
        | true =>
          have hs2 := wState_bad HSM.out hlen hbk
          have hs2' := wState_bad HSM.out hlen (k := k + 1) (by rw [HNB.out, hbk]; rfl)
          rw [hs2] at hblk
          have HBK := Lib.hid hbk
          have HS2 := Lib.hid hs2'
          clear hs2 hs2' hbk hgood
          go_wp2_with fail
          refine (write_err _ _ _ 2 xs[k] wr hblk (by decide) hok.2.1).mono ?_
          rintro r w1 ⟨rfl, ht1⟩
          have hv1 := hvr.touch0 ht1
          obtain ⟨d0, d1, d2, d3⟩ := hv1.elem hlt rfl
          have hok1 := hok.touch0 ht1
          clear c0 c1 c2 c3
          go_wp2_with fail
          refine (form_any xs[k] w1 hok1 HS).mono ?_
          rintro r w2 ⟨f, rfl, hf, ht2, hfn⟩
          have hrow2 : Row w2 _ (wWant xs k) := Own.touch0 (Own.touch0 hrow ht1) ht2
          have hb2 := (hblk.touch ht1 (by simp)).touch ht2 (by simp)
          have ht02 := (htt.then0 ht1).then0 ht2
          clear hrow d0 d1 d2 d3 ht1 ht2
          generalize vBad xs[k] = vb at *
          go_wp2_with (at_builtin; go_must (refine app_reads elem_u8 hrow2 hf.reads (B_ones _) (by omega) (by unfold maxLen; omega) ?_); intro v3 w3 ho3 ht3 hf3)
          have hb3 := hb2.touch ht3 (Own.ne_blk hrow2 hb2 (by decide))
          have ht03 : Touch [] w w3 := ht02.fresh hnew ht3
          have hr3 : Row w3 v3 (wWant xs k ++ vForm xs[k]) := by
            unfold Row
            rw [List.length_append, List.map_append]
            exact ho3
          have hn3 := From.fresh ht02 hnew hf3
          refine (wr_end _ out (2, []) w3 ⟨hb3, fun h => absurd h (by decide)⟩).mono ?_
          rintro r w4 ⟨a, rfl, ha, ht4, -⟩
          simp only at ha ⊢
          obtain ⟨A4, c4, rfl⟩ := Own.form ha
          go_wp2_with fail
          go_roundw
          case rel => exact WritesRel.bad hlt HBK.out HS2.out hb3 ht4 (Own.touch0 hr3 ht4) hn3 (ht03.then0 ht4)
          case measure => simp [intOf]; omega
        | false =>
          obtain ⟨hW, hno, hdis⟩ := hgood hbk
          have HBK := Lib.hid hbk
          have hst := wState_ok HSM.out hlen hbk
          have HST := Lib.hid hst
          clear hgood hbk hst hblk
          have hoff : (∀ g ∈ rb xs[k].tv, g ∉ blk out) ∧ ∀ g ∈ rb xs[k].lv, g ∉ blk out := ⟨fun g hg hm => by have h1 := hok0.1 g hg; have h2 := hno g hm; omega, fun g hg hm => by have h1 := hok0.2 g hg; have h2 := hno g hm; omega⟩
          have HOFF := Lib.hid hoff
          clear hoff
          go_wp2_with fail
          refine (write_any _ out _ xs[k] wr hW hok (fun _ => HOFF.out)).mono ?_
          rintro r w1 ⟨rfl, out1, hW1, ht1, hf1⟩
          have hne := Own.ne_blk hrow hW.1 (by decide)
          have hlow := Own.lt hrow
          have ht01 : Touch [] w w1 := htt.step ht1 (fun m hm => by rcases List.mem_cons.1 hm with rfl | h; exact .inr (Nat.le_refl _); exact .inr (hno m h))
          have hrow1 : Row w1 _ (wWant xs k) := Own.touch hrow ht1 (fun g hg hm => by rcases List.mem_cons.1 hm with rfl | h; exact hne hg; exact hdis g hg h)
          have hno1 : ∀ g ∈ blk out1, w.heap.size ≤ g := fun g hg => by rcases hf1 g hg with h | h; exact hno g h; exact Nat.le_trans htt.size h
          have hdis1 : ∀ g ∈ blk _, g ∉ blk out1 := fun g hg hm => by rcases hf1 g hm with h | h; exact hdis g hg h; have := hlow g hg; omega
          have hv1 := hv.touch0 ht01
          obtain ⟨d0, d1, d2, d3⟩ := hv1.elem hlt rfl
          have hok1 := hv1.2 xs[k] (List.getElem_mem hlt)
          clear c0 c1 c2 c3 ht1 hf1 hrow hlow hdis hno htt hvr hok HOFF hne
          go_wp2_with fail
          refine (form_any xs[k] w1 hok1 HS).mono ?_
          rintro r w2 ⟨f, rfl, hf, ht2, hfn⟩
          have hrow2 : Row w2 _ (wWant xs k) := Own.touch0 hrow1 ht2
          have hW2 := hW1.touch0 ht2
          have ht02 := ht01.then0 ht2
          clear hrow1 d0 d1 d2 d3 ht01 ht2 hW1 hok1 hv1
          have HWO := Lib.hid (wVal_ok (wWant xs k) xs[k])
          have HWB := Lib.hid (wVal_bad (wWant xs k) xs[k])
          have HFO : Hid (vBad xs[k] = false → vForm xs[k] = vEnc xs[k]) := Lib.hid (fun h => by unfold vForm; rw [h]; rfl)
          have HEL := enc_len _ HS
          generalize vBad xs[k] = vb at *
          cases vb with
          | true =>
            have e2 := HWB.out rfl
            rw [e2] at hW2
            go_wp2_with (at_builtin; go_must (refine app_reads elem_u8 hrow2 hf.reads (B_ones _) (by omega) (by unfold maxLen; omega) ?_); intro v3 w3 ho3 ht3 hf3)
            have hb3 := hW2.1.touch ht3 (Own.ne_blk hrow2 hW2.1 (by decide))
            have ht03 : Touch [] w w3 := ht02.fresh hnew ht3
            have hr3 : Row w3 v3 (wWant xs k ++ vForm xs[k]) := by
              unfold Row
              rw [List.length_append, List.map_append]
              exact ho3
            have hn3 := From.fresh ht02 hnew hf3
            refine (wr_end _ out1 (2, []) w3 ⟨hb3, fun h => absurd h (by decide)⟩).mono ?_
            rintro r w4 ⟨a, rfl, ha, ht4, -⟩
            simp only at ha ⊢
            obtain ⟨A4, c4, rfl⟩ := Own.form ha
            go_wp2_with fail
            go_roundw
            case rel =>
              refine ⟨k + 1, out1, hlt, by go_num, by rw [HNB.out, HBK.out]; rfl, by rw [HNW.out]; exact Own.touch0 hr3 ht4, hn3, ht03.then0 ht4, ?_, fun h => ?_⟩
              · rw [HNS.out, HST.out, e2]
                exact hb3.touch ht4 (by simp)
              · rw [HNB.out] at h
                simp at h
            case measure => simp [intOf]; omega
          | false =>
            have e2 := HWO.out rfl (by omega)
            rw [e2] at hW2
            rw [← HFO.out rfl] at hW2
            go_wp2_with (at_builtin; go_must (refine app_reads elem_u8 hrow2 hf.reads (B_ones _) (by omega) (by unfold maxLen; omega) ?_); intro v3 w3 ho3 ht3 hf3)
            have hW3 : Wr w3 w.heap.size out1 (0, wWant xs k ++ vForm xs[k]) := ⟨hW2.1.touch ht3 (Own.ne_blk hrow2 hW2.1 (by decide)), fun h => ⟨Own.touch (hW2.2 h).1 ht3 (fun g hg hm => hdis1 g hm hg), (hW2.2 h).2⟩⟩
            have hlow2 := Own.lt (hW2.2 rfl).1
            have ht03 : Touch [] w w3 := ht02.fresh hnew ht3
            have hr3 : Row w3 v3 (wWant xs k ++ vForm xs[k]) := by
              unfold Row
              rw [List.length_append, List.map_append]
              exact ho3
            have hn3 := From.fresh ht02 hnew hf3
            have hdis3 : ∀ g ∈ blk v3, g ∉ blk out1 := fun g hg hm => by rcases hf3 g hg with h | h; exact hdis1 g h hm; have := hlow2 g hm; omega
            refine (wr_end _ out1 _ w3 hW3).mono ?_
            rintro r w4 ⟨a, rfl, ha, ht4, -⟩
            simp only [if_true] at ha ⊢
            have hr4 : Row w4 v3 (wWant xs k ++ vForm xs[k]) := Own.touch0 hr3 ht4
            have ka := run_str (Row.bytes ha)
            have kv := run_str (Row.bytes hr4)
            have HREL : Hid (WritesRel w xs v3 (.bool false) (.int .i64 ((k : Int) + 1)) w4) := Lib.hid (by
              refine ⟨k + 1, out1, hlt, by go_num, by rw [HNB.out, HBK.out]; rfl, by rw [HNW.out]; exact hr4, hn3, ht03.then0 ht4, ?_, fun _ => ⟨?_, hno1, hdis3⟩⟩
              · rw [HNS.out, HST.out, e2]
                exact hW3.1.touch ht4 (by simp)
              · rw [HNW.out]
                exact hW3.touch0 ht4)
            clear hW3 hW2 hr3 hr4 ha hf ho3 hrow2 e2 hdis1 hdis3 hlow2 hno1 hn3 hnew
            go_wp2_with fail
            go_roundw
            case rel => exact HREL.out
            case measure => simp [intOf]; omega
      · have hlt' : ¬ (k : Int) < (xs.length : Int) := by omega
        go_wp2_with fail
        refine (known_any _).mono ?_
        rintro r w7 ⟨rfl, ht7⟩
        go_wp2_with fail
        go_ret
        exact ⟨rfl, htt.then0 ht7⟩
end Go.Proofs.Ytpbknnkobhjjcaa
