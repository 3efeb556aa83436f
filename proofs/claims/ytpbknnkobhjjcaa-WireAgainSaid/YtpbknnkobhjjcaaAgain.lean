/- The law WireAgain: its walk. -/
import Derived.Test.YtpbknnkobhjjcaaAgain0
namespace Go.Proofs.Ytpbknnkobhjjcaa
open Go.RowKit

def AgainRel1 (w : World) (xs : List Vx) (ti : Value) (wr : World) : Prop :=
  ∃ (k : Nat) (out : Value), k ≤ xs.length ∧ ti = .int .i64 k ∧ wBadK xs k = false ∧ WrL w wr w.heap.size out (0, wWant xs k)
def AgainRel2 (w : World) (xs : List Vx) (p : Nat) (inp : Value) (ti : Value) (wr : World) : Prop :=
  ∃ k : Nat, k ≤ xs.length ∧ ti = .int .i64 k ∧ Rd wr p inp (wWant xs xs.length) 0 (wWant xs k).length ∧ Touch [] w wr
theorem AgainRel2.next {w wr w' : World} {xs : List Vx} {p : Nat} {inp : Value} {k : Nat} (hk : k < xs.length) (hr : Rd w' p inp (wWant xs xs.length) 0 ((wWant xs k).length + (vForm xs[k]).length)) (ht : Touch [] w wr) (h1 : Touch [p] wr w') (hp : w.heap.size ≤ p) :
    AgainRel2 w xs p inp (.int .i64 ((k : Int) + 1)) w' :=
  ⟨k + 1, hk, by go_num, by rw [wWant_next hk, List.length_append]; exact hr, ht.step h1 (by simp; omega)⟩

set_option maxRecDepth 100000 in
set_option maxHeartbeats 8000000 in
theorem again_walk (v : Value) (xs : List Vx) (w : World) (hv : Vals w v xs) :
    Calls Try.prog 7 #[v] w fun r w' => r = .returned (.bool true) ∧ Touch [] w w' := by
  obtain ⟨b, hb⟩ : ∃ b, b = vLarge xs := ⟨_, rfl⟩
  have hlg := large_any v xs w hv
  rw [← hb] at hlg
  have HLG := Lib.hid hlg
  have HB := Lib.hid hb
  clear hlg hb
  cases b with
  | true =>
    obtain ⟨A, cap, rfl, _⟩ := id hv.1
    go_enter Try.func7, Try.ntmps7
    go_wp2_with fail
    refine HLG.out.mono ?_
    rintro r w' ⟨rfl, rfl⟩
    go_wp2_with fail
    refine (known_any _).mono ?_
    rintro r w7 ⟨rfl, ht7⟩
    go_wp2_with fail
    go_ret
    exact ⟨rfl, ht7⟩
  | false =>
    obtain ⟨hlen, hsm⟩ := vLarge_small HB.out.symm
    have HSM := Lib.hid hsm
    clear hsm
    obtain ⟨A, cap, hvf, -⟩ := id hv.1
    subst hvf
    go_enter Try.func7, Try.ntmps7
    go_wp2_with fail
    refine HLG.out.mono ?_
    rintro r w' ⟨rfl, rfl⟩
    go_wp2_with fail
    go_loopw [4] (fun ti wr => AgainRel1 w xs ti wr) (fun ti _ => xs.length - (intOf ti).toNat)
    case atStart => exact ⟨0, .slice none 0 0, by omega, rfl, rfl, WrL.new w⟩
    case round =>
      obtain ⟨k, out, hk, rfl, hbk, hW⟩ := hrel
      have HBK := Lib.hid hbk
      clear hbk
      by_cases hlt : k < xs.length
      · have hlt' : (k : Int) < (xs.length : Int) := by omega
        have hvr := hv.touch0 hW.2.1
        obtain ⟨b0, off, cap', e, hb0, hc1, hc2⟩ := hv.addr (by omega)
        injection e with e1 _ e2
        subst e1 e2
        obtain ⟨c0, c1, c2, c3⟩ := hvr.elem hlt rfl
        have hok := hvr.2 xs[k] (List.getElem_mem hlt)
        have hok0 := (hv.2 xs[k] (List.getElem_mem hlt)).lt
        have HS := HSM.out xs[k] (List.getElem_mem hlt)
        have HNW := Lib.hid (wWant_next hlt)
        have HNB := Lib.hid (wBadK_next hlt)
        have hwl := wWant_len (k := k) HSM.out hlen
        have hel := enc_len _ HS
        have hno := hW.2.2.2
        have hW1 := hW.1
        have hkb := UInt8.toNat_lt xs[k].kind
        have HOFF := Lib.hid (show (∀ g ∈ rb xs[k].tv, g ∉ blk out) ∧ ∀ g ∈ rb xs[k].lv, g ∉ blk out from ⟨fun g hg hm => by have h1 := hok0.1 g hg; have h2 := hno g hm; omega, fun g hg hm => by have h1 := hok0.2 g hg; have h2 := hno g hm; omega⟩)
        have HWA := Lib.hid (write_any _ out _ xs[k] wr hW1 hok (fun _ => HOFF.out))
        have HVB : Hid (vBad xs[k] = (xs[k].kind.toNat % 6 == 0 && decide (xs[k].n < 0))) := Lib.hid rfl
        have HWO := Lib.hid (wVal_ok (wWant xs k) xs[k])
        have HFO : Hid (vBad xs[k] = false → vForm xs[k] = vEnc xs[k]) := Lib.hid (fun h => by unfold vForm; rw [h]; rfl)
        unfold B at c0
        unfold I at c1
        unfold B I at HWA
        generalize vBad xs[k] = vb at *
        generalize xs[k].kind.toNat = kk at *
        generalize xs[k].n = nn at *
        clear hno hok hok0 HOFF hvr hW1
        have hway : (vb = true ∧ kk % 6 = 0 ∧ nn < 0) ∨ vb = false ∧ ((kk % 6 = 0 ∧ ¬ nn < 0) ∨ ¬ kk % 6 = 0) := by
          have := HVB.out
          cases vb with
          | true => simp at this; exact .inl ⟨rfl, this⟩
          | false =>
            simp at this
            refine .inr ⟨rfl, ?_⟩
            by_cases h : kk % 6 = 0
            · exact .inl ⟨h, by have := this h; omega⟩
            · exact .inr h
        rcases hway with ⟨-, q1, q2⟩ | ⟨rfl, hway⟩
        · have q0 : (((kk : Int) % 6) == 0) = true := by simp; omega
          go_wp2_with fail
          refine (known_any _).mono ?_
          rintro r w7 ⟨rfl, ht7⟩
          go_wp2_with fail
          go_ret
          exact ⟨rfl, hW.2.1.then0 ht7⟩
        · have e2 := HWO.out rfl (by omega)
          rw [← HFO.out rfl] at e2
          have E2 := Lib.hid e2
          clear e2 HWO
          rcases hway with ⟨q1, q2⟩ | q1
          · have q0 : (((kk : Int) % 6) == 0) = true := by simp; omega
            go_wp2_with fail
            refine HWA.out.mono ?_
            intro r w1 hd
            obtain ⟨rfl, out1, hW1⟩ := hW.done hd
            clear hd
            rw [E2.out] at hW1
            go_wp2_with fail
            go_roundw
            case rel => exact ⟨k + 1, out1, hlt, by go_num, by rw [HNB.out, HBK.out]; rfl, by rw [HNW.out]; exact hW1⟩
            case measure => simp [intOf]; omega
          · have q0 : (((kk : Int) % 6) == 0) = false := by simp; omega
            go_wp2_with fail
            refine HWA.out.mono ?_
            intro r w1 hd
            obtain ⟨rfl, out1, hW1⟩ := hW.done hd
            clear hd
            rw [E2.out] at hW1
            go_wp2_with fail
            go_roundw
            case rel => exact ⟨k + 1, out1, hlt, by go_num, by rw [HNB.out, HBK.out]; rfl, by rw [HNW.out]; exact hW1⟩
            case measure => simp [intOf]; omega
      · have hlt' : ¬ (k : Int) < (xs.length : Int) := by omega
        obtain rfl : k = xs.length := by omega
        go_wp2_with fail
        refine (wr_end _ _ _ _ hW.1).mono ?_
        rintro r w1 ⟨bb, rfl, hb1, ht1, -⟩
        simp only [if_true] at hb1 ⊢
        have hb1' : Row w1 bb (wWant xs xs.length) := hb1
        obtain ⟨Ab, cb, rfl⟩ := Own.form hb1
        have ht01 := hW.2.1.then0 ht1
        have hwl := wWant_len (k := xs.length) HSM.out hlen
        go_wp2_with fail
        refine (read_any _ _ _ hb1'.bytes (by omega)).mono ?_
        rintro r w2 ⟨p2, in2, rfl, hp2, -, hr2, ht2⟩
        have ht02 := ht01.then0 ht2
        have hpp : w.heap.size ≤ p2 := by have := ht01.size; omega
        clear hW hb1 hb1' ht1 ht2 ht01 hlt'
        go_wp2_with fail
        go_loopw [8] (fun ti wr => AgainRel2 w xs p2 in2 ti wr) (fun ti _ => xs.length - (intOf ti).toNat)
        case atStart => exact ⟨0, by omega, rfl, hr2, ht02⟩
        case round =>
          clear hr2 ht02
          obtain ⟨k, hk, rfl, hR, htt⟩ := hrel
          by_cases hlt2 : k < xs.length
          · have hlt2' : (k : Int) < (xs.length : Int) := by omega
            have hvr := hv.touch0 htt
            obtain ⟨b0, off, cap', e, hb0, hc1, hc2⟩ := hv.addr (by omega)
            injection e with e1 _ e2
            subst e1 e2
            obtain ⟨c0, c1, c2, c3⟩ := hvr.elem hlt2 rfl
            have hok := hvr.2 xs[k] (List.getElem_mem hlt2)
            have HS := HSM.out xs[k] (List.getElem_mem hlt2)
            have hbad : vBad xs[k] = false := by
              have h1 := HBK.out
              unfold wBadK at h1
              rw [List.take_length, List.any_eq_false] at h1
              simpa using h1 xs[k] (List.getElem_mem hlt2)
            have hfo : vForm xs[k] = vEnc xs[k] := by unfold vForm; rw [hbad]; rfl
            have hsp := want_split hlt2
            rw [hfo] at hsp
            have HSP := Lib.hid hsp
            have HNX := Lib.hid (fun (w' : World) (hr : Rd w' p2 in2 (wWant xs xs.length) 0 ((wWant xs k).length + (vEnc xs[k]).length)) (h1 : Touch [p2] wr w') => AgainRel2.next hlt2 (hfo ▸ hr) htt h1 hpp)
            have TLO := Lib.hid ((hv.2 xs[k] (List.getElem_mem hlt2)).lt)
            have hkb := UInt8.toNat_lt xs[k].kind
            have HBD := Lib.hid hbad
            clear hsp hfo hbad
            obtain ⟨hfit, hT, hL⟩ := hok
            unfold B at c0
            unfold I at c1
            have hcase : xs[k].kind.toNat % 6 = 0 ∨ xs[k].kind.toNat % 6 = 1 ∨ xs[k].kind.toNat % 6 = 2 ∨ xs[k].kind.toNat % 6 = 3 ∨ xs[k].kind.toNat % 6 = 4 ∨ xs[k].kind.toNat % 6 = 5 := by omega
            have A0 := Lib.hid (fun h => again0 HSP.out h HBD.out hfit)
            have A1 := Lib.hid (fun h => again1 HSP.out h hfit)
            have A2 := Lib.hid (fun h => again2 HSP.out h)
            have A3 := Lib.hid (fun h => again34 HSP.out h HS)
            have A5 := Lib.hid (fun h => again5 HSP.out h HS hL.2)
            have hnp : wr.heap.size ≠ p2 := by have := hR.1.lt; omega
            have hta := fun o => (Touch.refl [] wr).alloc o
            generalize (vEnc xs[k]).length = el at *
            generalize xs[k].kind.toNat = kk at *
            generalize xs[k].n = nn at *
            generalize xs[k].tv = tv at *
            generalize xs[k].text = text at *
            generalize xs[k].lv = lv at *
            generalize xs[k].list = list at *
            obtain ⟨At, capt, rfl, -⟩ := id hT
            obtain ⟨Al, capl, rfl, -⟩ := id hL.1
            generalize wWant xs xs.length = LL at *
            generalize (wWant xs k).length = aa at *
            have HTA := Lib.hid hta
            clear hta hvr HS HSP HBD
            have hblk := Blk.new wr 35 #[.int .u8 (kk : Int), .int .i64 nn, (.slice At text.length capt), (.slice Al list.length capl)]
            have hT1 : Bytes _ (.slice At text.length capt) text := Reads.touch0 hT (HTA.out (.cells #[.int .u8 (kk : Int), .int .i64 nn, (.slice At text.length capt), (.slice Al list.length capl)] 35))
            have hL1 := hL.touch0 (HTA.out (.cells #[.int .u8 (kk : Int), .int .i64 nn, (.slice At text.length capt), (.slice Al list.length capl)] 35))
            have hR1 := hR.touch0 (HTA.out (.cells #[.int .u8 (kk : Int), .int .i64 nn, (.slice At text.length capt), (.slice Al list.length capl)] 35))
            have hta1 := HTA.out (.cells #[.int .u8 (kk : Int), .int .i64 nn, (.slice At text.length capt), (.slice Al list.length capl)] 35)
            clear hT hL hR
            have HAP : Hid (p2 ∉ rb (.slice At text.length capt)) := Lib.hid (fun hg => by have := TLO.out.1 p2 hg; omega)
            have HAP2 : Hid (p2 ∉ rb (.slice Al list.length capl)) := Lib.hid (fun hg => by have := TLO.out.2 p2 hg; omega)
            rcases hcase with hk6 | hcase
            · have E := Lib.hid (A0.out hk6)
              have q0 : (((kk : Int) % 6) == 0) = true := by simp; omega
              clear hk6
              have hc := Lib.hid (show (wr.alloc (.cells #[.int .u8 (kk : Int), .int .i64 nn, (.slice At text.length capt), (.slice Al list.length capl)] 35)).cell? ⟨wr.heap.size, 1, none⟩ = some (.int .i64 nn) from hblk.cell 1)
              go_wp2_with fail
              go_region_held3 (fun W => W.cell? ⟨wr.heap.size, 1, none⟩ = some (.int .i64 nn)) (first | exact hc.out | exact (ht6'.cell (p := ⟨wr.heap.size, 1, none⟩) (by simp) (by simpa using hnp)).trans hc.out) (first | (go_at_call 35; refine (rd_uint _ _ _ (0, aa) _ (hR1.drewN 1)).mono ?_; rintro r w6 ⟨rfl, hr6, ht6⟩; rw [E.out] at hr6 ⊢; simp only at hr6 ⊢; have ht6' : Touch [p2] (wr.alloc (.cells #[.int .u8 (kk : Int), .int .i64 nn, (.slice At text.length capt), (.slice Al list.length capl)] 35)) w6 := ⟨ht6.os, ht6.tape, ht6.output, ht6.size, ht6.block⟩))
              all_goals
                go_wp2_with fail
                go_roundw
                case rel => exact HNX.out _ hr6 ((HTA.out _).mono (by simp) |>.trans ht6')
                case measure => simp [intOf]; omega
            rcases hcase with hk6 | hcase
            · have E := Lib.hid (A1.out hk6)
              have q0 : (((kk : Int) % 6) == 0) = false := by simp; omega
              have q1 : (((kk : Int) % 6) == 1) = true := by simp; omega
              clear hk6
              have hc := Lib.hid (show (wr.alloc (.cells #[.int .u8 (kk : Int), .int .i64 nn, (.slice At text.length capt), (.slice Al list.length capl)] 35)).cell? ⟨wr.heap.size, 1, none⟩ = some (.int .i64 nn) from hblk.cell 1)
              go_wp2_with fail
              go_region_held3 (fun W => W.cell? ⟨wr.heap.size, 1, none⟩ = some (.int .i64 nn)) (first | exact hc.out | exact (ht6'.cell (p := ⟨wr.heap.size, 1, none⟩) (by simp) (by simpa using hnp)).trans hc.out) (first | (go_at_call 33; refine (rd_int _ _ _ (0, aa) _ (hR1.drewN 1)).mono ?_; rintro r w6 ⟨rfl, hr6, ht6⟩; rw [E.out] at hr6 ⊢; simp only at hr6 ⊢; have ht6' : Touch [p2] (wr.alloc (.cells #[.int .u8 (kk : Int), .int .i64 nn, (.slice At text.length capt), (.slice Al list.length capl)] 35)) w6 := ⟨ht6.os, ht6.tape, ht6.output, ht6.size, ht6.block⟩))
              all_goals
                go_wp2_with fail
                go_roundw
                case rel => exact HNX.out _ hr6 ((HTA.out _).mono (by simp) |>.trans ht6')
                case measure => simp [intOf]; omega
            rcases hcase with hk6 | hcase
            · have E := Lib.hid (A2.out hk6)
              have q0 : (((kk : Int) % 6) == 0) = false := by simp; omega
              have q1 : (((kk : Int) % 6) == 1) = false := by simp; omega
              have q2 : (((kk : Int) % 6) == 2) = true := by simp; omega
              clear hk6
              have hc := Lib.hid (show (wr.alloc (.cells #[.int .u8 (kk : Int), .int .i64 nn, (.slice At text.length capt), (.slice Al list.length capl)] 35)).cell? ⟨wr.heap.size, 1, none⟩ = some (.int .i64 nn) from hblk.cell 1)
              go_wp2_with fail
              go_region_held3 (fun W => W.cell? ⟨wr.heap.size, 1, none⟩ = some (.int .i64 nn)) (first | exact hc.out | exact (ht6'.cell (p := ⟨wr.heap.size, 1, none⟩) (by simp) (by simpa using hnp)).trans hc.out) (first | (go_at_call 36; refine (rd_bool _ _ _ (0, aa) _ (hR1.drewN 1)).mono ?_; rintro r w6 ⟨rfl, hr6, ht6⟩; rw [E.out] at hr6 ⊢; simp only at hr6 ⊢; have ht6' : Touch [p2] (wr.alloc (.cells #[.int .u8 (kk : Int), .int .i64 nn, (.slice At text.length capt), (.slice Al list.length capl)] 35)) w6 := ⟨ht6.os, ht6.tape, ht6.output, ht6.size, ht6.block⟩))
              all_goals
                go_wp2_with fail
                go_roundw
                case rel => exact HNX.out _ hr6 ((HTA.out _).mono (by simp) |>.trans ht6')
                case measure => simp [intOf]; omega
            rcases hcase with hk6 | hcase
            · have E := Lib.hid (A3.out (.inl hk6))
              have q0 : (((kk : Int) % 6) == 0) = false := by simp; omega
              have q1 : (((kk : Int) % 6) == 1) = false := by simp; omega
              have q2 : (((kk : Int) % 6) == 2) = false := by simp; omega
              have q3 : (((kk : Int) % 6) == 3) = true := by simp; omega
              clear hk6
              have hc := Lib.hid (show (wr.alloc (.cells #[.int .u8 (kk : Int), .int .i64 nn, (.slice At text.length capt), (.slice Al list.length capl)] 35)).cell? ⟨wr.heap.size, 2, none⟩ = some ((.slice At text.length capt)) from hblk.cell 2)
              go_wp2_with fail
              refine (rd_bytes _ _ _ (0, aa) 200 _ hR1).mono ?_
              rintro r w6 ⟨v6, rfl, hv6, -, hr6, ht6⟩
              rw [E.out] at hr6 hv6
              simp only at hr6 hv6
              have hc6 := (ht6.cell (p := ⟨wr.heap.size, 2, none⟩) (by simp) (by simpa using hnp)).trans hc.out
              have hT6 : Bytes w6 (.slice At text.length capt) text := Reads.touch hT1 ht6 (fun g hg hm => by simp at hm; subst hm; exact HAP.out hg)
              have k1 := run_str (Row.bytes hv6)
              have k2 := run_str hT6
              go_wp2_with fail
              go_roundw
              case rel => exact HNX.out _ hr6 ((HTA.out _).mono (by simp) |>.trans ht6)
              case measure => simp [intOf]; omega
            rcases hcase with hk6 | hcase
            · have E := Lib.hid (A3.out (.inr hk6))
              have q0 : (((kk : Int) % 6) == 0) = false := by simp; omega
              have q1 : (((kk : Int) % 6) == 1) = false := by simp; omega
              have q2 : (((kk : Int) % 6) == 2) = false := by simp; omega
              have q3 : (((kk : Int) % 6) == 3) = false := by simp; omega
              have q4 : (((kk : Int) % 6) == 4) = true := by simp; omega
              clear hk6
              have hc := Lib.hid (show (wr.alloc (.cells #[.int .u8 (kk : Int), .int .i64 nn, (.slice At text.length capt), (.slice Al list.length capl)] 35)).cell? ⟨wr.heap.size, 2, none⟩ = some ((.slice At text.length capt)) from hblk.cell 2)
              have KT := Lib.hid (fun (W : World) (h : Touch [p2] (wr.alloc (.cells #[.int .u8 (kk : Int), .int .i64 nn, (.slice At text.length capt), (.slice Al list.length capl)] 35)) W) => run_str (Reads.touch hT1 h (fun g hg hm => by simp at hm; subst hm; exact HAP.out hg)))
              go_wp2_with fail
              go_region_held3 (fun W => W.cell? ⟨wr.heap.size, 2, none⟩ = some (.slice At text.length capt) ∧ (convert 28 9 (.slice At text.length capt)).run Try.prog W = .ok (.string ⟨text.toArray⟩) W) (first | exact ⟨hc.out, KT.out _ (Touch.refl _ _).drew⟩ | exact ⟨(ht6'.cell (p := ⟨wr.heap.size, 2, none⟩) (by simp) (by simpa using hnp)).trans hc.out, KT.out _ ht6'⟩) (first | (go_at_call 38; refine (rd_string _ _ _ (0, aa) 200 _ (hR1.drewN 1)).mono ?_; rintro r w6 ⟨rfl, hr6, ht6⟩; rw [E.out] at hr6 ⊢; simp only at hr6 ⊢; have ht6' : Touch [p2] (wr.alloc (.cells #[.int .u8 (kk : Int), .int .i64 nn, (.slice At text.length capt), (.slice Al list.length capl)] 35)) w6 := ⟨ht6.os, ht6.tape, ht6.output, ht6.size, ht6.block⟩))
              all_goals
                go_wp2_with fail
                go_roundw
                case rel => exact HNX.out _ hr6 ((HTA.out _).mono (by simp) |>.trans ht6')
                case measure => simp [intOf]; omega
            have hk6 := hcase
            clear hcase
            have E := Lib.hid (A5.out hk6)
            have q0 : (((kk : Int) % 6) == 0) = false := by simp; omega
            have q1 : (((kk : Int) % 6) == 1) = false := by simp; omega
            have q2 : (((kk : Int) % 6) == 2) = false := by simp; omega
            have q3 : (((kk : Int) % 6) == 3) = false := by simp; omega
            have q4 : (((kk : Int) % 6) == 4) = false := by simp; omega
            clear hk6
            have hc := Lib.hid (show (wr.alloc (.cells #[.int .u8 (kk : Int), .int .i64 nn, (.slice At text.length capt), (.slice Al list.length capl)] 35)).cell? ⟨wr.heap.size, 3, none⟩ = some ((.slice Al list.length capl)) from hblk.cell 3)
            go_wp2_with fail
            go_region_held3 (fun W => W.cell? ⟨wr.heap.size, 3, none⟩ = some (.slice Al list.length capl)) (first | exact hc.out | exact (ht6'.cell (p := ⟨wr.heap.size, 3, none⟩) (by simp) (by simpa using hnp)).trans hc.out | exact ((ht6'.then0 ht8).cell (p := ⟨wr.heap.size, 3, none⟩) (by simp) (by simpa using hnp)).trans hc.out) (first | (go_at_call 40; refine (rd_ints _ _ _ (0, aa) 50 _ (hR1.drewN 1)).mono ?_; rintro r w6 ⟨v6, rfl, hv6, -, hr6, ht6⟩; rw [E.out] at hr6 hv6; simp only at hr6 hv6; have ht6' : Touch [p2] (wr.alloc (.cells #[.int .u8 (kk : Int), .int .i64 nn, (.slice At text.length capt), (.slice Al list.length capl)] 35)) w6 := ⟨ht6.os, ht6.tape, ht6.output, ht6.size, ht6.block⟩) | (go_at_call 39; refine (equal_any _ _ list list _ ⟨hv6.reads, hL1.2⟩ (hL1.touch ht6' (fun g hg hm => by simp at hm; subst hm; exact HAP2.out hg))).mono ?_; rintro r w8 ⟨rfl, ht8⟩; rw [show decide (list = list) = true by simp]))
            all_goals
              go_wp2_with fail
              go_roundw
              case rel => exact HNX.out _ (hr6.touch0 ht8) ((HTA.out _).mono (by simp) |>.trans (ht6'.then0 ht8))
              case measure => simp [intOf]; omega
          · have hlt2' : ¬ (k : Int) < (xs.length : Int) := by omega
            obtain rfl : k = xs.length := by omega
            go_wp2_with fail
            refine (rd_end _ _ _ _ _ _ hR).mono ?_
            rintro r w3 ⟨rfl, n3, rfl⟩
            rw [show rEnd (wWant xs xs.length) 0 (wWant xs xs.length).length = 0 by unfold rEnd; simp]
            have hR3 := hR.drewN n3
            have htt3 := htt.drewN n3
            generalize wr.drewN n3 = w3 at *
            go_wp2_with fail
            refine (rd_at _ _ _ _ _ _ hR3).mono ?_
            rintro r w4 ⟨rfl, rfl⟩
            go_wp2_with fail
            refine (known_any _).mono ?_
            rintro r w7 ⟨rfl, ht7⟩
            go_wp2_with fail
            go_ret
            exact ⟨rfl, htt3.then0 ht7⟩
end Go.Proofs.Ytpbknnkobhjjcaa
