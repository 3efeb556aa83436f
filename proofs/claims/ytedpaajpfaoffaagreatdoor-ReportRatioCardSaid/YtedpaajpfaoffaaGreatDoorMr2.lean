/- report.Result over the bytes of the chapter's example: the whole. -/
import Derived.Test.YtedpaajpfaoffaaGreatDoorMr1
namespace Go.Proofs.YtedpaajpfaoffaaGreatDoor
open Go.RowKit
set_option linter.unusedSimpArgs false

theorem RN.six {w : World} (h : RN w) : 6 ≤ w.heap.size := by
  have ht := h.tab
  unfold Lib.TabIs World.var? at ht
  rw [g_pow] at ht
  simp only [Option.bind_some] at ht
  by_cases hlt : 5 < w.heap.size
  · have : 5 = 5 := rfl
    omega
  · rw [Array.getElem?_eq_none (by omega)] at ht; simp at ht

set_option maxRecDepth 100000 in
set_option maxHeartbeats 400000 in

theorem rec_idle (L C : Nat) (w : World) : CallsD Tryz.prog 38 #[.pointer (some ⟨L, 0, none⟩), .pointer (some ⟨C, 0, none⟩)] .returning w fun e u' w' => e = .returned (.tuple #[]) ∧ u' = .returning ∧ w' = w := by
  refine callsD_of_wpS Tryz.func38 rfl fun c₀ cs hu => ?_
  simp only [Tryz.ntmps38, List.size_toArray, List.length_cons, List.length_nil, Nat.reduceAdd, Nat.reduceSub, Array.replicate_succ, Array.replicate_zero, List.push_toArray, List.append_toArray, List.nil_append, List.cons_append]
  apply wpS_seq
  apply wpS_region
  simp [wpOpsS, go_sem, recoverD, hu, Exit.thenS]
  refine wpS_of_wp ?_
  go_wp2
  cases c₀
  simp_all [bodyPostS, results, Tryz.results38]

set_option maxRecDepth 100000 in
set_option maxHeartbeats 8000000 in
theorem result_known (v : Value) (w : World) (hv : Bytes w v ex52) (hn : RN w) :
    Calls Tryz.prog 15 #[v] w fun r w' => ∃ u, r = .returned (.tuple #[u, .int .i64 0]) ∧ Own w' 9 1 u 3 [.string ⟨#[114, 101, 118, 101, 114, 115, 101]⟩, .string ⟨ev52.toArray⟩, .string ⟨#[110, 101, 120, 116, 32, 102, 111, 114, 119, 97, 114, 100]⟩] ∧ (∀ g ∈ blk u, w.heap.size ≤ g) ∧ Touch [] w w' := by
  have hmf := make_func
  have h6 := hn.six
  have hv' := hv
  obtain ⟨A, cap, rfl, hcap1, hcap2, -⟩ := hv'
  have HV := Lib.hid hv
  clear hv
  go_enter_defers Tryz.func15, Tryz.ntmps15
  go_wp2_with fail
  have ht2 : Touch [] w ((w.alloc (.cells #[.slice none 0 0] 39)).alloc (.cells #[.int .i64 0] 23)) := ((Touch.refl [] w).alloc _).alloc _
  have hL : Blk ((w.alloc (.cells #[.slice none 0 0] 39)).alloc (.cells #[.int .i64 0] 23)) w.heap.size 39 #[.slice none 0 0] := (Blk.new _ _ _).alloc _
  have hC : Blk ((w.alloc (.cells #[.slice none 0 0] 39)).alloc (.cells #[.int .i64 0] 23)) (w.heap.size + 1) 23 #[.int .i64 0] := by
    have := Blk.new (w.alloc (.cells #[.slice none 0 0] 39)) 23 #[.int .i64 0]
    simpa using this
  generalize (w.alloc (.cells #[.slice none 0 0] 39)).alloc (.cells #[.int .i64 0] 23) = w2 at *
  rw [show decide ((ex52.length : Int) ≤ 65536) = true from rfl]
  refine (must_true w2).mono ?_
  rintro r w3 ⟨rfl, rfl⟩
  go_wp2_with fail
  refine (read_any _ ex52 w3 (HV.out.touch0 ht2) (by decide)).mono ?_
  rintro r w4 ⟨p, inp, rfl, hp, hinp, hR, ht3⟩
  have hLC := hL.lt
  have hCC := hC.lt
  have ht4 := ht2.then0 ht3
  have hL := hL.touch ht3 (by simp)
  have hC := hC.touch ht3 (by simp)
  clear ht2 ht3 HV
  go_wp2_with fail
  have hplt := hR.1.lt
  have h6p : 6 ≤ p := by omega
  have hwp : w.heap.size ≤ p := by omega
  have hin0 : ∀ g ∈ rb inp, w.heap.size + 2 ≤ g := fun g hg => by have := hinp g hg; omega
  have hn0p : w.heap.size ≠ p := by omega
  have hn1p : w.heap.size + 1 ≠ p := by omega
  have hV : Blk (w4.alloc (.cells #[.pointer (some ⟨p, 0, none⟩)] 71)) w4.heap.size 71 #[.pointer (some ⟨p, 0, none⟩)] := Blk.new _ _ _
  have hvp : w4.heap.size ≠ p := by omega
  have hvn : w.heap.size < w4.heap.size := by have := ht4.size; omega
  have ht5 : Touch [] w (w4.alloc (.cells #[.pointer (some ⟨p, 0, none⟩)] 71)) := ht4.alloc _
  have hR5 := hR.touch ((Touch.refl [] w4).alloc (.cells #[.pointer (some ⟨p, 0, none⟩)] 71)) (by simp) (fun _ _ => by simp)
  have hL5 := hL.alloc (.cells #[.pointer (some ⟨p, 0, none⟩)] 71)
  have hC5 := hC.alloc (.cells #[.pointer (some ⟨p, 0, none⟩)] 71)
  generalize (w4.alloc (.cells #[.pointer (some ⟨p, 0, none⟩)] 71)) = w5 at *
  generalize w4.heap.size = v at *
  clear hL hC hR ht4 hLC hCC
  have HN := Lib.hid (fun (W : World) (t : Touch [] w W) => hn.touch t (by simp))
  clear hn
  refine (limited_ok 1 3 v p inp ex52 (0, 0) w5 hR5 hV hvp 1 1 ex0 (by omega) (by omega)).mono ?_
  rintro r w6 ⟨rfl, hR6, ht⟩
  have hV6 := hV.touch ht (by simpa using hvp)
  have hL6 := hL5.touch ht (by simpa using hn0p)
  have hC6 := hC5.touch ht (by simpa using hn1p)
  have ht6 := ht5.step ht (by simp; omega)
  clear hV hL5 hC5 ht5 ht hR5
  have cp := (HN.out w6 ht6).phases.cell 0
  have cl := hL6.cell 0
  have fl := hL6.frozen 0
  have ll := hL6.lt
  simp at cp cl
  have hlo := ht6.size
  have hL7 := (hL6.set_ 0 (.slice (some ⟨w6.heap.size, 0, none⟩) 1 1)).alloc (.cells #[.string ⟨#[114, 101, 118, 101, 114, 115, 101]⟩] 9)
  simp only [List.setIfInBounds_toArray, List.set_cons_zero] at hL7
  have hS7 := (Touch.refl [w.heap.size] w6).setCell (p := ⟨w.heap.size, 0, none⟩) (.inl (by simp)) (.slice (some ⟨w6.heap.size, 0, none⟩) 1 1)
  have hinm : ∀ g ∈ rb inp, g < w6.heap.size := hR6.2.2.2.2.1
  have hO7 : Own ((w6.setCell ⟨w.heap.size, 0, none⟩ (.slice (some ⟨w6.heap.size, 0, none⟩) 1 1)).alloc (.cells #[.string ⟨#[114, 101, 118, 101, 114, 115, 101]⟩] 9)) 9 1 (.slice (some ⟨w6.heap.size, 0, none⟩) 1 1) 1 [.string ⟨#[114, 101, 118, 101, 114, 115, 101]⟩] := ownLit _ _ (by simp [World.setCell]) 9 1 1 [.string ⟨#[114, 101, 118, 101, 114, 115, 101]⟩] rfl (by simp [maxLen])
  have hS8 := hS7.alloc (.cells #[.string ⟨#[114, 101, 118, 101, 114, 115, 101]⟩] 9)
  have ht7 := ht6.step hS8 (by simp)
  have hR7 := hR6.touch hS8 (by simpa using fun e => hn0p e.symm) (fun g hg => by
    have := hin0 g hg
    simp; omega)
  have hC7 := hC6.touch hS8 (by simp)
  have hV7 := hV6.touch hS8 (by simp; omega)
  have hsz7 : w6.heap.size < ((w6.setCell ⟨w.heap.size, 0, none⟩ (.slice (some ⟨w6.heap.size, 0, none⟩) 1 1)).alloc (.cells #[.string ⟨#[114, 101, 118, 101, 114, 115, 101]⟩] 9)).heap.size := by simp [World.setCell]
  have hv6 := hV6.lt
  have hp6 := hR6.1.lt
  have hc6 := hC6.lt
  clear hS7 hS8 hL6 hC6 hV6 hR6 ht6
  go_wp2_with fail
  generalize hw8 : ((w6.setCell ⟨w.heap.size, 0, none⟩ (.slice (some ⟨w6.heap.size, 0, none⟩) 1 1)).alloc (.cells #[.string ⟨#[114, 101, 118, 101, 114, 115, 101]⟩] 9)) = w8 at *
  generalize hm6 : w6.heap.size = m6 at *
  clear hw8 cl fl cp
  have hR8 := hR7.drewN 1
  have hL8 := hL7
  have hC8 := hC7
  have hV8 := hV7
  have hO8 := hO7
  have ht8 := ht7
  have cl := hL8.drew.cell 0
  have cv := hV8.drew.cell 0
  simp at cl cv
  refine wp_region_noPanic ?_
  refine wp_region_held_drew (S := fun W => W.cell? ⟨v, 0, none⟩ = some (.pointer (some ⟨p, 0, none⟩))) (by kernel_rfl) cv (fun hS => ?_)
  refine wpAnyH_take (i := 1) (v := ?_) rfl (by kernel_rfl) (by kernel_rfl) (by kernel_rfl) (fun _ _ _ h => h) (Or.inl ⟨by rfl, ?_⟩) hS ?_
  rotate_left
  · (intro W hSW; go_simp <;> with_reducible rfl)
  simp only [Act.put, List.setIfInBounds_toArray, List.set_cons_zero, List.set_cons_succ, List.getElem_toArray, List.getElem_cons_succ, List.getElem_cons_zero]
  refine wpAnyH_take (i := 2) (v := ?_) rfl (by kernel_rfl) (by kernel_rfl) (by kernel_rfl) (fun _ _ _ h => h) (Or.inl ⟨by rfl, ?_⟩) hS ?_
  rotate_left
  · (intro W hSW; go_simp <;> with_reducible rfl)
  simp only [Act.put, List.setIfInBounds_toArray, List.set_cons_zero, List.set_cons_succ, List.getElem_toArray, List.getElem_cons_succ, List.getElem_cons_zero]
  refine wpAnyH_ready (rs := [0, 3]) (by kernel_rfl) (by simp) (AllReadyH.cons rfl (fun K hK => ?_) (AllReadyH.cons rfl (fun K hK => ?_) AllReadyH.nil))
  · go_simp
    refine hK.out _ _ ?_ (fun _ => ?_)
    · exact cv
    clear hK K
    try simp only [Act.put, List.setIfInBounds_toArray, List.set_cons_zero, List.set_cons_succ, List.getElem_toArray, List.getElem_cons_succ, List.getElem_cons_zero]
    refine wpAnyH_ready (rs := [3]) (by kernel_rfl) (by simp) (AllReadyH.cons rfl (fun K hK => ?_) AllReadyH.nil)
    go_simp
    refine (events_known v p inp _ hR8 (hV8.touch ((Touch.refl [] w8).drew) (by simp)) hvp (HN.out _ ht8.drew) h6p).mono ?_
    rintro r w9 ⟨u, rfl, hO9, hf9, hR9, ht⟩
    have ht89 : Touch [p] w8 w9 := ⟨ht.os, ht.tape, ht.output, ht.size, ht.block⟩
    have ht9 := ht8.step ht89 (by simp; omega)
    have hL9 := hL8.touch ht89 (by simpa using hn0p)
    have hC9 := hC8.touch ht89 (by simpa using hn1p)
    have hV9 := hV8.touch ht89 (by simpa using hvp)
    have hS9 := hO8.touch ht89 (by simp [blk]; omega)
    have hf9 : ∀ g ∈ blk u, w8.heap.size ≤ g := hf9
    obtain ⟨A9, c9, rfl⟩ := hO9.form
    clear ht hL8 hC8 hV8 hO8 ht8 hL7 hC7 hV7 hO7 ht7 hR8 hR7 cl cv
    have cv := hV9.cell 0
    have cl := hL9.cell 0
    simp at cv cl
    go_wp2_with fail
    refine hK.out _ _ ?_ (fun _ => ?_)
    · exact cv
    clear hK K
    try simp only [Act.put, List.setIfInBounds_toArray, List.set_cons_zero, List.set_cons_succ, List.getElem_toArray, List.getElem_cons_succ, List.getElem_cons_zero]
    refine wpAnyH_ready (rs := [4]) (by kernel_rfl) (by simp) (AllReadyH.cons rfl (fun K hK => ?_) AllReadyH.nil)
    refine step_app_reads elem_str hS9 hO9.reads (by simp [Value.oneCell']) (by omega) (by unfold maxLen; omega) ?_
    intro v3 w10 ho3 ht3 hf3
    have hL10 := hL9.touch ht3 (by simp [blk]; omega)
    have hC10 := hC9.touch ht3 (by simp [blk]; omega)
    have hV10 := hV9.touch ht3 (by simp [blk]; omega)
    have hR10 := hR9.touch ht3 (by simp [blk]; omega) (fun g hg => by simp [blk]; have := hinm g hg; omega)
    have ht10 := ht9.step ht3 (by simp [blk]; omega)
    have hb3 : ∀ g ∈ blk v3, m6 ≤ g := fun g hg => by
      rcases hf3 g hg with h | h
      · simp [blk] at h; omega
      · have := ht9.size; have := ht89.size; omega
    obtain ⟨A3, c3, rfl⟩ := ho3.form
    have cl := hL10.cell 0
    have fl := hL10.frozen 0
    have cv := hV10.cell 0
    simp at cl cv
    refine hK.out _ _ ?_ (fun _ => ?_)
    · exact cv
    clear hK K
    try simp only [Act.put, List.setIfInBounds_toArray, List.set_cons_zero, List.set_cons_succ, List.getElem_toArray, List.getElem_cons_succ, List.getElem_cons_zero]
    refine wpAnyH_ready (rs := [5]) (by kernel_rfl) (by simp) (AllReadyH.cons rfl (fun K hK => ?_) AllReadyH.nil)
    go_simp
    refine hK.out _ _ ?_ (fun _ => ?_)
    · have := (hV10.far (p := ⟨w.heap.size, 0, none⟩) (by show v ≠ w.heap.size; omega) (.slice A3 2 c3)).cell 0
      simpa using this
    clear hK K
    try simp only [Act.put, List.setIfInBounds_toArray, List.set_cons_zero, List.set_cons_succ, List.getElem_toArray, List.getElem_cons_succ, List.getElem_cons_zero]
    refine wpAnyH_done (by kernel_rfl) ?_ _
    refine NoPanic.normal ?_
    have hS10 := (Touch.refl [w.heap.size] w10).setCell (p := ⟨w.heap.size, 0, none⟩) (.inl (by simp)) (.slice A3 2 c3)
    have hL11 := hL10.set_ 0 (.slice A3 2 c3)
    simp only [List.setIfInBounds_toArray, List.set_cons_zero] at hL11
    have hC11 := hC10.touch hS10 (by simp)
    have hV11 := hV10.touch hS10 (by simp; omega)
    have hR11 := hR10.touch hS10 (by simpa using fun e => hn0p e.symm) (fun g hg => by have := hin0 g hg; simp; omega)
    have ho11 := ho3.touch hS10 (fun b hb => by have := hb3 b hb; simp; omega)
    have ht11 := ht10.step hS10 (by simp)
    clear hS10 hL10 hC10 hV10 hR10 ht10 ho3 ht3 hf3 hL9 hC9 hV9 hR9 ht9 hS9 hO9 hf9 ht89 cl fl cv
    generalize w10.setCell ⟨w.heap.size, 0, none⟩ (.slice A3 2 c3) = w11 at *
    go_wp2_with fail
    have hV := hV11.drew
    have hL := hL11.drew
    have hC := hC11.drew
    have hR := hR11.drewN 1
    have ho := ho11.touch ((Touch.refl [] w11).drew) (fun _ _ => by simp)
    have ht := ht11.drew
    have hb3' := hb3
    have hwr : IntKind.i64.wrap 1 = 1 := by decide
    clear hV11 hL11 hC11 hR11 ho11 ht11
    have cl := hL.cell 0
    have cph := (HN.out _ ht).phases.cell 1
    simp at cl cph
    refine wp_region_noPanic ?_
    refine wp_region_held_drew (S := fun W => W.cell? ⟨0, 1, none⟩ = some (.string ⟨#[102, 111, 114, 119, 97, 114, 100]⟩)) (by kernel_rfl) cph (fun hS => ?_)
    refine wpAnyH_take (i := 1) (v := ?_) rfl (by kernel_rfl) (by kernel_rfl) (by kernel_rfl) (fun _ _ _ h => h) (Or.inl ⟨by rfl, ?_⟩) hS ?_
    rotate_left
    · (intro W hSW; go_simp <;> with_reducible rfl)
    simp only [Act.put, List.setIfInBounds_toArray, List.set_cons_zero, List.set_cons_succ, List.getElem_toArray, List.getElem_cons_succ, List.getElem_cons_zero]
    refine wpAnyH_ready (rs := [0, 2]) (by kernel_rfl) (by simp) (AllReadyH.cons rfl (fun K hK => ?_) (AllReadyH.cons rfl (fun K hK => ?_) AllReadyH.nil))
    · go_simp
      refine hK.out _ _ cph (fun hS => ?_)
      clear hK K
      try simp only [Act.put, List.setIfInBounds_toArray, List.set_cons_zero, List.set_cons_succ, List.getElem_toArray, List.getElem_cons_succ, List.getElem_cons_zero]
      refine wpAnyH_ready (rs := [2]) (by kernel_rfl) (by simp) (AllReadyH.cons rfl (fun K hK => ?_) AllReadyH.nil)
      go_simp
      refine (limited_ok 1 5 v p inp ex52 (0, 6) _ hR hV hvp 2 7 ex6 (by omega) (by omega)).mono ?_
      rintro r wa ⟨rfl, hR2, hta⟩
      replace hV := hV.touch hta (by simpa using hvp)
      replace hL := hL.touch hta (by simpa using hn0p)
      replace hC := hC.touch hta (by simpa using hn1p)
      replace ho := ho.touch hta (fun b hb => by have := hb3 b hb; simp; omega)
      replace ht := ht.step hta (by simp; omega)
      replace hR := hR2
      clear hR2 hta cl cph
      have cl := hL.cell 0
      have cph := (HN.out _ ht).phases.cell 1
      simp at cl cph
      go_wp2_with fail
      refine hK.out _ _ cph (fun hS => ?_)
      clear hK K
      try simp only [Act.put, List.setIfInBounds_toArray, List.set_cons_zero, List.set_cons_succ, List.getElem_toArray, List.getElem_cons_succ, List.getElem_cons_zero]
      refine wpAnyH_take (i := 3) (v := ?_) rfl (by kernel_rfl) (by kernel_rfl) (by kernel_rfl) (fun _ _ _ h => h) (Or.inl ⟨by rfl, ?_⟩) hS ?_
      rotate_left
      · (intro W hSW; go_simp <;> with_reducible rfl)
      simp only [Act.put, List.setIfInBounds_toArray, List.set_cons_zero, List.set_cons_succ, List.getElem_toArray, List.getElem_cons_succ, List.getElem_cons_zero]
      refine wpAnyH_take (i := 4) (v := ?_) rfl (by kernel_rfl) (by kernel_rfl) (by kernel_rfl) (fun _ _ _ h => h) (Or.inl ⟨by rfl, ?_⟩) hS ?_
      rotate_left
      · (intro W hSW; go_simp <;> with_reducible rfl)
      simp only [Act.put, List.setIfInBounds_toArray, List.set_cons_zero, List.set_cons_succ, List.getElem_toArray, List.getElem_cons_succ, List.getElem_cons_zero]
      refine wpAnyH_take (i := 5) (v := ?_) rfl (by kernel_rfl) (by kernel_rfl) (by kernel_rfl) (fun _ _ _ h => h) (Or.inl ⟨by rfl, ?_⟩) hS ?_
      rotate_left
      · (intro W hSW; go_simp <;> with_reducible rfl)
      simp only [Act.put, List.setIfInBounds_toArray, List.set_cons_zero, List.set_cons_succ, List.getElem_toArray, List.getElem_cons_succ, List.getElem_cons_zero]
      refine wpAnyH_ready (rs := [6]) (by kernel_rfl) (by simp) (AllReadyH.cons rfl (fun K hK => ?_) AllReadyH.nil)
      clear cph
      go_simp
      have hta := (Touch.refl [] wa).alloc (.cells #[.string ⟨#[110, 101, 120, 116]⟩, .string ⟨#[102, 111, 114, 119, 97, 114, 100]⟩] 9)
      have HW := Lib.hid (words_any wa.heap.size 0 2 [[110, 101, 120, 116], [102, 111, 114, 119, 97, 114, 100]] (wa.alloc (.cells #[.string ⟨#[110, 101, 120, 116]⟩, .string ⟨#[102, 111, 114, 119, 97, 114, 100]⟩] 9)) (fun j y hy => news_cell wa 9 [[110, 101, 120, 116], [102, 111, 114, 119, 97, 114, 100]] j y hy) (by simp) (by simp) (by simp) (by decide))
      replace hV := hV.touch hta (by simp)
      replace hL := hL.touch hta (by simp)
      replace hC := hC.touch hta (by simp)
      replace hR := hR.touch hta (by simp) (fun _ _ => by simp)
      replace ho := ho.touch hta (fun _ _ => by simp)
      replace ht := ht.step hta (by simp)
      clear hta cl
      have cl := hL.cell 0
      have cph := (HN.out _ ht).phases.cell 1
      simp at cl cph
      generalize (wa.alloc (.cells #[.string ⟨#[110, 101, 120, 116]⟩, .string ⟨#[102, 111, 114, 119, 97, 114, 100]⟩] 9)) = wb at *
      refine hK.out _ _ cph (fun hS => ?_)
      clear hK K
      try simp only [Act.put, List.setIfInBounds_toArray, List.set_cons_zero, List.set_cons_succ, List.getElem_toArray, List.getElem_cons_succ, List.getElem_cons_zero]
      refine wpAnyH_ready (rs := [7]) (by kernel_rfl) (by simp) (AllReadyH.cons rfl (fun K hK => ?_) AllReadyH.nil)
      go_simp
      refine HW.out.mono ?_
      rintro r wc ⟨rfl, hta⟩
      rw [show Lib.join [[110, 101, 120, 116], [102, 111, 114, 119, 97, 114, 100]] [32] = [110, 101, 120, 116, 32, 102, 111, 114, 119, 97, 114, 100] from by decide]
      clear HW
      replace hV := hV.touch hta (by simp)
      replace hL := hL.touch hta (by simp)
      replace hC := hC.touch hta (by simp)
      replace hR := hR.touch hta (by simp) (fun _ _ => by simp)
      replace ho := ho.touch hta (fun _ _ => by simp)
      replace ht := ht.step hta (by simp)
      clear hta cl cph
      have cl := hL.cell 0
      have cph := (HN.out _ ht).phases.cell 1
      simp at cl cph
      go_wp2_with fail
      refine hK.out _ _ cph (fun hS => ?_)
      clear hK K
      try simp only [Act.put, List.setIfInBounds_toArray, List.set_cons_zero, List.set_cons_succ, List.getElem_toArray, List.getElem_cons_succ, List.getElem_cons_zero]
      refine wpAnyH_ready (rs := [8]) (by kernel_rfl) (by simp) (AllReadyH.cons rfl (fun K hK => ?_) AllReadyH.nil)
      go_simp
      have hta := (Touch.refl [] wc).alloc (.cells #[.string ⟨#[110, 101, 120, 116, 32, 102, 111, 114, 119, 97, 114, 100]⟩] 9)
      have hrl := (ownLit wc _ rfl 9 1 1 [.string ⟨#[110, 101, 120, 116, 32, 102, 111, 114, 119, 97, 114, 100]⟩] rfl (by simp [maxLen])).reads
      replace hV := hV.touch hta (by simp)
      replace hL := hL.touch hta (by simp)
      replace hC := hC.touch hta (by simp)
      replace hR := hR.touch hta (by simp) (fun _ _ => by simp)
      replace ho := ho.touch hta (fun _ _ => by simp)
      replace ht := ht.step hta (by simp)
      clear hta cl cph
      have cl := hL.cell 0
      have cph := (HN.out _ ht).phases.cell 1
      simp at cl cph
      generalize (wc.alloc (.cells #[.string ⟨#[110, 101, 120, 116, 32, 102, 111, 114, 119, 97, 114, 100]⟩] 9)) = wd at *
      refine hK.out _ _ cph (fun hS => ?_)
      clear hK K
      try simp only [Act.put, List.setIfInBounds_toArray, List.set_cons_zero, List.set_cons_succ, List.getElem_toArray, List.getElem_cons_succ, List.getElem_cons_zero]
      refine wpAnyH_ready (rs := [9]) (by kernel_rfl) (by simp) (AllReadyH.cons rfl (fun K hK => ?_) AllReadyH.nil)
      refine step_app_reads elem_str ho hrl (by simp [Value.oneCell']) (by omega) (by unfold maxLen; omega) ?_
      intro v5 we ho5 hta hf5
      replace hb3 : ∀ g ∈ blk v5, w.heap.size + 2 ≤ g := fun g hg => by
        rcases hf5 g hg with h | h
        · have := hb3 g h; omega
        · have := ht.size; have := hC.lt; omega
      have hbx : ∀ g ∈ blk v5, g ≠ p ∧ g ≠ v ∧ g ∉ rb inp := fun g hg => by
        rcases hf5 g hg with h | h
        · have h2 := hb3' g h
          exact ⟨by omega, by omega, fun hm => by have := hinm g hm; omega⟩
        · exact ⟨by have := hR.1.lt; omega, by have := hV.lt; omega, fun hm => by have := hR.2.2.2.2.1 g hm; omega⟩
      have hby : ∀ g ∈ blk (Value.slice A3 2 c3), g ≠ p ∧ g ≠ v ∧ g ≠ w.heap.size ∧ g ≠ w.heap.size + 1 ∧ g ∉ rb inp := fun g hg => by
        have h2 := hb3' g hg
        exact ⟨by omega, by omega, by omega, by omega, fun hm => by have := hinm g hm; omega⟩
      replace hV := hV.touch hta (fun h => (hby _ h).2.1 rfl)
      replace hL := hL.touch hta (fun h => (hby _ h).2.2.1 rfl)
      replace hC := hC.touch hta (fun h => (hby _ h).2.2.2.1 rfl)
      replace hR := hR.touch hta (fun h => (hby _ h).1 rfl) (fun g hg h => (hby _ h).2.2.2.2 hg)
      replace ht := ht.step hta (fun g hg => .inr (by have := hb3' g hg; omega))
      clear hta cl cph hf5 ho hrl hby
      have cl := hL.cell 0
      have cph := (HN.out _ ht).phases.cell 1
      simp at cl cph
      have fl := hL.frozen 0
      obtain ⟨A5, c5, rfl⟩ := ho5.form
      refine hK.out _ _ cph (fun hS => ?_)
      clear hK K
      try simp only [Act.put, List.setIfInBounds_toArray, List.set_cons_zero, List.set_cons_succ, List.getElem_toArray, List.getElem_cons_succ, List.getElem_cons_zero]
      refine wpAnyH_ready (rs := [10]) (by kernel_rfl) (by simp) (AllReadyH.cons rfl (fun K hK => ?_) AllReadyH.nil)
      go_simp
      have hta := (Touch.refl [w.heap.size] we).setCell (p := ⟨w.heap.size, 0, none⟩) (.inl (by simp)) (.slice A5 3 c5)
      replace hL := hL.set_ 0 (.slice A5 3 c5)
      simp only [List.setIfInBounds_toArray, List.set_cons_zero] at hL
      replace hC := hC.touch hta (by simp)
      replace hV := hV.touch hta (by simp; omega)
      replace hR := hR.touch hta (by simpa using fun e => hn0p e.symm) (fun g hg => by have := hin0 g hg; simp; omega)
      replace ho5 := ho5.touch hta (fun b hb => by have := hb3 b hb; simp; omega)
      replace ht := ht.step hta (by simp)
      clear hta cl cph fl
      have cph := (HN.out _ ht).phases.cell 1
      simp at cph
      generalize we.setCell ⟨w.heap.size, 0, none⟩ (.slice A5 3 c5) = wf at *
      refine hK.out _ _ cph (fun hS => ?_)
      clear hK K
      try simp only [Act.put, List.setIfInBounds_toArray, List.set_cons_zero, List.set_cons_succ, List.getElem_toArray, List.getElem_cons_succ, List.getElem_cons_zero]
      refine wpAnyH_done (by kernel_rfl) ?_ _
      refine NoPanic.normal ?_
      have cv := hV.cell 0
      simp at cv
      clear cph hS
      go_wp2_with fail
      refine (rd_end p inp ex52 0 7 wf hR).mono ?_
      rintro r wg ⟨rfl, nd, hdr⟩
      have hta : Touch [] wf wg := by rw [hdr]; exact (Touch.refl [] wf).drewN nd
      replace hL := hL.touch hta (by simp)
      replace hC := hC.touch hta (by simp)
      replace ho5 := ho5.touch hta (fun _ _ => by simp)
      replace ht := ht.then0 hta
      clear hdr hta hV hR cv hbx
      rw [show rEnd ex52 0 7 = 0 from by decide]
      go_wp2_with fail
      refine (must_true _).mono ?_
      rintro r wg2 ⟨rfl, rfl⟩
      have cl := hL.cell 0
      have fl := hL.frozen 0
      have hc0 := hC.cell 0
      have fc := hC.frozen 0
      have lc := hC.lt
      simp at cl hc0
      go_wp2_with fail
      have htz : Touch [w.heap.size, w.heap.size + 1] wg2 ((wg2.setCell ⟨w.heap.size, 0, none⟩ (.slice A5 3 c5)).setCell ⟨w.heap.size + 1, 0, none⟩ (.int .i64 0)) := ((Touch.refl _ wg2).setCell (.inl (by simp)) _).setCell (.inl (by simp)) _
      have hLz := (hL.set_ 0 (.slice A5 3 c5)).far (p := ⟨w.heap.size + 1, 0, none⟩) (by show w.heap.size ≠ w.heap.size + 1; omega) (.int .i64 0)
      have hCz := (hC.far (p := ⟨w.heap.size, 0, none⟩) (by show w.heap.size + 1 ≠ w.heap.size; omega) (.slice A5 3 c5)).set_ 0 (.int .i64 0)
      simp only [List.setIfInBounds_toArray, List.set_cons_zero] at hLz hCz
      replace ho5 := ho5.touch htz (fun b hb => by have := hb3 b hb; simp; omega)
      replace ht := ht.step htz (by simp)
      clear htz cl fl hc0 fc
      generalize ((wg2.setCell ⟨w.heap.size, 0, none⟩ (.slice A5 3 c5)).setCell ⟨w.heap.size + 1, 0, none⟩ (.int .i64 0)) = wz at *
      have cl := hLz.cell 0
      have hc0 := hCz.cell 0
      simp at cl hc0
      refine leaves_cons (f := 38) (args := #[.pointer (some ⟨w.heap.size, 0, none⟩), .pointer (some ⟨w.heap.size + 1, 0, none⟩)]) (by simp) (by simp [go_sem]) ?_
      refine (rec_idle _ _ wz).mono ?_
      rintro e u' w4 ⟨rfl, rfl, rfl⟩
      have HO := Lib.hid ho5
      have HT := Lib.hid ht
      have HB := Lib.hid hb3
      clear ho5 ht hb3
      simp [Leaves, settle, results, Tryz.results15, go_sem, cl, hc0]
      exact ⟨HO.out, fun g hg => by have := HB.out g hg; omega, HT.out⟩
    · go_simp
      refine (limited_ok 1 5 v p inp ex52 (0, 6) _ hR hV hvp 2 7 ex6 (by omega) (by omega)).mono ?_
      rintro r wa ⟨rfl, hR2, hta⟩
      replace hV := hV.touch hta (by simpa using hvp)
      replace hL := hL.touch hta (by simpa using hn0p)
      replace hC := hC.touch hta (by simpa using hn1p)
      replace ho := ho.touch hta (fun b hb => by have := hb3 b hb; simp; omega)
      replace ht := ht.step hta (by simp; omega)
      replace hR := hR2
      clear hR2 hta cl cph
      have cl := hL.cell 0
      have cph := (HN.out _ ht).phases.cell 1
      simp at cl cph
      go_wp2_with fail
      refine hK.out _ _ cph (fun hS => ?_)
      clear hK K
      try simp only [Act.put, List.setIfInBounds_toArray, List.set_cons_zero, List.set_cons_succ, List.getElem_toArray, List.getElem_cons_succ, List.getElem_cons_zero]
      refine wpAnyH_take (i := 3) (v := ?_) rfl (by kernel_rfl) (by kernel_rfl) (by kernel_rfl) (fun _ _ _ h => h) (Or.inl ⟨by rfl, ?_⟩) hS ?_
      rotate_left
      · (intro W hSW; go_simp <;> with_reducible rfl)
      simp only [Act.put, List.setIfInBounds_toArray, List.set_cons_zero, List.set_cons_succ, List.getElem_toArray, List.getElem_cons_succ, List.getElem_cons_zero]
      refine wpAnyH_take (i := 4) (v := ?_) rfl (by kernel_rfl) (by kernel_rfl) (by kernel_rfl) (fun _ _ _ h => h) (Or.inl ⟨by rfl, ?_⟩) hS ?_
      rotate_left
      · (intro W hSW; go_simp <;> with_reducible rfl)
      simp only [Act.put, List.setIfInBounds_toArray, List.set_cons_zero, List.set_cons_succ, List.getElem_toArray, List.getElem_cons_succ, List.getElem_cons_zero]
      refine wpAnyH_take (i := 5) (v := ?_) rfl (by kernel_rfl) (by kernel_rfl) (by kernel_rfl) (fun _ _ _ h => h) (Or.inl ⟨by rfl, ?_⟩) hS ?_
      rotate_left
      · (intro W hSW; go_simp <;> with_reducible rfl)
      simp only [Act.put, List.setIfInBounds_toArray, List.set_cons_zero, List.set_cons_succ, List.getElem_toArray, List.getElem_cons_succ, List.getElem_cons_zero]
      refine wpAnyH_ready (rs := [0, 6]) (by kernel_rfl) (by simp) (AllReadyH.cons rfl (fun K hK => ?_) (AllReadyH.cons rfl (fun K hK => ?_) AllReadyH.nil))
      · go_simp
        refine hK.out _ _ cph (fun hS => ?_)
        clear hK K
        try simp only [Act.put, List.setIfInBounds_toArray, List.set_cons_zero, List.set_cons_succ, List.getElem_toArray, List.getElem_cons_succ, List.getElem_cons_zero]
        refine wpAnyH_ready (rs := [6]) (by kernel_rfl) (by simp) (AllReadyH.cons rfl (fun K hK => ?_) AllReadyH.nil)
        clear cph
        go_simp
        have hta := (Touch.refl [] wa).alloc (.cells #[.string ⟨#[110, 101, 120, 116]⟩, .string ⟨#[102, 111, 114, 119, 97, 114, 100]⟩] 9)
        have HW := Lib.hid (words_any wa.heap.size 0 2 [[110, 101, 120, 116], [102, 111, 114, 119, 97, 114, 100]] (wa.alloc (.cells #[.string ⟨#[110, 101, 120, 116]⟩, .string ⟨#[102, 111, 114, 119, 97, 114, 100]⟩] 9)) (fun j y hy => news_cell wa 9 [[110, 101, 120, 116], [102, 111, 114, 119, 97, 114, 100]] j y hy) (by simp) (by simp) (by simp) (by decide))
        replace hV := hV.touch hta (by simp)
        replace hL := hL.touch hta (by simp)
        replace hC := hC.touch hta (by simp)
        replace hR := hR.touch hta (by simp) (fun _ _ => by simp)
        replace ho := ho.touch hta (fun _ _ => by simp)
        replace ht := ht.step hta (by simp)
        clear hta cl
        have cl := hL.cell 0
        have cph := (HN.out _ ht).phases.cell 1
        simp at cl cph
        generalize (wa.alloc (.cells #[.string ⟨#[110, 101, 120, 116]⟩, .string ⟨#[102, 111, 114, 119, 97, 114, 100]⟩] 9)) = wb at *
        refine hK.out _ _ cph (fun hS => ?_)
        clear hK K
        try simp only [Act.put, List.setIfInBounds_toArray, List.set_cons_zero, List.set_cons_succ, List.getElem_toArray, List.getElem_cons_succ, List.getElem_cons_zero]
        refine wpAnyH_ready (rs := [7]) (by kernel_rfl) (by simp) (AllReadyH.cons rfl (fun K hK => ?_) AllReadyH.nil)
        go_simp
        refine HW.out.mono ?_
        rintro r wc ⟨rfl, hta⟩
        rw [show Lib.join [[110, 101, 120, 116], [102, 111, 114, 119, 97, 114, 100]] [32] = [110, 101, 120, 116, 32, 102, 111, 114, 119, 97, 114, 100] from by decide]
        clear HW
        replace hV := hV.touch hta (by simp)
        replace hL := hL.touch hta (by simp)
        replace hC := hC.touch hta (by simp)
        replace hR := hR.touch hta (by simp) (fun _ _ => by simp)
        replace ho := ho.touch hta (fun _ _ => by simp)
        replace ht := ht.step hta (by simp)
        clear hta cl cph
        have cl := hL.cell 0
        have cph := (HN.out _ ht).phases.cell 1
        simp at cl cph
        go_wp2_with fail
        refine hK.out _ _ cph (fun hS => ?_)
        clear hK K
        try simp only [Act.put, List.setIfInBounds_toArray, List.set_cons_zero, List.set_cons_succ, List.getElem_toArray, List.getElem_cons_succ, List.getElem_cons_zero]
        refine wpAnyH_ready (rs := [8]) (by kernel_rfl) (by simp) (AllReadyH.cons rfl (fun K hK => ?_) AllReadyH.nil)
        go_simp
        have hta := (Touch.refl [] wc).alloc (.cells #[.string ⟨#[110, 101, 120, 116, 32, 102, 111, 114, 119, 97, 114, 100]⟩] 9)
        have hrl := (ownLit wc _ rfl 9 1 1 [.string ⟨#[110, 101, 120, 116, 32, 102, 111, 114, 119, 97, 114, 100]⟩] rfl (by simp [maxLen])).reads
        replace hV := hV.touch hta (by simp)
        replace hL := hL.touch hta (by simp)
        replace hC := hC.touch hta (by simp)
        replace hR := hR.touch hta (by simp) (fun _ _ => by simp)
        replace ho := ho.touch hta (fun _ _ => by simp)
        replace ht := ht.step hta (by simp)
        clear hta cl cph
        have cl := hL.cell 0
        have cph := (HN.out _ ht).phases.cell 1
        simp at cl cph
        generalize (wc.alloc (.cells #[.string ⟨#[110, 101, 120, 116, 32, 102, 111, 114, 119, 97, 114, 100]⟩] 9)) = wd at *
        refine hK.out _ _ cph (fun hS => ?_)
        clear hK K
        try simp only [Act.put, List.setIfInBounds_toArray, List.set_cons_zero, List.set_cons_succ, List.getElem_toArray, List.getElem_cons_succ, List.getElem_cons_zero]
        refine wpAnyH_ready (rs := [9]) (by kernel_rfl) (by simp) (AllReadyH.cons rfl (fun K hK => ?_) AllReadyH.nil)
        refine step_app_reads elem_str ho hrl (by simp [Value.oneCell']) (by omega) (by unfold maxLen; omega) ?_
        intro v5 we ho5 hta hf5
        replace hb3 : ∀ g ∈ blk v5, w.heap.size + 2 ≤ g := fun g hg => by
          rcases hf5 g hg with h | h
          · have := hb3 g h; omega
          · have := ht.size; have := hC.lt; omega
        have hbx : ∀ g ∈ blk v5, g ≠ p ∧ g ≠ v ∧ g ∉ rb inp := fun g hg => by
          rcases hf5 g hg with h | h
          · have h2 := hb3' g h
            exact ⟨by omega, by omega, fun hm => by have := hinm g hm; omega⟩
          · exact ⟨by have := hR.1.lt; omega, by have := hV.lt; omega, fun hm => by have := hR.2.2.2.2.1 g hm; omega⟩
        have hby : ∀ g ∈ blk (Value.slice A3 2 c3), g ≠ p ∧ g ≠ v ∧ g ≠ w.heap.size ∧ g ≠ w.heap.size + 1 ∧ g ∉ rb inp := fun g hg => by
          have h2 := hb3' g hg
          exact ⟨by omega, by omega, by omega, by omega, fun hm => by have := hinm g hm; omega⟩
        replace hV := hV.touch hta (fun h => (hby _ h).2.1 rfl)
        replace hL := hL.touch hta (fun h => (hby _ h).2.2.1 rfl)
        replace hC := hC.touch hta (fun h => (hby _ h).2.2.2.1 rfl)
        replace hR := hR.touch hta (fun h => (hby _ h).1 rfl) (fun g hg h => (hby _ h).2.2.2.2 hg)
        replace ht := ht.step hta (fun g hg => .inr (by have := hb3' g hg; omega))
        clear hta cl cph hf5 ho hrl hby
        have cl := hL.cell 0
        have cph := (HN.out _ ht).phases.cell 1
        simp at cl cph
        have fl := hL.frozen 0
        obtain ⟨A5, c5, rfl⟩ := ho5.form
        refine hK.out _ _ cph (fun hS => ?_)
        clear hK K
        try simp only [Act.put, List.setIfInBounds_toArray, List.set_cons_zero, List.set_cons_succ, List.getElem_toArray, List.getElem_cons_succ, List.getElem_cons_zero]
        refine wpAnyH_ready (rs := [10]) (by kernel_rfl) (by simp) (AllReadyH.cons rfl (fun K hK => ?_) AllReadyH.nil)
        go_simp
        have hta := (Touch.refl [w.heap.size] we).setCell (p := ⟨w.heap.size, 0, none⟩) (.inl (by simp)) (.slice A5 3 c5)
        replace hL := hL.set_ 0 (.slice A5 3 c5)
        simp only [List.setIfInBounds_toArray, List.set_cons_zero] at hL
        replace hC := hC.touch hta (by simp)
        replace hV := hV.touch hta (by simp; omega)
        replace hR := hR.touch hta (by simpa using fun e => hn0p e.symm) (fun g hg => by have := hin0 g hg; simp; omega)
        replace ho5 := ho5.touch hta (fun b hb => by have := hb3 b hb; simp; omega)
        replace ht := ht.step hta (by simp)
        clear hta cl cph fl
        have cph := (HN.out _ ht).phases.cell 1
        simp at cph
        generalize we.setCell ⟨w.heap.size, 0, none⟩ (.slice A5 3 c5) = wf at *
        refine hK.out _ _ cph (fun hS => ?_)
        clear hK K
        try simp only [Act.put, List.setIfInBounds_toArray, List.set_cons_zero, List.set_cons_succ, List.getElem_toArray, List.getElem_cons_succ, List.getElem_cons_zero]
        refine wpAnyH_done (by kernel_rfl) ?_ _
        refine NoPanic.normal ?_
        have cv := hV.cell 0
        simp at cv
        clear cph hS
        go_wp2_with fail
        refine (rd_end p inp ex52 0 7 wf hR).mono ?_
        rintro r wg ⟨rfl, nd, hdr⟩
        have hta : Touch [] wf wg := by rw [hdr]; exact (Touch.refl [] wf).drewN nd
        replace hL := hL.touch hta (by simp)
        replace hC := hC.touch hta (by simp)
        replace ho5 := ho5.touch hta (fun _ _ => by simp)
        replace ht := ht.then0 hta
        clear hdr hta hV hR cv hbx
        rw [show rEnd ex52 0 7 = 0 from by decide]
        go_wp2_with fail
        refine (must_true _).mono ?_
        rintro r wg2 ⟨rfl, rfl⟩
        have cl := hL.cell 0
        have fl := hL.frozen 0
        have hc0 := hC.cell 0
        have fc := hC.frozen 0
        have lc := hC.lt
        simp at cl hc0
        go_wp2_with fail
        have htz : Touch [w.heap.size, w.heap.size + 1] wg2 ((wg2.setCell ⟨w.heap.size, 0, none⟩ (.slice A5 3 c5)).setCell ⟨w.heap.size + 1, 0, none⟩ (.int .i64 0)) := ((Touch.refl _ wg2).setCell (.inl (by simp)) _).setCell (.inl (by simp)) _
        have hLz := (hL.set_ 0 (.slice A5 3 c5)).far (p := ⟨w.heap.size + 1, 0, none⟩) (by show w.heap.size ≠ w.heap.size + 1; omega) (.int .i64 0)
        have hCz := (hC.far (p := ⟨w.heap.size, 0, none⟩) (by show w.heap.size + 1 ≠ w.heap.size; omega) (.slice A5 3 c5)).set_ 0 (.int .i64 0)
        simp only [List.setIfInBounds_toArray, List.set_cons_zero] at hLz hCz
        replace ho5 := ho5.touch htz (fun b hb => by have := hb3 b hb; simp; omega)
        replace ht := ht.step htz (by simp)
        clear htz cl fl hc0 fc
        generalize ((wg2.setCell ⟨w.heap.size, 0, none⟩ (.slice A5 3 c5)).setCell ⟨w.heap.size + 1, 0, none⟩ (.int .i64 0)) = wz at *
        have cl := hLz.cell 0
        have hc0 := hCz.cell 0
        simp at cl hc0
        refine leaves_cons (f := 38) (args := #[.pointer (some ⟨w.heap.size, 0, none⟩), .pointer (some ⟨w.heap.size + 1, 0, none⟩)]) (by simp) (by simp [go_sem]) ?_
        refine (rec_idle _ _ wz).mono ?_
        rintro e u' w4 ⟨rfl, rfl, rfl⟩
        have HO := Lib.hid ho5
        have HT := Lib.hid ht
        have HB := Lib.hid hb3
        clear ho5 ht hb3
        simp [Leaves, settle, results, Tryz.results15, go_sem, cl, hc0]
        exact ⟨HO.out, fun g hg => by have := HB.out g hg; omega, HT.out⟩
      · clear cph
        go_simp
        have hta := (Touch.refl [] wa).alloc (.cells #[.string ⟨#[110, 101, 120, 116]⟩, .string ⟨#[102, 111, 114, 119, 97, 114, 100]⟩] 9)
        have HW := Lib.hid (words_any wa.heap.size 0 2 [[110, 101, 120, 116], [102, 111, 114, 119, 97, 114, 100]] (wa.alloc (.cells #[.string ⟨#[110, 101, 120, 116]⟩, .string ⟨#[102, 111, 114, 119, 97, 114, 100]⟩] 9)) (fun j y hy => news_cell wa 9 [[110, 101, 120, 116], [102, 111, 114, 119, 97, 114, 100]] j y hy) (by simp) (by simp) (by simp) (by decide))
        replace hV := hV.touch hta (by simp)
        replace hL := hL.touch hta (by simp)
        replace hC := hC.touch hta (by simp)
        replace hR := hR.touch hta (by simp) (fun _ _ => by simp)
        replace ho := ho.touch hta (fun _ _ => by simp)
        replace ht := ht.step hta (by simp)
        clear hta cl
        have cl := hL.cell 0
        have cph := (HN.out _ ht).phases.cell 1
        simp at cl cph
        generalize (wa.alloc (.cells #[.string ⟨#[110, 101, 120, 116]⟩, .string ⟨#[102, 111, 114, 119, 97, 114, 100]⟩] 9)) = wb at *
        refine hK.out _ _ cph (fun hS => ?_)
        clear hK K
        try simp only [Act.put, List.setIfInBounds_toArray, List.set_cons_zero, List.set_cons_succ, List.getElem_toArray, List.getElem_cons_succ, List.getElem_cons_zero]
        refine wpAnyH_ready (rs := [0, 7]) (by kernel_rfl) (by simp) (AllReadyH.cons rfl (fun K hK => ?_) (AllReadyH.cons rfl (fun K hK => ?_) AllReadyH.nil))
        · go_simp
          refine hK.out _ _ cph (fun hS => ?_)
          clear hK K
          try simp only [Act.put, List.setIfInBounds_toArray, List.set_cons_zero, List.set_cons_succ, List.getElem_toArray, List.getElem_cons_succ, List.getElem_cons_zero]
          refine wpAnyH_ready (rs := [7]) (by kernel_rfl) (by simp) (AllReadyH.cons rfl (fun K hK => ?_) AllReadyH.nil)
          go_simp
          refine HW.out.mono ?_
          rintro r wc ⟨rfl, hta⟩
          rw [show Lib.join [[110, 101, 120, 116], [102, 111, 114, 119, 97, 114, 100]] [32] = [110, 101, 120, 116, 32, 102, 111, 114, 119, 97, 114, 100] from by decide]
          clear HW
          replace hV := hV.touch hta (by simp)
          replace hL := hL.touch hta (by simp)
          replace hC := hC.touch hta (by simp)
          replace hR := hR.touch hta (by simp) (fun _ _ => by simp)
          replace ho := ho.touch hta (fun _ _ => by simp)
          replace ht := ht.step hta (by simp)
          clear hta cl cph
          have cl := hL.cell 0
          have cph := (HN.out _ ht).phases.cell 1
          simp at cl cph
          go_wp2_with fail
          refine hK.out _ _ cph (fun hS => ?_)
          clear hK K
          try simp only [Act.put, List.setIfInBounds_toArray, List.set_cons_zero, List.set_cons_succ, List.getElem_toArray, List.getElem_cons_succ, List.getElem_cons_zero]
          refine wpAnyH_ready (rs := [8]) (by kernel_rfl) (by simp) (AllReadyH.cons rfl (fun K hK => ?_) AllReadyH.nil)
          go_simp
          have hta := (Touch.refl [] wc).alloc (.cells #[.string ⟨#[110, 101, 120, 116, 32, 102, 111, 114, 119, 97, 114, 100]⟩] 9)
          have hrl := (ownLit wc _ rfl 9 1 1 [.string ⟨#[110, 101, 120, 116, 32, 102, 111, 114, 119, 97, 114, 100]⟩] rfl (by simp [maxLen])).reads
          replace hV := hV.touch hta (by simp)
          replace hL := hL.touch hta (by simp)
          replace hC := hC.touch hta (by simp)
          replace hR := hR.touch hta (by simp) (fun _ _ => by simp)
          replace ho := ho.touch hta (fun _ _ => by simp)
          replace ht := ht.step hta (by simp)
          clear hta cl cph
          have cl := hL.cell 0
          have cph := (HN.out _ ht).phases.cell 1
          simp at cl cph
          generalize (wc.alloc (.cells #[.string ⟨#[110, 101, 120, 116, 32, 102, 111, 114, 119, 97, 114, 100]⟩] 9)) = wd at *
          refine hK.out _ _ cph (fun hS => ?_)
          clear hK K
          try simp only [Act.put, List.setIfInBounds_toArray, List.set_cons_zero, List.set_cons_succ, List.getElem_toArray, List.getElem_cons_succ, List.getElem_cons_zero]
          refine wpAnyH_ready (rs := [9]) (by kernel_rfl) (by simp) (AllReadyH.cons rfl (fun K hK => ?_) AllReadyH.nil)
          refine step_app_reads elem_str ho hrl (by simp [Value.oneCell']) (by omega) (by unfold maxLen; omega) ?_
          intro v5 we ho5 hta hf5
          replace hb3 : ∀ g ∈ blk v5, w.heap.size + 2 ≤ g := fun g hg => by
            rcases hf5 g hg with h | h
            · have := hb3 g h; omega
            · have := ht.size; have := hC.lt; omega
          have hbx : ∀ g ∈ blk v5, g ≠ p ∧ g ≠ v ∧ g ∉ rb inp := fun g hg => by
            rcases hf5 g hg with h | h
            · have h2 := hb3' g h
              exact ⟨by omega, by omega, fun hm => by have := hinm g hm; omega⟩
            · exact ⟨by have := hR.1.lt; omega, by have := hV.lt; omega, fun hm => by have := hR.2.2.2.2.1 g hm; omega⟩
          have hby : ∀ g ∈ blk (Value.slice A3 2 c3), g ≠ p ∧ g ≠ v ∧ g ≠ w.heap.size ∧ g ≠ w.heap.size + 1 ∧ g ∉ rb inp := fun g hg => by
            have h2 := hb3' g hg
            exact ⟨by omega, by omega, by omega, by omega, fun hm => by have := hinm g hm; omega⟩
          replace hV := hV.touch hta (fun h => (hby _ h).2.1 rfl)
          replace hL := hL.touch hta (fun h => (hby _ h).2.2.1 rfl)
          replace hC := hC.touch hta (fun h => (hby _ h).2.2.2.1 rfl)
          replace hR := hR.touch hta (fun h => (hby _ h).1 rfl) (fun g hg h => (hby _ h).2.2.2.2 hg)
          replace ht := ht.step hta (fun g hg => .inr (by have := hb3' g hg; omega))
          clear hta cl cph hf5 ho hrl hby
          have cl := hL.cell 0
          have cph := (HN.out _ ht).phases.cell 1
          simp at cl cph
          have fl := hL.frozen 0
          obtain ⟨A5, c5, rfl⟩ := ho5.form
          refine hK.out _ _ cph (fun hS => ?_)
          clear hK K
          try simp only [Act.put, List.setIfInBounds_toArray, List.set_cons_zero, List.set_cons_succ, List.getElem_toArray, List.getElem_cons_succ, List.getElem_cons_zero]
          refine wpAnyH_ready (rs := [10]) (by kernel_rfl) (by simp) (AllReadyH.cons rfl (fun K hK => ?_) AllReadyH.nil)
          go_simp
          have hta := (Touch.refl [w.heap.size] we).setCell (p := ⟨w.heap.size, 0, none⟩) (.inl (by simp)) (.slice A5 3 c5)
          replace hL := hL.set_ 0 (.slice A5 3 c5)
          simp only [List.setIfInBounds_toArray, List.set_cons_zero] at hL
          replace hC := hC.touch hta (by simp)
          replace hV := hV.touch hta (by simp; omega)
          replace hR := hR.touch hta (by simpa using fun e => hn0p e.symm) (fun g hg => by have := hin0 g hg; simp; omega)
          replace ho5 := ho5.touch hta (fun b hb => by have := hb3 b hb; simp; omega)
          replace ht := ht.step hta (by simp)
          clear hta cl cph fl
          have cph := (HN.out _ ht).phases.cell 1
          simp at cph
          generalize we.setCell ⟨w.heap.size, 0, none⟩ (.slice A5 3 c5) = wf at *
          refine hK.out _ _ cph (fun hS => ?_)
          clear hK K
          try simp only [Act.put, List.setIfInBounds_toArray, List.set_cons_zero, List.set_cons_succ, List.getElem_toArray, List.getElem_cons_succ, List.getElem_cons_zero]
          refine wpAnyH_done (by kernel_rfl) ?_ _
          refine NoPanic.normal ?_
          have cv := hV.cell 0
          simp at cv
          clear cph hS
          go_wp2_with fail
          refine (rd_end p inp ex52 0 7 wf hR).mono ?_
          rintro r wg ⟨rfl, nd, hdr⟩
          have hta : Touch [] wf wg := by rw [hdr]; exact (Touch.refl [] wf).drewN nd
          replace hL := hL.touch hta (by simp)
          replace hC := hC.touch hta (by simp)
          replace ho5 := ho5.touch hta (fun _ _ => by simp)
          replace ht := ht.then0 hta
          clear hdr hta hV hR cv hbx
          rw [show rEnd ex52 0 7 = 0 from by decide]
          go_wp2_with fail
          refine (must_true _).mono ?_
          rintro r wg2 ⟨rfl, rfl⟩
          have cl := hL.cell 0
          have fl := hL.frozen 0
          have hc0 := hC.cell 0
          have fc := hC.frozen 0
          have lc := hC.lt
          simp at cl hc0
          go_wp2_with fail
          have htz : Touch [w.heap.size, w.heap.size + 1] wg2 ((wg2.setCell ⟨w.heap.size, 0, none⟩ (.slice A5 3 c5)).setCell ⟨w.heap.size + 1, 0, none⟩ (.int .i64 0)) := ((Touch.refl _ wg2).setCell (.inl (by simp)) _).setCell (.inl (by simp)) _
          have hLz := (hL.set_ 0 (.slice A5 3 c5)).far (p := ⟨w.heap.size + 1, 0, none⟩) (by show w.heap.size ≠ w.heap.size + 1; omega) (.int .i64 0)
          have hCz := (hC.far (p := ⟨w.heap.size, 0, none⟩) (by show w.heap.size + 1 ≠ w.heap.size; omega) (.slice A5 3 c5)).set_ 0 (.int .i64 0)
          simp only [List.setIfInBounds_toArray, List.set_cons_zero] at hLz hCz
          replace ho5 := ho5.touch htz (fun b hb => by have := hb3 b hb; simp; omega)
          replace ht := ht.step htz (by simp)
          clear htz cl fl hc0 fc
          generalize ((wg2.setCell ⟨w.heap.size, 0, none⟩ (.slice A5 3 c5)).setCell ⟨w.heap.size + 1, 0, none⟩ (.int .i64 0)) = wz at *
          have cl := hLz.cell 0
          have hc0 := hCz.cell 0
          simp at cl hc0
          refine leaves_cons (f := 38) (args := #[.pointer (some ⟨w.heap.size, 0, none⟩), .pointer (some ⟨w.heap.size + 1, 0, none⟩)]) (by simp) (by simp [go_sem]) ?_
          refine (rec_idle _ _ wz).mono ?_
          rintro e u' w4 ⟨rfl, rfl, rfl⟩
          have HO := Lib.hid ho5
          have HT := Lib.hid ht
          have HB := Lib.hid hb3
          clear ho5 ht hb3
          simp [Leaves, settle, results, Tryz.results15, go_sem, cl, hc0]
          exact ⟨HO.out, fun g hg => by have := HB.out g hg; omega, HT.out⟩
        · go_simp
          refine HW.out.mono ?_
          rintro r wc ⟨rfl, hta⟩
          rw [show Lib.join [[110, 101, 120, 116], [102, 111, 114, 119, 97, 114, 100]] [32] = [110, 101, 120, 116, 32, 102, 111, 114, 119, 97, 114, 100] from by decide]
          clear HW
          replace hV := hV.touch hta (by simp)
          replace hL := hL.touch hta (by simp)
          replace hC := hC.touch hta (by simp)
          replace hR := hR.touch hta (by simp) (fun _ _ => by simp)
          replace ho := ho.touch hta (fun _ _ => by simp)
          replace ht := ht.step hta (by simp)
          clear hta cl cph
          have cl := hL.cell 0
          have cph := (HN.out _ ht).phases.cell 1
          simp at cl cph
          go_wp2_with fail
          refine hK.out _ _ cph (fun hS => ?_)
          clear hK K
          try simp only [Act.put, List.setIfInBounds_toArray, List.set_cons_zero, List.set_cons_succ, List.getElem_toArray, List.getElem_cons_succ, List.getElem_cons_zero]
          refine wpAnyH_ready (rs := [0, 8]) (by kernel_rfl) (by simp) (AllReadyH.cons rfl (fun K hK => ?_) (AllReadyH.cons rfl (fun K hK => ?_) AllReadyH.nil))
          · go_simp
            refine hK.out _ _ cph (fun hS => ?_)
            clear hK K
            try simp only [Act.put, List.setIfInBounds_toArray, List.set_cons_zero, List.set_cons_succ, List.getElem_toArray, List.getElem_cons_succ, List.getElem_cons_zero]
            refine wpAnyH_ready (rs := [8]) (by kernel_rfl) (by simp) (AllReadyH.cons rfl (fun K hK => ?_) AllReadyH.nil)
            go_simp
            have hta := (Touch.refl [] wc).alloc (.cells #[.string ⟨#[110, 101, 120, 116, 32, 102, 111, 114, 119, 97, 114, 100]⟩] 9)
            have hrl := (ownLit wc _ rfl 9 1 1 [.string ⟨#[110, 101, 120, 116, 32, 102, 111, 114, 119, 97, 114, 100]⟩] rfl (by simp [maxLen])).reads
            replace hV := hV.touch hta (by simp)
            replace hL := hL.touch hta (by simp)
            replace hC := hC.touch hta (by simp)
            replace hR := hR.touch hta (by simp) (fun _ _ => by simp)
            replace ho := ho.touch hta (fun _ _ => by simp)
            replace ht := ht.step hta (by simp)
            clear hta cl cph
            have cl := hL.cell 0
            have cph := (HN.out _ ht).phases.cell 1
            simp at cl cph
            generalize (wc.alloc (.cells #[.string ⟨#[110, 101, 120, 116, 32, 102, 111, 114, 119, 97, 114, 100]⟩] 9)) = wd at *
            refine hK.out _ _ cph (fun hS => ?_)
            clear hK K
            try simp only [Act.put, List.setIfInBounds_toArray, List.set_cons_zero, List.set_cons_succ, List.getElem_toArray, List.getElem_cons_succ, List.getElem_cons_zero]
            refine wpAnyH_ready (rs := [9]) (by kernel_rfl) (by simp) (AllReadyH.cons rfl (fun K hK => ?_) AllReadyH.nil)
            refine step_app_reads elem_str ho hrl (by simp [Value.oneCell']) (by omega) (by unfold maxLen; omega) ?_
            intro v5 we ho5 hta hf5
            replace hb3 : ∀ g ∈ blk v5, w.heap.size + 2 ≤ g := fun g hg => by
              rcases hf5 g hg with h | h
              · have := hb3 g h; omega
              · have := ht.size; have := hC.lt; omega
            have hbx : ∀ g ∈ blk v5, g ≠ p ∧ g ≠ v ∧ g ∉ rb inp := fun g hg => by
              rcases hf5 g hg with h | h
              · have h2 := hb3' g h
                exact ⟨by omega, by omega, fun hm => by have := hinm g hm; omega⟩
              · exact ⟨by have := hR.1.lt; omega, by have := hV.lt; omega, fun hm => by have := hR.2.2.2.2.1 g hm; omega⟩
            have hby : ∀ g ∈ blk (Value.slice A3 2 c3), g ≠ p ∧ g ≠ v ∧ g ≠ w.heap.size ∧ g ≠ w.heap.size + 1 ∧ g ∉ rb inp := fun g hg => by
              have h2 := hb3' g hg
              exact ⟨by omega, by omega, by omega, by omega, fun hm => by have := hinm g hm; omega⟩
            replace hV := hV.touch hta (fun h => (hby _ h).2.1 rfl)
            replace hL := hL.touch hta (fun h => (hby _ h).2.2.1 rfl)
            replace hC := hC.touch hta (fun h => (hby _ h).2.2.2.1 rfl)
            replace hR := hR.touch hta (fun h => (hby _ h).1 rfl) (fun g hg h => (hby _ h).2.2.2.2 hg)
            replace ht := ht.step hta (fun g hg => .inr (by have := hb3' g hg; omega))
            clear hta cl cph hf5 ho hrl hby
            have cl := hL.cell 0
            have cph := (HN.out _ ht).phases.cell 1
            simp at cl cph
            have fl := hL.frozen 0
            obtain ⟨A5, c5, rfl⟩ := ho5.form
            refine hK.out _ _ cph (fun hS => ?_)
            clear hK K
            try simp only [Act.put, List.setIfInBounds_toArray, List.set_cons_zero, List.set_cons_succ, List.getElem_toArray, List.getElem_cons_succ, List.getElem_cons_zero]
            refine wpAnyH_ready (rs := [10]) (by kernel_rfl) (by simp) (AllReadyH.cons rfl (fun K hK => ?_) AllReadyH.nil)
            go_simp
            have hta := (Touch.refl [w.heap.size] we).setCell (p := ⟨w.heap.size, 0, none⟩) (.inl (by simp)) (.slice A5 3 c5)
            replace hL := hL.set_ 0 (.slice A5 3 c5)
            simp only [List.setIfInBounds_toArray, List.set_cons_zero] at hL
            replace hC := hC.touch hta (by simp)
            replace hV := hV.touch hta (by simp; omega)
            replace hR := hR.touch hta (by simpa using fun e => hn0p e.symm) (fun g hg => by have := hin0 g hg; simp; omega)
            replace ho5 := ho5.touch hta (fun b hb => by have := hb3 b hb; simp; omega)
            replace ht := ht.step hta (by simp)
            clear hta cl cph fl
            have cph := (HN.out _ ht).phases.cell 1
            simp at cph
            generalize we.setCell ⟨w.heap.size, 0, none⟩ (.slice A5 3 c5) = wf at *
            refine hK.out _ _ cph (fun hS => ?_)
            clear hK K
            try simp only [Act.put, List.setIfInBounds_toArray, List.set_cons_zero, List.set_cons_succ, List.getElem_toArray, List.getElem_cons_succ, List.getElem_cons_zero]
            refine wpAnyH_done (by kernel_rfl) ?_ _
            refine NoPanic.normal ?_
            have cv := hV.cell 0
            simp at cv
            clear cph hS
            go_wp2_with fail
            refine (rd_end p inp ex52 0 7 wf hR).mono ?_
            rintro r wg ⟨rfl, nd, hdr⟩
            have hta : Touch [] wf wg := by rw [hdr]; exact (Touch.refl [] wf).drewN nd
            replace hL := hL.touch hta (by simp)
            replace hC := hC.touch hta (by simp)
            replace ho5 := ho5.touch hta (fun _ _ => by simp)
            replace ht := ht.then0 hta
            clear hdr hta hV hR cv hbx
            rw [show rEnd ex52 0 7 = 0 from by decide]
            go_wp2_with fail
            refine (must_true _).mono ?_
            rintro r wg2 ⟨rfl, rfl⟩
            have cl := hL.cell 0
            have fl := hL.frozen 0
            have hc0 := hC.cell 0
            have fc := hC.frozen 0
            have lc := hC.lt
            simp at cl hc0
            go_wp2_with fail
            have htz : Touch [w.heap.size, w.heap.size + 1] wg2 ((wg2.setCell ⟨w.heap.size, 0, none⟩ (.slice A5 3 c5)).setCell ⟨w.heap.size + 1, 0, none⟩ (.int .i64 0)) := ((Touch.refl _ wg2).setCell (.inl (by simp)) _).setCell (.inl (by simp)) _
            have hLz := (hL.set_ 0 (.slice A5 3 c5)).far (p := ⟨w.heap.size + 1, 0, none⟩) (by show w.heap.size ≠ w.heap.size + 1; omega) (.int .i64 0)
            have hCz := (hC.far (p := ⟨w.heap.size, 0, none⟩) (by show w.heap.size + 1 ≠ w.heap.size; omega) (.slice A5 3 c5)).set_ 0 (.int .i64 0)
            simp only [List.setIfInBounds_toArray, List.set_cons_zero] at hLz hCz
            replace ho5 := ho5.touch htz (fun b hb => by have := hb3 b hb; simp; omega)
            replace ht := ht.step htz (by simp)
            clear htz cl fl hc0 fc
            generalize ((wg2.setCell ⟨w.heap.size, 0, none⟩ (.slice A5 3 c5)).setCell ⟨w.heap.size + 1, 0, none⟩ (.int .i64 0)) = wz at *
            have cl := hLz.cell 0
            have hc0 := hCz.cell 0
            simp at cl hc0
            refine leaves_cons (f := 38) (args := #[.pointer (some ⟨w.heap.size, 0, none⟩), .pointer (some ⟨w.heap.size + 1, 0, none⟩)]) (by simp) (by simp [go_sem]) ?_
            refine (rec_idle _ _ wz).mono ?_
            rintro e u' w4 ⟨rfl, rfl, rfl⟩
            have HO := Lib.hid ho5
            have HT := Lib.hid ht
            have HB := Lib.hid hb3
            clear ho5 ht hb3
            simp [Leaves, settle, results, Tryz.results15, go_sem, cl, hc0]
            exact ⟨HO.out, fun g hg => by have := HB.out g hg; omega, HT.out⟩
          · go_simp
            have hta := (Touch.refl [] wc).alloc (.cells #[.string ⟨#[110, 101, 120, 116, 32, 102, 111, 114, 119, 97, 114, 100]⟩] 9)
            have hrl := (ownLit wc _ rfl 9 1 1 [.string ⟨#[110, 101, 120, 116, 32, 102, 111, 114, 119, 97, 114, 100]⟩] rfl (by simp [maxLen])).reads
            replace hV := hV.touch hta (by simp)
            replace hL := hL.touch hta (by simp)
            replace hC := hC.touch hta (by simp)
            replace hR := hR.touch hta (by simp) (fun _ _ => by simp)
            replace ho := ho.touch hta (fun _ _ => by simp)
            replace ht := ht.step hta (by simp)
            clear hta cl cph
            have cl := hL.cell 0
            have cph := (HN.out _ ht).phases.cell 1
            simp at cl cph
            generalize (wc.alloc (.cells #[.string ⟨#[110, 101, 120, 116, 32, 102, 111, 114, 119, 97, 114, 100]⟩] 9)) = wd at *
            refine hK.out _ _ cph (fun hS => ?_)
            clear hK K
            try simp only [Act.put, List.setIfInBounds_toArray, List.set_cons_zero, List.set_cons_succ, List.getElem_toArray, List.getElem_cons_succ, List.getElem_cons_zero]
            refine wpAnyH_ready (rs := [0]) (by kernel_rfl) (by simp) (AllReadyH.cons rfl (fun K hK => ?_) AllReadyH.nil)
            go_simp
            refine hK.out _ _ cph (fun hS => ?_)
            clear hK K
            try simp only [Act.put, List.setIfInBounds_toArray, List.set_cons_zero, List.set_cons_succ, List.getElem_toArray, List.getElem_cons_succ, List.getElem_cons_zero]
            refine wpAnyH_ready (rs := [9]) (by kernel_rfl) (by simp) (AllReadyH.cons rfl (fun K hK => ?_) AllReadyH.nil)
            refine step_app_reads elem_str ho hrl (by simp [Value.oneCell']) (by omega) (by unfold maxLen; omega) ?_
            intro v5 we ho5 hta hf5
            replace hb3 : ∀ g ∈ blk v5, w.heap.size + 2 ≤ g := fun g hg => by
              rcases hf5 g hg with h | h
              · have := hb3 g h; omega
              · have := ht.size; have := hC.lt; omega
            have hbx : ∀ g ∈ blk v5, g ≠ p ∧ g ≠ v ∧ g ∉ rb inp := fun g hg => by
              rcases hf5 g hg with h | h
              · have h2 := hb3' g h
                exact ⟨by omega, by omega, fun hm => by have := hinm g hm; omega⟩
              · exact ⟨by have := hR.1.lt; omega, by have := hV.lt; omega, fun hm => by have := hR.2.2.2.2.1 g hm; omega⟩
            have hby : ∀ g ∈ blk (Value.slice A3 2 c3), g ≠ p ∧ g ≠ v ∧ g ≠ w.heap.size ∧ g ≠ w.heap.size + 1 ∧ g ∉ rb inp := fun g hg => by
              have h2 := hb3' g hg
              exact ⟨by omega, by omega, by omega, by omega, fun hm => by have := hinm g hm; omega⟩
            replace hV := hV.touch hta (fun h => (hby _ h).2.1 rfl)
            replace hL := hL.touch hta (fun h => (hby _ h).2.2.1 rfl)
            replace hC := hC.touch hta (fun h => (hby _ h).2.2.2.1 rfl)
            replace hR := hR.touch hta (fun h => (hby _ h).1 rfl) (fun g hg h => (hby _ h).2.2.2.2 hg)
            replace ht := ht.step hta (fun g hg => .inr (by have := hb3' g hg; omega))
            clear hta cl cph hf5 ho hrl hby
            have cl := hL.cell 0
            have cph := (HN.out _ ht).phases.cell 1
            simp at cl cph
            have fl := hL.frozen 0
            obtain ⟨A5, c5, rfl⟩ := ho5.form
            refine hK.out _ _ cph (fun hS => ?_)
            clear hK K
            try simp only [Act.put, List.setIfInBounds_toArray, List.set_cons_zero, List.set_cons_succ, List.getElem_toArray, List.getElem_cons_succ, List.getElem_cons_zero]
            refine wpAnyH_ready (rs := [10]) (by kernel_rfl) (by simp) (AllReadyH.cons rfl (fun K hK => ?_) AllReadyH.nil)
            go_simp
            have hta := (Touch.refl [w.heap.size] we).setCell (p := ⟨w.heap.size, 0, none⟩) (.inl (by simp)) (.slice A5 3 c5)
            replace hL := hL.set_ 0 (.slice A5 3 c5)
            simp only [List.setIfInBounds_toArray, List.set_cons_zero] at hL
            replace hC := hC.touch hta (by simp)
            replace hV := hV.touch hta (by simp; omega)
            replace hR := hR.touch hta (by simpa using fun e => hn0p e.symm) (fun g hg => by have := hin0 g hg; simp; omega)
            replace ho5 := ho5.touch hta (fun b hb => by have := hb3 b hb; simp; omega)
            replace ht := ht.step hta (by simp)
            clear hta cl cph fl
            have cph := (HN.out _ ht).phases.cell 1
            simp at cph
            generalize we.setCell ⟨w.heap.size, 0, none⟩ (.slice A5 3 c5) = wf at *
            refine hK.out _ _ cph (fun hS => ?_)
            clear hK K
            try simp only [Act.put, List.setIfInBounds_toArray, List.set_cons_zero, List.set_cons_succ, List.getElem_toArray, List.getElem_cons_succ, List.getElem_cons_zero]
            refine wpAnyH_done (by kernel_rfl) ?_ _
            refine NoPanic.normal ?_
            have cv := hV.cell 0
            simp at cv
            clear cph hS
            go_wp2_with fail
            refine (rd_end p inp ex52 0 7 wf hR).mono ?_
            rintro r wg ⟨rfl, nd, hdr⟩
            have hta : Touch [] wf wg := by rw [hdr]; exact (Touch.refl [] wf).drewN nd
            replace hL := hL.touch hta (by simp)
            replace hC := hC.touch hta (by simp)
            replace ho5 := ho5.touch hta (fun _ _ => by simp)
            replace ht := ht.then0 hta
            clear hdr hta hV hR cv hbx
            rw [show rEnd ex52 0 7 = 0 from by decide]
            go_wp2_with fail
            refine (must_true _).mono ?_
            rintro r wg2 ⟨rfl, rfl⟩
            have cl := hL.cell 0
            have fl := hL.frozen 0
            have hc0 := hC.cell 0
            have fc := hC.frozen 0
            have lc := hC.lt
            simp at cl hc0
            go_wp2_with fail
            have htz : Touch [w.heap.size, w.heap.size + 1] wg2 ((wg2.setCell ⟨w.heap.size, 0, none⟩ (.slice A5 3 c5)).setCell ⟨w.heap.size + 1, 0, none⟩ (.int .i64 0)) := ((Touch.refl _ wg2).setCell (.inl (by simp)) _).setCell (.inl (by simp)) _
            have hLz := (hL.set_ 0 (.slice A5 3 c5)).far (p := ⟨w.heap.size + 1, 0, none⟩) (by show w.heap.size ≠ w.heap.size + 1; omega) (.int .i64 0)
            have hCz := (hC.far (p := ⟨w.heap.size, 0, none⟩) (by show w.heap.size + 1 ≠ w.heap.size; omega) (.slice A5 3 c5)).set_ 0 (.int .i64 0)
            simp only [List.setIfInBounds_toArray, List.set_cons_zero] at hLz hCz
            replace ho5 := ho5.touch htz (fun b hb => by have := hb3 b hb; simp; omega)
            replace ht := ht.step htz (by simp)
            clear htz cl fl hc0 fc
            generalize ((wg2.setCell ⟨w.heap.size, 0, none⟩ (.slice A5 3 c5)).setCell ⟨w.heap.size + 1, 0, none⟩ (.int .i64 0)) = wz at *
            have cl := hLz.cell 0
            have hc0 := hCz.cell 0
            simp at cl hc0
            refine leaves_cons (f := 38) (args := #[.pointer (some ⟨w.heap.size, 0, none⟩), .pointer (some ⟨w.heap.size + 1, 0, none⟩)]) (by simp) (by simp [go_sem]) ?_
            refine (rec_idle _ _ wz).mono ?_
            rintro e u' w4 ⟨rfl, rfl, rfl⟩
            have HO := Lib.hid ho5
            have HT := Lib.hid ht
            have HB := Lib.hid hb3
            clear ho5 ht hb3
            simp [Leaves, settle, results, Tryz.results15, go_sem, cl, hc0]
            exact ⟨HO.out, fun g hg => by have := HB.out g hg; omega, HT.out⟩
  · go_simp
    refine (events_known v p inp _ hR8 (hV8.touch ((Touch.refl [] w8).drew) (by simp)) hvp (HN.out _ ht8.drew) h6p).mono ?_
    rintro r w9 ⟨u, rfl, hO9, hf9, hR9, ht⟩
    have ht89 : Touch [p] w8 w9 := ⟨ht.os, ht.tape, ht.output, ht.size, ht.block⟩
    have ht9 := ht8.step ht89 (by simp; omega)
    have hL9 := hL8.touch ht89 (by simpa using hn0p)
    have hC9 := hC8.touch ht89 (by simpa using hn1p)
    have hV9 := hV8.touch ht89 (by simpa using hvp)
    have hS9 := hO8.touch ht89 (by simp [blk]; omega)
    have hf9 : ∀ g ∈ blk u, w8.heap.size ≤ g := hf9
    obtain ⟨A9, c9, rfl⟩ := hO9.form
    clear ht hL8 hC8 hV8 hO8 ht8 hL7 hC7 hV7 hO7 ht7 hR8 hR7 cl cv
    have cv := hV9.cell 0
    have cl := hL9.cell 0
    simp at cv cl
    go_wp2_with fail
    refine hK.out _ _ ?_ (fun _ => ?_)
    · exact cv
    clear hK K
    try simp only [Act.put, List.setIfInBounds_toArray, List.set_cons_zero, List.set_cons_succ, List.getElem_toArray, List.getElem_cons_succ, List.getElem_cons_zero]
    refine wpAnyH_ready (rs := [0]) (by kernel_rfl) (by simp) (AllReadyH.cons rfl (fun K hK => ?_) AllReadyH.nil)
    go_simp
    refine hK.out _ _ ?_ (fun _ => ?_)
    · exact cv
    clear hK K
    try simp only [Act.put, List.setIfInBounds_toArray, List.set_cons_zero, List.set_cons_succ, List.getElem_toArray, List.getElem_cons_succ, List.getElem_cons_zero]
    refine wpAnyH_ready (rs := [4]) (by kernel_rfl) (by simp) (AllReadyH.cons rfl (fun K hK => ?_) AllReadyH.nil)
    refine step_app_reads elem_str hS9 hO9.reads (by simp [Value.oneCell']) (by omega) (by unfold maxLen; omega) ?_
    intro v3 w10 ho3 ht3 hf3
    have hL10 := hL9.touch ht3 (by simp [blk]; omega)
    have hC10 := hC9.touch ht3 (by simp [blk]; omega)
    have hV10 := hV9.touch ht3 (by simp [blk]; omega)
    have hR10 := hR9.touch ht3 (by simp [blk]; omega) (fun g hg => by simp [blk]; have := hinm g hg; omega)
    have ht10 := ht9.step ht3 (by simp [blk]; omega)
    have hb3 : ∀ g ∈ blk v3, m6 ≤ g := fun g hg => by
      rcases hf3 g hg with h | h
      · simp [blk] at h; omega
      · have := ht9.size; have := ht89.size; omega
    obtain ⟨A3, c3, rfl⟩ := ho3.form
    have cl := hL10.cell 0
    have fl := hL10.frozen 0
    have cv := hV10.cell 0
    simp at cl cv
    refine hK.out _ _ ?_ (fun _ => ?_)
    · exact cv
    clear hK K
    try simp only [Act.put, List.setIfInBounds_toArray, List.set_cons_zero, List.set_cons_succ, List.getElem_toArray, List.getElem_cons_succ, List.getElem_cons_zero]
    refine wpAnyH_ready (rs := [5]) (by kernel_rfl) (by simp) (AllReadyH.cons rfl (fun K hK => ?_) AllReadyH.nil)
    go_simp
    refine hK.out _ _ ?_ (fun _ => ?_)
    · have := (hV10.far (p := ⟨w.heap.size, 0, none⟩) (by show v ≠ w.heap.size; omega) (.slice A3 2 c3)).cell 0
      simpa using this
    clear hK K
    try simp only [Act.put, List.setIfInBounds_toArray, List.set_cons_zero, List.set_cons_succ, List.getElem_toArray, List.getElem_cons_succ, List.getElem_cons_zero]
    refine wpAnyH_done (by kernel_rfl) ?_ _
    refine NoPanic.normal ?_
    have hS10 := (Touch.refl [w.heap.size] w10).setCell (p := ⟨w.heap.size, 0, none⟩) (.inl (by simp)) (.slice A3 2 c3)
    have hL11 := hL10.set_ 0 (.slice A3 2 c3)
    simp only [List.setIfInBounds_toArray, List.set_cons_zero] at hL11
    have hC11 := hC10.touch hS10 (by simp)
    have hV11 := hV10.touch hS10 (by simp; omega)
    have hR11 := hR10.touch hS10 (by simpa using fun e => hn0p e.symm) (fun g hg => by have := hin0 g hg; simp; omega)
    have ho11 := ho3.touch hS10 (fun b hb => by have := hb3 b hb; simp; omega)
    have ht11 := ht10.step hS10 (by simp)
    clear hS10 hL10 hC10 hV10 hR10 ht10 ho3 ht3 hf3 hL9 hC9 hV9 hR9 ht9 hS9 hO9 hf9 ht89 cl fl cv
    generalize w10.setCell ⟨w.heap.size, 0, none⟩ (.slice A3 2 c3) = w11 at *
    go_wp2_with fail
    have hV := hV11.drew
    have hL := hL11.drew
    have hC := hC11.drew
    have hR := hR11.drewN 1
    have ho := ho11.touch ((Touch.refl [] w11).drew) (fun _ _ => by simp)
    have ht := ht11.drew
    have hb3' := hb3
    have hwr : IntKind.i64.wrap 1 = 1 := by decide
    clear hV11 hL11 hC11 hR11 ho11 ht11
    have cl := hL.cell 0
    have cph := (HN.out _ ht).phases.cell 1
    simp at cl cph
    refine wp_region_noPanic ?_
    refine wp_region_held_drew (S := fun W => W.cell? ⟨0, 1, none⟩ = some (.string ⟨#[102, 111, 114, 119, 97, 114, 100]⟩)) (by kernel_rfl) cph (fun hS => ?_)
    refine wpAnyH_take (i := 1) (v := ?_) rfl (by kernel_rfl) (by kernel_rfl) (by kernel_rfl) (fun _ _ _ h => h) (Or.inl ⟨by rfl, ?_⟩) hS ?_
    rotate_left
    · (intro W hSW; go_simp <;> with_reducible rfl)
    simp only [Act.put, List.setIfInBounds_toArray, List.set_cons_zero, List.set_cons_succ, List.getElem_toArray, List.getElem_cons_succ, List.getElem_cons_zero]
    refine wpAnyH_ready (rs := [0, 2]) (by kernel_rfl) (by simp) (AllReadyH.cons rfl (fun K hK => ?_) (AllReadyH.cons rfl (fun K hK => ?_) AllReadyH.nil))
    · go_simp
      refine hK.out _ _ cph (fun hS => ?_)
      clear hK K
      try simp only [Act.put, List.setIfInBounds_toArray, List.set_cons_zero, List.set_cons_succ, List.getElem_toArray, List.getElem_cons_succ, List.getElem_cons_zero]
      refine wpAnyH_ready (rs := [2]) (by kernel_rfl) (by simp) (AllReadyH.cons rfl (fun K hK => ?_) AllReadyH.nil)
      go_simp
      refine (limited_ok 1 5 v p inp ex52 (0, 6) _ hR hV hvp 2 7 ex6 (by omega) (by omega)).mono ?_
      rintro r wa ⟨rfl, hR2, hta⟩
      replace hV := hV.touch hta (by simpa using hvp)
      replace hL := hL.touch hta (by simpa using hn0p)
      replace hC := hC.touch hta (by simpa using hn1p)
      replace ho := ho.touch hta (fun b hb => by have := hb3 b hb; simp; omega)
      replace ht := ht.step hta (by simp; omega)
      replace hR := hR2
      clear hR2 hta cl cph
      have cl := hL.cell 0
      have cph := (HN.out _ ht).phases.cell 1
      simp at cl cph
      go_wp2_with fail
      refine hK.out _ _ cph (fun hS => ?_)
      clear hK K
      try simp only [Act.put, List.setIfInBounds_toArray, List.set_cons_zero, List.set_cons_succ, List.getElem_toArray, List.getElem_cons_succ, List.getElem_cons_zero]
      refine wpAnyH_take (i := 3) (v := ?_) rfl (by kernel_rfl) (by kernel_rfl) (by kernel_rfl) (fun _ _ _ h => h) (Or.inl ⟨by rfl, ?_⟩) hS ?_
      rotate_left
      · (intro W hSW; go_simp <;> with_reducible rfl)
      simp only [Act.put, List.setIfInBounds_toArray, List.set_cons_zero, List.set_cons_succ, List.getElem_toArray, List.getElem_cons_succ, List.getElem_cons_zero]
      refine wpAnyH_take (i := 4) (v := ?_) rfl (by kernel_rfl) (by kernel_rfl) (by kernel_rfl) (fun _ _ _ h => h) (Or.inl ⟨by rfl, ?_⟩) hS ?_
      rotate_left
      · (intro W hSW; go_simp <;> with_reducible rfl)
      simp only [Act.put, List.setIfInBounds_toArray, List.set_cons_zero, List.set_cons_succ, List.getElem_toArray, List.getElem_cons_succ, List.getElem_cons_zero]
      refine wpAnyH_take (i := 5) (v := ?_) rfl (by kernel_rfl) (by kernel_rfl) (by kernel_rfl) (fun _ _ _ h => h) (Or.inl ⟨by rfl, ?_⟩) hS ?_
      rotate_left
      · (intro W hSW; go_simp <;> with_reducible rfl)
      simp only [Act.put, List.setIfInBounds_toArray, List.set_cons_zero, List.set_cons_succ, List.getElem_toArray, List.getElem_cons_succ, List.getElem_cons_zero]
      refine wpAnyH_ready (rs := [6]) (by kernel_rfl) (by simp) (AllReadyH.cons rfl (fun K hK => ?_) AllReadyH.nil)
      clear cph
      go_simp
      have hta := (Touch.refl [] wa).alloc (.cells #[.string ⟨#[110, 101, 120, 116]⟩, .string ⟨#[102, 111, 114, 119, 97, 114, 100]⟩] 9)
      have HW := Lib.hid (words_any wa.heap.size 0 2 [[110, 101, 120, 116], [102, 111, 114, 119, 97, 114, 100]] (wa.alloc (.cells #[.string ⟨#[110, 101, 120, 116]⟩, .string ⟨#[102, 111, 114, 119, 97, 114, 100]⟩] 9)) (fun j y hy => news_cell wa 9 [[110, 101, 120, 116], [102, 111, 114, 119, 97, 114, 100]] j y hy) (by simp) (by simp) (by simp) (by decide))
      replace hV := hV.touch hta (by simp)
      replace hL := hL.touch hta (by simp)
      replace hC := hC.touch hta (by simp)
      replace hR := hR.touch hta (by simp) (fun _ _ => by simp)
      replace ho := ho.touch hta (fun _ _ => by simp)
      replace ht := ht.step hta (by simp)
      clear hta cl
      have cl := hL.cell 0
      have cph := (HN.out _ ht).phases.cell 1
      simp at cl cph
      generalize (wa.alloc (.cells #[.string ⟨#[110, 101, 120, 116]⟩, .string ⟨#[102, 111, 114, 119, 97, 114, 100]⟩] 9)) = wb at *
      refine hK.out _ _ cph (fun hS => ?_)
      clear hK K
      try simp only [Act.put, List.setIfInBounds_toArray, List.set_cons_zero, List.set_cons_succ, List.getElem_toArray, List.getElem_cons_succ, List.getElem_cons_zero]
      refine wpAnyH_ready (rs := [7]) (by kernel_rfl) (by simp) (AllReadyH.cons rfl (fun K hK => ?_) AllReadyH.nil)
      go_simp
      refine HW.out.mono ?_
      rintro r wc ⟨rfl, hta⟩
      rw [show Lib.join [[110, 101, 120, 116], [102, 111, 114, 119, 97, 114, 100]] [32] = [110, 101, 120, 116, 32, 102, 111, 114, 119, 97, 114, 100] from by decide]
      clear HW
      replace hV := hV.touch hta (by simp)
      replace hL := hL.touch hta (by simp)
      replace hC := hC.touch hta (by simp)
      replace hR := hR.touch hta (by simp) (fun _ _ => by simp)
      replace ho := ho.touch hta (fun _ _ => by simp)
      replace ht := ht.step hta (by simp)
      clear hta cl cph
      have cl := hL.cell 0
      have cph := (HN.out _ ht).phases.cell 1
      simp at cl cph
      go_wp2_with fail
      refine hK.out _ _ cph (fun hS => ?_)
      clear hK K
      try simp only [Act.put, List.setIfInBounds_toArray, List.set_cons_zero, List.set_cons_succ, List.getElem_toArray, List.getElem_cons_succ, List.getElem_cons_zero]
      refine wpAnyH_ready (rs := [8]) (by kernel_rfl) (by simp) (AllReadyH.cons rfl (fun K hK => ?_) AllReadyH.nil)
      go_simp
      have hta := (Touch.refl [] wc).alloc (.cells #[.string ⟨#[110, 101, 120, 116, 32, 102, 111, 114, 119, 97, 114, 100]⟩] 9)
      have hrl := (ownLit wc _ rfl 9 1 1 [.string ⟨#[110, 101, 120, 116, 32, 102, 111, 114, 119, 97, 114, 100]⟩] rfl (by simp [maxLen])).reads
      replace hV := hV.touch hta (by simp)
      replace hL := hL.touch hta (by simp)
      replace hC := hC.touch hta (by simp)
      replace hR := hR.touch hta (by simp) (fun _ _ => by simp)
      replace ho := ho.touch hta (fun _ _ => by simp)
      replace ht := ht.step hta (by simp)
      clear hta cl cph
      have cl := hL.cell 0
      have cph := (HN.out _ ht).phases.cell 1
      simp at cl cph
      generalize (wc.alloc (.cells #[.string ⟨#[110, 101, 120, 116, 32, 102, 111, 114, 119, 97, 114, 100]⟩] 9)) = wd at *
      refine hK.out _ _ cph (fun hS => ?_)
      clear hK K
      try simp only [Act.put, List.setIfInBounds_toArray, List.set_cons_zero, List.set_cons_succ, List.getElem_toArray, List.getElem_cons_succ, List.getElem_cons_zero]
      refine wpAnyH_ready (rs := [9]) (by kernel_rfl) (by simp) (AllReadyH.cons rfl (fun K hK => ?_) AllReadyH.nil)
      refine step_app_reads elem_str ho hrl (by simp [Value.oneCell']) (by omega) (by unfold maxLen; omega) ?_
      intro v5 we ho5 hta hf5
      replace hb3 : ∀ g ∈ blk v5, w.heap.size + 2 ≤ g := fun g hg => by
        rcases hf5 g hg with h | h
        · have := hb3 g h; omega
        · have := ht.size; have := hC.lt; omega
      have hbx : ∀ g ∈ blk v5, g ≠ p ∧ g ≠ v ∧ g ∉ rb inp := fun g hg => by
        rcases hf5 g hg with h | h
        · have h2 := hb3' g h
          exact ⟨by omega, by omega, fun hm => by have := hinm g hm; omega⟩
        · exact ⟨by have := hR.1.lt; omega, by have := hV.lt; omega, fun hm => by have := hR.2.2.2.2.1 g hm; omega⟩
      have hby : ∀ g ∈ blk (Value.slice A3 2 c3), g ≠ p ∧ g ≠ v ∧ g ≠ w.heap.size ∧ g ≠ w.heap.size + 1 ∧ g ∉ rb inp := fun g hg => by
        have h2 := hb3' g hg
        exact ⟨by omega, by omega, by omega, by omega, fun hm => by have := hinm g hm; omega⟩
      replace hV := hV.touch hta (fun h => (hby _ h).2.1 rfl)
      replace hL := hL.touch hta (fun h => (hby _ h).2.2.1 rfl)
      replace hC := hC.touch hta (fun h => (hby _ h).2.2.2.1 rfl)
      replace hR := hR.touch hta (fun h => (hby _ h).1 rfl) (fun g hg h => (hby _ h).2.2.2.2 hg)
      replace ht := ht.step hta (fun g hg => .inr (by have := hb3' g hg; omega))
      clear hta cl cph hf5 ho hrl hby
      have cl := hL.cell 0
      have cph := (HN.out _ ht).phases.cell 1
      simp at cl cph
      have fl := hL.frozen 0
      obtain ⟨A5, c5, rfl⟩ := ho5.form
      refine hK.out _ _ cph (fun hS => ?_)
      clear hK K
      try simp only [Act.put, List.setIfInBounds_toArray, List.set_cons_zero, List.set_cons_succ, List.getElem_toArray, List.getElem_cons_succ, List.getElem_cons_zero]
      refine wpAnyH_ready (rs := [10]) (by kernel_rfl) (by simp) (AllReadyH.cons rfl (fun K hK => ?_) AllReadyH.nil)
      go_simp
      have hta := (Touch.refl [w.heap.size] we).setCell (p := ⟨w.heap.size, 0, none⟩) (.inl (by simp)) (.slice A5 3 c5)
      replace hL := hL.set_ 0 (.slice A5 3 c5)
      simp only [List.setIfInBounds_toArray, List.set_cons_zero] at hL
      replace hC := hC.touch hta (by simp)
      replace hV := hV.touch hta (by simp; omega)
      replace hR := hR.touch hta (by simpa using fun e => hn0p e.symm) (fun g hg => by have := hin0 g hg; simp; omega)
      replace ho5 := ho5.touch hta (fun b hb => by have := hb3 b hb; simp; omega)
      replace ht := ht.step hta (by simp)
      clear hta cl cph fl
      have cph := (HN.out _ ht).phases.cell 1
      simp at cph
      generalize we.setCell ⟨w.heap.size, 0, none⟩ (.slice A5 3 c5) = wf at *
      refine hK.out _ _ cph (fun hS => ?_)
      clear hK K
      try simp only [Act.put, List.setIfInBounds_toArray, List.set_cons_zero, List.set_cons_succ, List.getElem_toArray, List.getElem_cons_succ, List.getElem_cons_zero]
      refine wpAnyH_done (by kernel_rfl) ?_ _
      refine NoPanic.normal ?_
      have cv := hV.cell 0
      simp at cv
      clear cph hS
      go_wp2_with fail
      refine (rd_end p inp ex52 0 7 wf hR).mono ?_
      rintro r wg ⟨rfl, nd, hdr⟩
      have hta : Touch [] wf wg := by rw [hdr]; exact (Touch.refl [] wf).drewN nd
      replace hL := hL.touch hta (by simp)
      replace hC := hC.touch hta (by simp)
      replace ho5 := ho5.touch hta (fun _ _ => by simp)
      replace ht := ht.then0 hta
      clear hdr hta hV hR cv hbx
      rw [show rEnd ex52 0 7 = 0 from by decide]
      go_wp2_with fail
      refine (must_true _).mono ?_
      rintro r wg2 ⟨rfl, rfl⟩
      have cl := hL.cell 0
      have fl := hL.frozen 0
      have hc0 := hC.cell 0
      have fc := hC.frozen 0
      have lc := hC.lt
      simp at cl hc0
      go_wp2_with fail
      have htz : Touch [w.heap.size, w.heap.size + 1] wg2 ((wg2.setCell ⟨w.heap.size, 0, none⟩ (.slice A5 3 c5)).setCell ⟨w.heap.size + 1, 0, none⟩ (.int .i64 0)) := ((Touch.refl _ wg2).setCell (.inl (by simp)) _).setCell (.inl (by simp)) _
      have hLz := (hL.set_ 0 (.slice A5 3 c5)).far (p := ⟨w.heap.size + 1, 0, none⟩) (by show w.heap.size ≠ w.heap.size + 1; omega) (.int .i64 0)
      have hCz := (hC.far (p := ⟨w.heap.size, 0, none⟩) (by show w.heap.size + 1 ≠ w.heap.size; omega) (.slice A5 3 c5)).set_ 0 (.int .i64 0)
      simp only [List.setIfInBounds_toArray, List.set_cons_zero] at hLz hCz
      replace ho5 := ho5.touch htz (fun b hb => by have := hb3 b hb; simp; omega)
      replace ht := ht.step htz (by simp)
      clear htz cl fl hc0 fc
      generalize ((wg2.setCell ⟨w.heap.size, 0, none⟩ (.slice A5 3 c5)).setCell ⟨w.heap.size + 1, 0, none⟩ (.int .i64 0)) = wz at *
      have cl := hLz.cell 0
      have hc0 := hCz.cell 0
      simp at cl hc0
      refine leaves_cons (f := 38) (args := #[.pointer (some ⟨w.heap.size, 0, none⟩), .pointer (some ⟨w.heap.size + 1, 0, none⟩)]) (by simp) (by simp [go_sem]) ?_
      refine (rec_idle _ _ wz).mono ?_
      rintro e u' w4 ⟨rfl, rfl, rfl⟩
      have HO := Lib.hid ho5
      have HT := Lib.hid ht
      have HB := Lib.hid hb3
      clear ho5 ht hb3
      simp [Leaves, settle, results, Tryz.results15, go_sem, cl, hc0]
      exact ⟨HO.out, fun g hg => by have := HB.out g hg; omega, HT.out⟩
    · go_simp
      refine (limited_ok 1 5 v p inp ex52 (0, 6) _ hR hV hvp 2 7 ex6 (by omega) (by omega)).mono ?_
      rintro r wa ⟨rfl, hR2, hta⟩
      replace hV := hV.touch hta (by simpa using hvp)
      replace hL := hL.touch hta (by simpa using hn0p)
      replace hC := hC.touch hta (by simpa using hn1p)
      replace ho := ho.touch hta (fun b hb => by have := hb3 b hb; simp; omega)
      replace ht := ht.step hta (by simp; omega)
      replace hR := hR2
      clear hR2 hta cl cph
      have cl := hL.cell 0
      have cph := (HN.out _ ht).phases.cell 1
      simp at cl cph
      go_wp2_with fail
      refine hK.out _ _ cph (fun hS => ?_)
      clear hK K
      try simp only [Act.put, List.setIfInBounds_toArray, List.set_cons_zero, List.set_cons_succ, List.getElem_toArray, List.getElem_cons_succ, List.getElem_cons_zero]
      refine wpAnyH_take (i := 3) (v := ?_) rfl (by kernel_rfl) (by kernel_rfl) (by kernel_rfl) (fun _ _ _ h => h) (Or.inl ⟨by rfl, ?_⟩) hS ?_
      rotate_left
      · (intro W hSW; go_simp <;> with_reducible rfl)
      simp only [Act.put, List.setIfInBounds_toArray, List.set_cons_zero, List.set_cons_succ, List.getElem_toArray, List.getElem_cons_succ, List.getElem_cons_zero]
      refine wpAnyH_take (i := 4) (v := ?_) rfl (by kernel_rfl) (by kernel_rfl) (by kernel_rfl) (fun _ _ _ h => h) (Or.inl ⟨by rfl, ?_⟩) hS ?_
      rotate_left
      · (intro W hSW; go_simp <;> with_reducible rfl)
      simp only [Act.put, List.setIfInBounds_toArray, List.set_cons_zero, List.set_cons_succ, List.getElem_toArray, List.getElem_cons_succ, List.getElem_cons_zero]
      refine wpAnyH_take (i := 5) (v := ?_) rfl (by kernel_rfl) (by kernel_rfl) (by kernel_rfl) (fun _ _ _ h => h) (Or.inl ⟨by rfl, ?_⟩) hS ?_
      rotate_left
      · (intro W hSW; go_simp <;> with_reducible rfl)
      simp only [Act.put, List.setIfInBounds_toArray, List.set_cons_zero, List.set_cons_succ, List.getElem_toArray, List.getElem_cons_succ, List.getElem_cons_zero]
      refine wpAnyH_ready (rs := [0, 6]) (by kernel_rfl) (by simp) (AllReadyH.cons rfl (fun K hK => ?_) (AllReadyH.cons rfl (fun K hK => ?_) AllReadyH.nil))
      · go_simp
        refine hK.out _ _ cph (fun hS => ?_)
        clear hK K
        try simp only [Act.put, List.setIfInBounds_toArray, List.set_cons_zero, List.set_cons_succ, List.getElem_toArray, List.getElem_cons_succ, List.getElem_cons_zero]
        refine wpAnyH_ready (rs := [6]) (by kernel_rfl) (by simp) (AllReadyH.cons rfl (fun K hK => ?_) AllReadyH.nil)
        clear cph
        go_simp
        have hta := (Touch.refl [] wa).alloc (.cells #[.string ⟨#[110, 101, 120, 116]⟩, .string ⟨#[102, 111, 114, 119, 97, 114, 100]⟩] 9)
        have HW := Lib.hid (words_any wa.heap.size 0 2 [[110, 101, 120, 116], [102, 111, 114, 119, 97, 114, 100]] (wa.alloc (.cells #[.string ⟨#[110, 101, 120, 116]⟩, .string ⟨#[102, 111, 114, 119, 97, 114, 100]⟩] 9)) (fun j y hy => news_cell wa 9 [[110, 101, 120, 116], [102, 111, 114, 119, 97, 114, 100]] j y hy) (by simp) (by simp) (by simp) (by decide))
        replace hV := hV.touch hta (by simp)
        replace hL := hL.touch hta (by simp)
        replace hC := hC.touch hta (by simp)
        replace hR := hR.touch hta (by simp) (fun _ _ => by simp)
        replace ho := ho.touch hta (fun _ _ => by simp)
        replace ht := ht.step hta (by simp)
        clear hta cl
        have cl := hL.cell 0
        have cph := (HN.out _ ht).phases.cell 1
        simp at cl cph
        generalize (wa.alloc (.cells #[.string ⟨#[110, 101, 120, 116]⟩, .string ⟨#[102, 111, 114, 119, 97, 114, 100]⟩] 9)) = wb at *
        refine hK.out _ _ cph (fun hS => ?_)
        clear hK K
        try simp only [Act.put, List.setIfInBounds_toArray, List.set_cons_zero, List.set_cons_succ, List.getElem_toArray, List.getElem_cons_succ, List.getElem_cons_zero]
        refine wpAnyH_ready (rs := [7]) (by kernel_rfl) (by simp) (AllReadyH.cons rfl (fun K hK => ?_) AllReadyH.nil)
        go_simp
        refine HW.out.mono ?_
        rintro r wc ⟨rfl, hta⟩
        rw [show Lib.join [[110, 101, 120, 116], [102, 111, 114, 119, 97, 114, 100]] [32] = [110, 101, 120, 116, 32, 102, 111, 114, 119, 97, 114, 100] from by decide]
        clear HW
        replace hV := hV.touch hta (by simp)
        replace hL := hL.touch hta (by simp)
        replace hC := hC.touch hta (by simp)
        replace hR := hR.touch hta (by simp) (fun _ _ => by simp)
        replace ho := ho.touch hta (fun _ _ => by simp)
        replace ht := ht.step hta (by simp)
        clear hta cl cph
        have cl := hL.cell 0
        have cph := (HN.out _ ht).phases.cell 1
        simp at cl cph
        go_wp2_with fail
        refine hK.out _ _ cph (fun hS => ?_)
        clear hK K
        try simp only [Act.put, List.setIfInBounds_toArray, List.set_cons_zero, List.set_cons_succ, List.getElem_toArray, List.getElem_cons_succ, List.getElem_cons_zero]
        refine wpAnyH_ready (rs := [8]) (by kernel_rfl) (by simp) (AllReadyH.cons rfl (fun K hK => ?_) AllReadyH.nil)
        go_simp
        have hta := (Touch.refl [] wc).alloc (.cells #[.string ⟨#[110, 101, 120, 116, 32, 102, 111, 114, 119, 97, 114, 100]⟩] 9)
        have hrl := (ownLit wc _ rfl 9 1 1 [.string ⟨#[110, 101, 120, 116, 32, 102, 111, 114, 119, 97, 114, 100]⟩] rfl (by simp [maxLen])).reads
        replace hV := hV.touch hta (by simp)
        replace hL := hL.touch hta (by simp)
        replace hC := hC.touch hta (by simp)
        replace hR := hR.touch hta (by simp) (fun _ _ => by simp)
        replace ho := ho.touch hta (fun _ _ => by simp)
        replace ht := ht.step hta (by simp)
        clear hta cl cph
        have cl := hL.cell 0
        have cph := (HN.out _ ht).phases.cell 1
        simp at cl cph
        generalize (wc.alloc (.cells #[.string ⟨#[110, 101, 120, 116, 32, 102, 111, 114, 119, 97, 114, 100]⟩] 9)) = wd at *
        refine hK.out _ _ cph (fun hS => ?_)
        clear hK K
        try simp only [Act.put, List.setIfInBounds_toArray, List.set_cons_zero, List.set_cons_succ, List.getElem_toArray, List.getElem_cons_succ, List.getElem_cons_zero]
        refine wpAnyH_ready (rs := [9]) (by kernel_rfl) (by simp) (AllReadyH.cons rfl (fun K hK => ?_) AllReadyH.nil)
        refine step_app_reads elem_str ho hrl (by simp [Value.oneCell']) (by omega) (by unfold maxLen; omega) ?_
        intro v5 we ho5 hta hf5
        replace hb3 : ∀ g ∈ blk v5, w.heap.size + 2 ≤ g := fun g hg => by
          rcases hf5 g hg with h | h
          · have := hb3 g h; omega
          · have := ht.size; have := hC.lt; omega
        have hbx : ∀ g ∈ blk v5, g ≠ p ∧ g ≠ v ∧ g ∉ rb inp := fun g hg => by
          rcases hf5 g hg with h | h
          · have h2 := hb3' g h
            exact ⟨by omega, by omega, fun hm => by have := hinm g hm; omega⟩
          · exact ⟨by have := hR.1.lt; omega, by have := hV.lt; omega, fun hm => by have := hR.2.2.2.2.1 g hm; omega⟩
        have hby : ∀ g ∈ blk (Value.slice A3 2 c3), g ≠ p ∧ g ≠ v ∧ g ≠ w.heap.size ∧ g ≠ w.heap.size + 1 ∧ g ∉ rb inp := fun g hg => by
          have h2 := hb3' g hg
          exact ⟨by omega, by omega, by omega, by omega, fun hm => by have := hinm g hm; omega⟩
        replace hV := hV.touch hta (fun h => (hby _ h).2.1 rfl)
        replace hL := hL.touch hta (fun h => (hby _ h).2.2.1 rfl)
        replace hC := hC.touch hta (fun h => (hby _ h).2.2.2.1 rfl)
        replace hR := hR.touch hta (fun h => (hby _ h).1 rfl) (fun g hg h => (hby _ h).2.2.2.2 hg)
        replace ht := ht.step hta (fun g hg => .inr (by have := hb3' g hg; omega))
        clear hta cl cph hf5 ho hrl hby
        have cl := hL.cell 0
        have cph := (HN.out _ ht).phases.cell 1
        simp at cl cph
        have fl := hL.frozen 0
        obtain ⟨A5, c5, rfl⟩ := ho5.form
        refine hK.out _ _ cph (fun hS => ?_)
        clear hK K
        try simp only [Act.put, List.setIfInBounds_toArray, List.set_cons_zero, List.set_cons_succ, List.getElem_toArray, List.getElem_cons_succ, List.getElem_cons_zero]
        refine wpAnyH_ready (rs := [10]) (by kernel_rfl) (by simp) (AllReadyH.cons rfl (fun K hK => ?_) AllReadyH.nil)
        go_simp
        have hta := (Touch.refl [w.heap.size] we).setCell (p := ⟨w.heap.size, 0, none⟩) (.inl (by simp)) (.slice A5 3 c5)
        replace hL := hL.set_ 0 (.slice A5 3 c5)
        simp only [List.setIfInBounds_toArray, List.set_cons_zero] at hL
        replace hC := hC.touch hta (by simp)
        replace hV := hV.touch hta (by simp; omega)
        replace hR := hR.touch hta (by simpa using fun e => hn0p e.symm) (fun g hg => by have := hin0 g hg; simp; omega)
        replace ho5 := ho5.touch hta (fun b hb => by have := hb3 b hb; simp; omega)
        replace ht := ht.step hta (by simp)
        clear hta cl cph fl
        have cph := (HN.out _ ht).phases.cell 1
        simp at cph
        generalize we.setCell ⟨w.heap.size, 0, none⟩ (.slice A5 3 c5) = wf at *
        refine hK.out _ _ cph (fun hS => ?_)
        clear hK K
        try simp only [Act.put, List.setIfInBounds_toArray, List.set_cons_zero, List.set_cons_succ, List.getElem_toArray, List.getElem_cons_succ, List.getElem_cons_zero]
        refine wpAnyH_done (by kernel_rfl) ?_ _
        refine NoPanic.normal ?_
        have cv := hV.cell 0
        simp at cv
        clear cph hS
        go_wp2_with fail
        refine (rd_end p inp ex52 0 7 wf hR).mono ?_
        rintro r wg ⟨rfl, nd, hdr⟩
        have hta : Touch [] wf wg := by rw [hdr]; exact (Touch.refl [] wf).drewN nd
        replace hL := hL.touch hta (by simp)
        replace hC := hC.touch hta (by simp)
        replace ho5 := ho5.touch hta (fun _ _ => by simp)
        replace ht := ht.then0 hta
        clear hdr hta hV hR cv hbx
        rw [show rEnd ex52 0 7 = 0 from by decide]
        go_wp2_with fail
        refine (must_true _).mono ?_
        rintro r wg2 ⟨rfl, rfl⟩
        have cl := hL.cell 0
        have fl := hL.frozen 0
        have hc0 := hC.cell 0
        have fc := hC.frozen 0
        have lc := hC.lt
        simp at cl hc0
        go_wp2_with fail
        have htz : Touch [w.heap.size, w.heap.size + 1] wg2 ((wg2.setCell ⟨w.heap.size, 0, none⟩ (.slice A5 3 c5)).setCell ⟨w.heap.size + 1, 0, none⟩ (.int .i64 0)) := ((Touch.refl _ wg2).setCell (.inl (by simp)) _).setCell (.inl (by simp)) _
        have hLz := (hL.set_ 0 (.slice A5 3 c5)).far (p := ⟨w.heap.size + 1, 0, none⟩) (by show w.heap.size ≠ w.heap.size + 1; omega) (.int .i64 0)
        have hCz := (hC.far (p := ⟨w.heap.size, 0, none⟩) (by show w.heap.size + 1 ≠ w.heap.size; omega) (.slice A5 3 c5)).set_ 0 (.int .i64 0)
        simp only [List.setIfInBounds_toArray, List.set_cons_zero] at hLz hCz
        replace ho5 := ho5.touch htz (fun b hb => by have := hb3 b hb; simp; omega)
        replace ht := ht.step htz (by simp)
        clear htz cl fl hc0 fc
        generalize ((wg2.setCell ⟨w.heap.size, 0, none⟩ (.slice A5 3 c5)).setCell ⟨w.heap.size + 1, 0, none⟩ (.int .i64 0)) = wz at *
        have cl := hLz.cell 0
        have hc0 := hCz.cell 0
        simp at cl hc0
        refine leaves_cons (f := 38) (args := #[.pointer (some ⟨w.heap.size, 0, none⟩), .pointer (some ⟨w.heap.size + 1, 0, none⟩)]) (by simp) (by simp [go_sem]) ?_
        refine (rec_idle _ _ wz).mono ?_
        rintro e u' w4 ⟨rfl, rfl, rfl⟩
        have HO := Lib.hid ho5
        have HT := Lib.hid ht
        have HB := Lib.hid hb3
        clear ho5 ht hb3
        simp [Leaves, settle, results, Tryz.results15, go_sem, cl, hc0]
        exact ⟨HO.out, fun g hg => by have := HB.out g hg; omega, HT.out⟩
      · clear cph
        go_simp
        have hta := (Touch.refl [] wa).alloc (.cells #[.string ⟨#[110, 101, 120, 116]⟩, .string ⟨#[102, 111, 114, 119, 97, 114, 100]⟩] 9)
        have HW := Lib.hid (words_any wa.heap.size 0 2 [[110, 101, 120, 116], [102, 111, 114, 119, 97, 114, 100]] (wa.alloc (.cells #[.string ⟨#[110, 101, 120, 116]⟩, .string ⟨#[102, 111, 114, 119, 97, 114, 100]⟩] 9)) (fun j y hy => news_cell wa 9 [[110, 101, 120, 116], [102, 111, 114, 119, 97, 114, 100]] j y hy) (by simp) (by simp) (by simp) (by decide))
        replace hV := hV.touch hta (by simp)
        replace hL := hL.touch hta (by simp)
        replace hC := hC.touch hta (by simp)
        replace hR := hR.touch hta (by simp) (fun _ _ => by simp)
        replace ho := ho.touch hta (fun _ _ => by simp)
        replace ht := ht.step hta (by simp)
        clear hta cl
        have cl := hL.cell 0
        have cph := (HN.out _ ht).phases.cell 1
        simp at cl cph
        generalize (wa.alloc (.cells #[.string ⟨#[110, 101, 120, 116]⟩, .string ⟨#[102, 111, 114, 119, 97, 114, 100]⟩] 9)) = wb at *
        refine hK.out _ _ cph (fun hS => ?_)
        clear hK K
        try simp only [Act.put, List.setIfInBounds_toArray, List.set_cons_zero, List.set_cons_succ, List.getElem_toArray, List.getElem_cons_succ, List.getElem_cons_zero]
        refine wpAnyH_ready (rs := [0, 7]) (by kernel_rfl) (by simp) (AllReadyH.cons rfl (fun K hK => ?_) (AllReadyH.cons rfl (fun K hK => ?_) AllReadyH.nil))
        · go_simp
          refine hK.out _ _ cph (fun hS => ?_)
          clear hK K
          try simp only [Act.put, List.setIfInBounds_toArray, List.set_cons_zero, List.set_cons_succ, List.getElem_toArray, List.getElem_cons_succ, List.getElem_cons_zero]
          refine wpAnyH_ready (rs := [7]) (by kernel_rfl) (by simp) (AllReadyH.cons rfl (fun K hK => ?_) AllReadyH.nil)
          go_simp
          refine HW.out.mono ?_
          rintro r wc ⟨rfl, hta⟩
          rw [show Lib.join [[110, 101, 120, 116], [102, 111, 114, 119, 97, 114, 100]] [32] = [110, 101, 120, 116, 32, 102, 111, 114, 119, 97, 114, 100] from by decide]
          clear HW
          replace hV := hV.touch hta (by simp)
          replace hL := hL.touch hta (by simp)
          replace hC := hC.touch hta (by simp)
          replace hR := hR.touch hta (by simp) (fun _ _ => by simp)
          replace ho := ho.touch hta (fun _ _ => by simp)
          replace ht := ht.step hta (by simp)
          clear hta cl cph
          have cl := hL.cell 0
          have cph := (HN.out _ ht).phases.cell 1
          simp at cl cph
          go_wp2_with fail
          refine hK.out _ _ cph (fun hS => ?_)
          clear hK K
          try simp only [Act.put, List.setIfInBounds_toArray, List.set_cons_zero, List.set_cons_succ, List.getElem_toArray, List.getElem_cons_succ, List.getElem_cons_zero]
          refine wpAnyH_ready (rs := [8]) (by kernel_rfl) (by simp) (AllReadyH.cons rfl (fun K hK => ?_) AllReadyH.nil)
          go_simp
          have hta := (Touch.refl [] wc).alloc (.cells #[.string ⟨#[110, 101, 120, 116, 32, 102, 111, 114, 119, 97, 114, 100]⟩] 9)
          have hrl := (ownLit wc _ rfl 9 1 1 [.string ⟨#[110, 101, 120, 116, 32, 102, 111, 114, 119, 97, 114, 100]⟩] rfl (by simp [maxLen])).reads
          replace hV := hV.touch hta (by simp)
          replace hL := hL.touch hta (by simp)
          replace hC := hC.touch hta (by simp)
          replace hR := hR.touch hta (by simp) (fun _ _ => by simp)
          replace ho := ho.touch hta (fun _ _ => by simp)
          replace ht := ht.step hta (by simp)
          clear hta cl cph
          have cl := hL.cell 0
          have cph := (HN.out _ ht).phases.cell 1
          simp at cl cph
          generalize (wc.alloc (.cells #[.string ⟨#[110, 101, 120, 116, 32, 102, 111, 114, 119, 97, 114, 100]⟩] 9)) = wd at *
          refine hK.out _ _ cph (fun hS => ?_)
          clear hK K
          try simp only [Act.put, List.setIfInBounds_toArray, List.set_cons_zero, List.set_cons_succ, List.getElem_toArray, List.getElem_cons_succ, List.getElem_cons_zero]
          refine wpAnyH_ready (rs := [9]) (by kernel_rfl) (by simp) (AllReadyH.cons rfl (fun K hK => ?_) AllReadyH.nil)
          refine step_app_reads elem_str ho hrl (by simp [Value.oneCell']) (by omega) (by unfold maxLen; omega) ?_
          intro v5 we ho5 hta hf5
          replace hb3 : ∀ g ∈ blk v5, w.heap.size + 2 ≤ g := fun g hg => by
            rcases hf5 g hg with h | h
            · have := hb3 g h; omega
            · have := ht.size; have := hC.lt; omega
          have hbx : ∀ g ∈ blk v5, g ≠ p ∧ g ≠ v ∧ g ∉ rb inp := fun g hg => by
            rcases hf5 g hg with h | h
            · have h2 := hb3' g h
              exact ⟨by omega, by omega, fun hm => by have := hinm g hm; omega⟩
            · exact ⟨by have := hR.1.lt; omega, by have := hV.lt; omega, fun hm => by have := hR.2.2.2.2.1 g hm; omega⟩
          have hby : ∀ g ∈ blk (Value.slice A3 2 c3), g ≠ p ∧ g ≠ v ∧ g ≠ w.heap.size ∧ g ≠ w.heap.size + 1 ∧ g ∉ rb inp := fun g hg => by
            have h2 := hb3' g hg
            exact ⟨by omega, by omega, by omega, by omega, fun hm => by have := hinm g hm; omega⟩
          replace hV := hV.touch hta (fun h => (hby _ h).2.1 rfl)
          replace hL := hL.touch hta (fun h => (hby _ h).2.2.1 rfl)
          replace hC := hC.touch hta (fun h => (hby _ h).2.2.2.1 rfl)
          replace hR := hR.touch hta (fun h => (hby _ h).1 rfl) (fun g hg h => (hby _ h).2.2.2.2 hg)
          replace ht := ht.step hta (fun g hg => .inr (by have := hb3' g hg; omega))
          clear hta cl cph hf5 ho hrl hby
          have cl := hL.cell 0
          have cph := (HN.out _ ht).phases.cell 1
          simp at cl cph
          have fl := hL.frozen 0
          obtain ⟨A5, c5, rfl⟩ := ho5.form
          refine hK.out _ _ cph (fun hS => ?_)
          clear hK K
          try simp only [Act.put, List.setIfInBounds_toArray, List.set_cons_zero, List.set_cons_succ, List.getElem_toArray, List.getElem_cons_succ, List.getElem_cons_zero]
          refine wpAnyH_ready (rs := [10]) (by kernel_rfl) (by simp) (AllReadyH.cons rfl (fun K hK => ?_) AllReadyH.nil)
          go_simp
          have hta := (Touch.refl [w.heap.size] we).setCell (p := ⟨w.heap.size, 0, none⟩) (.inl (by simp)) (.slice A5 3 c5)
          replace hL := hL.set_ 0 (.slice A5 3 c5)
          simp only [List.setIfInBounds_toArray, List.set_cons_zero] at hL
          replace hC := hC.touch hta (by simp)
          replace hV := hV.touch hta (by simp; omega)
          replace hR := hR.touch hta (by simpa using fun e => hn0p e.symm) (fun g hg => by have := hin0 g hg; simp; omega)
          replace ho5 := ho5.touch hta (fun b hb => by have := hb3 b hb; simp; omega)
          replace ht := ht.step hta (by simp)
          clear hta cl cph fl
          have cph := (HN.out _ ht).phases.cell 1
          simp at cph
          generalize we.setCell ⟨w.heap.size, 0, none⟩ (.slice A5 3 c5) = wf at *
          refine hK.out _ _ cph (fun hS => ?_)
          clear hK K
          try simp only [Act.put, List.setIfInBounds_toArray, List.set_cons_zero, List.set_cons_succ, List.getElem_toArray, List.getElem_cons_succ, List.getElem_cons_zero]
          refine wpAnyH_done (by kernel_rfl) ?_ _
          refine NoPanic.normal ?_
          have cv := hV.cell 0
          simp at cv
          clear cph hS
          go_wp2_with fail
          refine (rd_end p inp ex52 0 7 wf hR).mono ?_
          rintro r wg ⟨rfl, nd, hdr⟩
          have hta : Touch [] wf wg := by rw [hdr]; exact (Touch.refl [] wf).drewN nd
          replace hL := hL.touch hta (by simp)
          replace hC := hC.touch hta (by simp)
          replace ho5 := ho5.touch hta (fun _ _ => by simp)
          replace ht := ht.then0 hta
          clear hdr hta hV hR cv hbx
          rw [show rEnd ex52 0 7 = 0 from by decide]
          go_wp2_with fail
          refine (must_true _).mono ?_
          rintro r wg2 ⟨rfl, rfl⟩
          have cl := hL.cell 0
          have fl := hL.frozen 0
          have hc0 := hC.cell 0
          have fc := hC.frozen 0
          have lc := hC.lt
          simp at cl hc0
          go_wp2_with fail
          have htz : Touch [w.heap.size, w.heap.size + 1] wg2 ((wg2.setCell ⟨w.heap.size, 0, none⟩ (.slice A5 3 c5)).setCell ⟨w.heap.size + 1, 0, none⟩ (.int .i64 0)) := ((Touch.refl _ wg2).setCell (.inl (by simp)) _).setCell (.inl (by simp)) _
          have hLz := (hL.set_ 0 (.slice A5 3 c5)).far (p := ⟨w.heap.size + 1, 0, none⟩) (by show w.heap.size ≠ w.heap.size + 1; omega) (.int .i64 0)
          have hCz := (hC.far (p := ⟨w.heap.size, 0, none⟩) (by show w.heap.size + 1 ≠ w.heap.size; omega) (.slice A5 3 c5)).set_ 0 (.int .i64 0)
          simp only [List.setIfInBounds_toArray, List.set_cons_zero] at hLz hCz
          replace ho5 := ho5.touch htz (fun b hb => by have := hb3 b hb; simp; omega)
          replace ht := ht.step htz (by simp)
          clear htz cl fl hc0 fc
          generalize ((wg2.setCell ⟨w.heap.size, 0, none⟩ (.slice A5 3 c5)).setCell ⟨w.heap.size + 1, 0, none⟩ (.int .i64 0)) = wz at *
          have cl := hLz.cell 0
          have hc0 := hCz.cell 0
          simp at cl hc0
          refine leaves_cons (f := 38) (args := #[.pointer (some ⟨w.heap.size, 0, none⟩), .pointer (some ⟨w.heap.size + 1, 0, none⟩)]) (by simp) (by simp [go_sem]) ?_
          refine (rec_idle _ _ wz).mono ?_
          rintro e u' w4 ⟨rfl, rfl, rfl⟩
          have HO := Lib.hid ho5
          have HT := Lib.hid ht
          have HB := Lib.hid hb3
          clear ho5 ht hb3
          simp [Leaves, settle, results, Tryz.results15, go_sem, cl, hc0]
          exact ⟨HO.out, fun g hg => by have := HB.out g hg; omega, HT.out⟩
        · go_simp
          refine HW.out.mono ?_
          rintro r wc ⟨rfl, hta⟩
          rw [show Lib.join [[110, 101, 120, 116], [102, 111, 114, 119, 97, 114, 100]] [32] = [110, 101, 120, 116, 32, 102, 111, 114, 119, 97, 114, 100] from by decide]
          clear HW
          replace hV := hV.touch hta (by simp)
          replace hL := hL.touch hta (by simp)
          replace hC := hC.touch hta (by simp)
          replace hR := hR.touch hta (by simp) (fun _ _ => by simp)
          replace ho := ho.touch hta (fun _ _ => by simp)
          replace ht := ht.step hta (by simp)
          clear hta cl cph
          have cl := hL.cell 0
          have cph := (HN.out _ ht).phases.cell 1
          simp at cl cph
          go_wp2_with fail
          refine hK.out _ _ cph (fun hS => ?_)
          clear hK K
          try simp only [Act.put, List.setIfInBounds_toArray, List.set_cons_zero, List.set_cons_succ, List.getElem_toArray, List.getElem_cons_succ, List.getElem_cons_zero]
          refine wpAnyH_ready (rs := [0, 8]) (by kernel_rfl) (by simp) (AllReadyH.cons rfl (fun K hK => ?_) (AllReadyH.cons rfl (fun K hK => ?_) AllReadyH.nil))
          · go_simp
            refine hK.out _ _ cph (fun hS => ?_)
            clear hK K
            try simp only [Act.put, List.setIfInBounds_toArray, List.set_cons_zero, List.set_cons_succ, List.getElem_toArray, List.getElem_cons_succ, List.getElem_cons_zero]
            refine wpAnyH_ready (rs := [8]) (by kernel_rfl) (by simp) (AllReadyH.cons rfl (fun K hK => ?_) AllReadyH.nil)
            go_simp
            have hta := (Touch.refl [] wc).alloc (.cells #[.string ⟨#[110, 101, 120, 116, 32, 102, 111, 114, 119, 97, 114, 100]⟩] 9)
            have hrl := (ownLit wc _ rfl 9 1 1 [.string ⟨#[110, 101, 120, 116, 32, 102, 111, 114, 119, 97, 114, 100]⟩] rfl (by simp [maxLen])).reads
            replace hV := hV.touch hta (by simp)
            replace hL := hL.touch hta (by simp)
            replace hC := hC.touch hta (by simp)
            replace hR := hR.touch hta (by simp) (fun _ _ => by simp)
            replace ho := ho.touch hta (fun _ _ => by simp)
            replace ht := ht.step hta (by simp)
            clear hta cl cph
            have cl := hL.cell 0
            have cph := (HN.out _ ht).phases.cell 1
            simp at cl cph
            generalize (wc.alloc (.cells #[.string ⟨#[110, 101, 120, 116, 32, 102, 111, 114, 119, 97, 114, 100]⟩] 9)) = wd at *
            refine hK.out _ _ cph (fun hS => ?_)
            clear hK K
            try simp only [Act.put, List.setIfInBounds_toArray, List.set_cons_zero, List.set_cons_succ, List.getElem_toArray, List.getElem_cons_succ, List.getElem_cons_zero]
            refine wpAnyH_ready (rs := [9]) (by kernel_rfl) (by simp) (AllReadyH.cons rfl (fun K hK => ?_) AllReadyH.nil)
            refine step_app_reads elem_str ho hrl (by simp [Value.oneCell']) (by omega) (by unfold maxLen; omega) ?_
            intro v5 we ho5 hta hf5
            replace hb3 : ∀ g ∈ blk v5, w.heap.size + 2 ≤ g := fun g hg => by
              rcases hf5 g hg with h | h
              · have := hb3 g h; omega
              · have := ht.size; have := hC.lt; omega
            have hbx : ∀ g ∈ blk v5, g ≠ p ∧ g ≠ v ∧ g ∉ rb inp := fun g hg => by
              rcases hf5 g hg with h | h
              · have h2 := hb3' g h
                exact ⟨by omega, by omega, fun hm => by have := hinm g hm; omega⟩
              · exact ⟨by have := hR.1.lt; omega, by have := hV.lt; omega, fun hm => by have := hR.2.2.2.2.1 g hm; omega⟩
            have hby : ∀ g ∈ blk (Value.slice A3 2 c3), g ≠ p ∧ g ≠ v ∧ g ≠ w.heap.size ∧ g ≠ w.heap.size + 1 ∧ g ∉ rb inp := fun g hg => by
              have h2 := hb3' g hg
              exact ⟨by omega, by omega, by omega, by omega, fun hm => by have := hinm g hm; omega⟩
            replace hV := hV.touch hta (fun h => (hby _ h).2.1 rfl)
            replace hL := hL.touch hta (fun h => (hby _ h).2.2.1 rfl)
            replace hC := hC.touch hta (fun h => (hby _ h).2.2.2.1 rfl)
            replace hR := hR.touch hta (fun h => (hby _ h).1 rfl) (fun g hg h => (hby _ h).2.2.2.2 hg)
            replace ht := ht.step hta (fun g hg => .inr (by have := hb3' g hg; omega))
            clear hta cl cph hf5 ho hrl hby
            have cl := hL.cell 0
            have cph := (HN.out _ ht).phases.cell 1
            simp at cl cph
            have fl := hL.frozen 0
            obtain ⟨A5, c5, rfl⟩ := ho5.form
            refine hK.out _ _ cph (fun hS => ?_)
            clear hK K
            try simp only [Act.put, List.setIfInBounds_toArray, List.set_cons_zero, List.set_cons_succ, List.getElem_toArray, List.getElem_cons_succ, List.getElem_cons_zero]
            refine wpAnyH_ready (rs := [10]) (by kernel_rfl) (by simp) (AllReadyH.cons rfl (fun K hK => ?_) AllReadyH.nil)
            go_simp
            have hta := (Touch.refl [w.heap.size] we).setCell (p := ⟨w.heap.size, 0, none⟩) (.inl (by simp)) (.slice A5 3 c5)
            replace hL := hL.set_ 0 (.slice A5 3 c5)
            simp only [List.setIfInBounds_toArray, List.set_cons_zero] at hL
            replace hC := hC.touch hta (by simp)
            replace hV := hV.touch hta (by simp; omega)
            replace hR := hR.touch hta (by simpa using fun e => hn0p e.symm) (fun g hg => by have := hin0 g hg; simp; omega)
            replace ho5 := ho5.touch hta (fun b hb => by have := hb3 b hb; simp; omega)
            replace ht := ht.step hta (by simp)
            clear hta cl cph fl
            have cph := (HN.out _ ht).phases.cell 1
            simp at cph
            generalize we.setCell ⟨w.heap.size, 0, none⟩ (.slice A5 3 c5) = wf at *
            refine hK.out _ _ cph (fun hS => ?_)
            clear hK K
            try simp only [Act.put, List.setIfInBounds_toArray, List.set_cons_zero, List.set_cons_succ, List.getElem_toArray, List.getElem_cons_succ, List.getElem_cons_zero]
            refine wpAnyH_done (by kernel_rfl) ?_ _
            refine NoPanic.normal ?_
            have cv := hV.cell 0
            simp at cv
            clear cph hS
            go_wp2_with fail
            refine (rd_end p inp ex52 0 7 wf hR).mono ?_
            rintro r wg ⟨rfl, nd, hdr⟩
            have hta : Touch [] wf wg := by rw [hdr]; exact (Touch.refl [] wf).drewN nd
            replace hL := hL.touch hta (by simp)
            replace hC := hC.touch hta (by simp)
            replace ho5 := ho5.touch hta (fun _ _ => by simp)
            replace ht := ht.then0 hta
            clear hdr hta hV hR cv hbx
            rw [show rEnd ex52 0 7 = 0 from by decide]
            go_wp2_with fail
            refine (must_true _).mono ?_
            rintro r wg2 ⟨rfl, rfl⟩
            have cl := hL.cell 0
            have fl := hL.frozen 0
            have hc0 := hC.cell 0
            have fc := hC.frozen 0
            have lc := hC.lt
            simp at cl hc0
            go_wp2_with fail
            have htz : Touch [w.heap.size, w.heap.size + 1] wg2 ((wg2.setCell ⟨w.heap.size, 0, none⟩ (.slice A5 3 c5)).setCell ⟨w.heap.size + 1, 0, none⟩ (.int .i64 0)) := ((Touch.refl _ wg2).setCell (.inl (by simp)) _).setCell (.inl (by simp)) _
            have hLz := (hL.set_ 0 (.slice A5 3 c5)).far (p := ⟨w.heap.size + 1, 0, none⟩) (by show w.heap.size ≠ w.heap.size + 1; omega) (.int .i64 0)
            have hCz := (hC.far (p := ⟨w.heap.size, 0, none⟩) (by show w.heap.size + 1 ≠ w.heap.size; omega) (.slice A5 3 c5)).set_ 0 (.int .i64 0)
            simp only [List.setIfInBounds_toArray, List.set_cons_zero] at hLz hCz
            replace ho5 := ho5.touch htz (fun b hb => by have := hb3 b hb; simp; omega)
            replace ht := ht.step htz (by simp)
            clear htz cl fl hc0 fc
            generalize ((wg2.setCell ⟨w.heap.size, 0, none⟩ (.slice A5 3 c5)).setCell ⟨w.heap.size + 1, 0, none⟩ (.int .i64 0)) = wz at *
            have cl := hLz.cell 0
            have hc0 := hCz.cell 0
            simp at cl hc0
            refine leaves_cons (f := 38) (args := #[.pointer (some ⟨w.heap.size, 0, none⟩), .pointer (some ⟨w.heap.size + 1, 0, none⟩)]) (by simp) (by simp [go_sem]) ?_
            refine (rec_idle _ _ wz).mono ?_
            rintro e u' w4 ⟨rfl, rfl, rfl⟩
            have HO := Lib.hid ho5
            have HT := Lib.hid ht
            have HB := Lib.hid hb3
            clear ho5 ht hb3
            simp [Leaves, settle, results, Tryz.results15, go_sem, cl, hc0]
            exact ⟨HO.out, fun g hg => by have := HB.out g hg; omega, HT.out⟩
          · go_simp
            have hta := (Touch.refl [] wc).alloc (.cells #[.string ⟨#[110, 101, 120, 116, 32, 102, 111, 114, 119, 97, 114, 100]⟩] 9)
            have hrl := (ownLit wc _ rfl 9 1 1 [.string ⟨#[110, 101, 120, 116, 32, 102, 111, 114, 119, 97, 114, 100]⟩] rfl (by simp [maxLen])).reads
            replace hV := hV.touch hta (by simp)
            replace hL := hL.touch hta (by simp)
            replace hC := hC.touch hta (by simp)
            replace hR := hR.touch hta (by simp) (fun _ _ => by simp)
            replace ho := ho.touch hta (fun _ _ => by simp)
            replace ht := ht.step hta (by simp)
            clear hta cl cph
            have cl := hL.cell 0
            have cph := (HN.out _ ht).phases.cell 1
            simp at cl cph
            generalize (wc.alloc (.cells #[.string ⟨#[110, 101, 120, 116, 32, 102, 111, 114, 119, 97, 114, 100]⟩] 9)) = wd at *
            refine hK.out _ _ cph (fun hS => ?_)
            clear hK K
            try simp only [Act.put, List.setIfInBounds_toArray, List.set_cons_zero, List.set_cons_succ, List.getElem_toArray, List.getElem_cons_succ, List.getElem_cons_zero]
            refine wpAnyH_ready (rs := [0]) (by kernel_rfl) (by simp) (AllReadyH.cons rfl (fun K hK => ?_) AllReadyH.nil)
            go_simp
            refine hK.out _ _ cph (fun hS => ?_)
            clear hK K
            try simp only [Act.put, List.setIfInBounds_toArray, List.set_cons_zero, List.set_cons_succ, List.getElem_toArray, List.getElem_cons_succ, List.getElem_cons_zero]
            refine wpAnyH_ready (rs := [9]) (by kernel_rfl) (by simp) (AllReadyH.cons rfl (fun K hK => ?_) AllReadyH.nil)
            refine step_app_reads elem_str ho hrl (by simp [Value.oneCell']) (by omega) (by unfold maxLen; omega) ?_
            intro v5 we ho5 hta hf5
            replace hb3 : ∀ g ∈ blk v5, w.heap.size + 2 ≤ g := fun g hg => by
              rcases hf5 g hg with h | h
              · have := hb3 g h; omega
              · have := ht.size; have := hC.lt; omega
            have hbx : ∀ g ∈ blk v5, g ≠ p ∧ g ≠ v ∧ g ∉ rb inp := fun g hg => by
              rcases hf5 g hg with h | h
              · have h2 := hb3' g h
                exact ⟨by omega, by omega, fun hm => by have := hinm g hm; omega⟩
              · exact ⟨by have := hR.1.lt; omega, by have := hV.lt; omega, fun hm => by have := hR.2.2.2.2.1 g hm; omega⟩
            have hby : ∀ g ∈ blk (Value.slice A3 2 c3), g ≠ p ∧ g ≠ v ∧ g ≠ w.heap.size ∧ g ≠ w.heap.size + 1 ∧ g ∉ rb inp := fun g hg => by
              have h2 := hb3' g hg
              exact ⟨by omega, by omega, by omega, by omega, fun hm => by have := hinm g hm; omega⟩
            replace hV := hV.touch hta (fun h => (hby _ h).2.1 rfl)
            replace hL := hL.touch hta (fun h => (hby _ h).2.2.1 rfl)
            replace hC := hC.touch hta (fun h => (hby _ h).2.2.2.1 rfl)
            replace hR := hR.touch hta (fun h => (hby _ h).1 rfl) (fun g hg h => (hby _ h).2.2.2.2 hg)
            replace ht := ht.step hta (fun g hg => .inr (by have := hb3' g hg; omega))
            clear hta cl cph hf5 ho hrl hby
            have cl := hL.cell 0
            have cph := (HN.out _ ht).phases.cell 1
            simp at cl cph
            have fl := hL.frozen 0
            obtain ⟨A5, c5, rfl⟩ := ho5.form
            refine hK.out _ _ cph (fun hS => ?_)
            clear hK K
            try simp only [Act.put, List.setIfInBounds_toArray, List.set_cons_zero, List.set_cons_succ, List.getElem_toArray, List.getElem_cons_succ, List.getElem_cons_zero]
            refine wpAnyH_ready (rs := [10]) (by kernel_rfl) (by simp) (AllReadyH.cons rfl (fun K hK => ?_) AllReadyH.nil)
            go_simp
            have hta := (Touch.refl [w.heap.size] we).setCell (p := ⟨w.heap.size, 0, none⟩) (.inl (by simp)) (.slice A5 3 c5)
            replace hL := hL.set_ 0 (.slice A5 3 c5)
            simp only [List.setIfInBounds_toArray, List.set_cons_zero] at hL
            replace hC := hC.touch hta (by simp)
            replace hV := hV.touch hta (by simp; omega)
            replace hR := hR.touch hta (by simpa using fun e => hn0p e.symm) (fun g hg => by have := hin0 g hg; simp; omega)
            replace ho5 := ho5.touch hta (fun b hb => by have := hb3 b hb; simp; omega)
            replace ht := ht.step hta (by simp)
            clear hta cl cph fl
            have cph := (HN.out _ ht).phases.cell 1
            simp at cph
            generalize we.setCell ⟨w.heap.size, 0, none⟩ (.slice A5 3 c5) = wf at *
            refine hK.out _ _ cph (fun hS => ?_)
            clear hK K
            try simp only [Act.put, List.setIfInBounds_toArray, List.set_cons_zero, List.set_cons_succ, List.getElem_toArray, List.getElem_cons_succ, List.getElem_cons_zero]
            refine wpAnyH_done (by kernel_rfl) ?_ _
            refine NoPanic.normal ?_
            have cv := hV.cell 0
            simp at cv
            clear cph hS
            go_wp2_with fail
            refine (rd_end p inp ex52 0 7 wf hR).mono ?_
            rintro r wg ⟨rfl, nd, hdr⟩
            have hta : Touch [] wf wg := by rw [hdr]; exact (Touch.refl [] wf).drewN nd
            replace hL := hL.touch hta (by simp)
            replace hC := hC.touch hta (by simp)
            replace ho5 := ho5.touch hta (fun _ _ => by simp)
            replace ht := ht.then0 hta
            clear hdr hta hV hR cv hbx
            rw [show rEnd ex52 0 7 = 0 from by decide]
            go_wp2_with fail
            refine (must_true _).mono ?_
            rintro r wg2 ⟨rfl, rfl⟩
            have cl := hL.cell 0
            have fl := hL.frozen 0
            have hc0 := hC.cell 0
            have fc := hC.frozen 0
            have lc := hC.lt
            simp at cl hc0
            go_wp2_with fail
            have htz : Touch [w.heap.size, w.heap.size + 1] wg2 ((wg2.setCell ⟨w.heap.size, 0, none⟩ (.slice A5 3 c5)).setCell ⟨w.heap.size + 1, 0, none⟩ (.int .i64 0)) := ((Touch.refl _ wg2).setCell (.inl (by simp)) _).setCell (.inl (by simp)) _
            have hLz := (hL.set_ 0 (.slice A5 3 c5)).far (p := ⟨w.heap.size + 1, 0, none⟩) (by show w.heap.size ≠ w.heap.size + 1; omega) (.int .i64 0)
            have hCz := (hC.far (p := ⟨w.heap.size, 0, none⟩) (by show w.heap.size + 1 ≠ w.heap.size; omega) (.slice A5 3 c5)).set_ 0 (.int .i64 0)
            simp only [List.setIfInBounds_toArray, List.set_cons_zero] at hLz hCz
            replace ho5 := ho5.touch htz (fun b hb => by have := hb3 b hb; simp; omega)
            replace ht := ht.step htz (by simp)
            clear htz cl fl hc0 fc
            generalize ((wg2.setCell ⟨w.heap.size, 0, none⟩ (.slice A5 3 c5)).setCell ⟨w.heap.size + 1, 0, none⟩ (.int .i64 0)) = wz at *
            have cl := hLz.cell 0
            have hc0 := hCz.cell 0
            simp at cl hc0
            refine leaves_cons (f := 38) (args := #[.pointer (some ⟨w.heap.size, 0, none⟩), .pointer (some ⟨w.heap.size + 1, 0, none⟩)]) (by simp) (by simp [go_sem]) ?_
            refine (rec_idle _ _ wz).mono ?_
            rintro e u' w4 ⟨rfl, rfl, rfl⟩
            have HO := Lib.hid ho5
            have HT := Lib.hid ht
            have HB := Lib.hid hb3
            clear ho5 ht hb3
            simp [Leaves, settle, results, Tryz.results15, go_sem, cl, hc0]
            exact ⟨HO.out, fun g hg => by have := HB.out g hg; omega, HT.out⟩

end Go.Proofs.YtedpaajpfaoffaaGreatDoor
