/- report.Result, for any bytes. -/
import Derived.Test.YtedpaajpfaoffaaGreatDoorSf0
import Derived.Deep.CutBlock
set_option linter.all false
set_option maxHeartbeats 8000000
set_option maxRecDepth 100000
namespace Go.Proofs.YtedpaajpfaoffaaGreatDoor
open Go.RowKit
theorem tailL_none {l : List UInt8} {ph : Int} {b : List (List UInt8)} {s : Int × Nat} (h : limO l 1 5 s = none) : tailL l ph (some (b, s)) = none := by unfold tailL; rw [Option.bind_some, h]; rfl
theorem tailL_some {l : List UInt8} {ph : Int} {b : List (List UInt8)} {s : Int × Nat} {n : Int} {a : Nat} (h : limO l 1 5 s = some (n, a)) : tailL l ph (some (b, s)) = if a = l.length then some (phaseL ph :: b ++ [Lib.join [nextB, phaseL n] [32]]) else none := by unfold tailL; rw [Option.bind_some, h]; rfl
def R8 (w : World) (p v m : Nat) (inp : Value) (l : List UInt8) (ph : Int) (res : Option (List (List UInt8))) (wx : World) : Prop := ∃ (b : List (List UInt8)) (s : Int × Nat) (A : Option Addr) (n c : Nat), n ≤ 600 ∧ RsAt w wx p v m inp l s (phaseL ph :: b) A n c ∧ Hid (res = tailL l ph (some (b, s)))
def R14 (w : World) (p v m : Nat) (inp : Value) (l : List UInt8) (res : Option (List (List UInt8))) (wx : World) : Prop := ∃ (A : Option Addr) (n c a : Nat) (xs : List (List UInt8)), a ≤ l.length ∧ RsAt w wx p v m inp l (0, a) xs A n c ∧ Hid (res = if a = l.length then some xs else none)
theorem own_reads {w : World} {A : Option Addr} {n c : Nat} {xs : List (List UInt8)} (h : Own w 9 1 (.slice A n c) n (xs.map str)) : StrsAt w (.slice A n c) xs := by
 have e : n = xs.length := by have := Own.len h; simp at this; omega
 subst e
 exact Own.reads h
theorem result_any (l : List UInt8) (vb : Value) (w : World) (mx : Int) (hv : Bytes w vb l) (hn : RN w) (h11 : 11 ≤ w.heap.size) (hmx : w.cell? ⟨6, 0, none⟩ = some (.int .i64 mx)) (hl : l.length ≤ 65536) : Calls Tryz.prog 15 #[vb] w (LinesPost (resL l) w) := by
 have hmf := make_func
 have hv' := hv
 obtain ⟨A, cap, rfl, hcap1, hcap2, -⟩ := hv'
 generalize hres : resL l = res
 have HRES := Lib.hid hres
 clear hres
 have HV := Lib.hid hv
 have HL := Lib.hid hl
 clear hv
 go_enter_defers Tryz.func15, Tryz.ntmps15
 go_wp2_with fail
 have ht2 : Touch [] w ((w.alloc (.cells #[.slice none 0 0] 39)).alloc (.cells #[.int .i64 0] 23)) := ((Touch.refl [] w).alloc _).alloc _
 have hL : Blk ((w.alloc (.cells #[.slice none 0 0] 39)).alloc (.cells #[.int .i64 0] 23)) w.heap.size 39 #[.slice none 0 0] := (Blk.new _ _ _).alloc _
 have hC : Blk ((w.alloc (.cells #[.slice none 0 0] 39)).alloc (.cells #[.int .i64 0] 23)) (w.heap.size + 1) 23 #[.int .i64 0] := by
  have := Blk.new (w.alloc (.cells #[.slice none 0 0] 39)) 23 #[.int .i64 0]
  simpa using this
 have hz2 : ((w.alloc (.cells #[.slice none 0 0] 39)).alloc (.cells #[.int .i64 0] 23)).heap.size = w.heap.size + 2 := by simp
 generalize (w.alloc (.cells #[.slice none 0 0] 39)).alloc (.cells #[.int .i64 0] 23) = w2 at *
 rw [show decide ((l.length : Int) ≤ 65536) = true from decide_eq_true (by omega)]
 refine (must_true w2).mono ?_
 rintro r w3 ⟨rfl, rfl⟩
 go_wp2_with fail
 refine (read_any _ l w3 (HV.out.touch0 ht2) (by have := HL.out; omega)).mono ?_
 rintro r w4 ⟨p, inp, rfl, hp, hinp, hR, ht3⟩
 have hplt := hR.1.lt
 go_wp2_with fail
 have hst0 : RsAt w (w4.alloc (.cells #[.pointer (some ⟨p, 0, none⟩)] 71)) p w4.heap.size (w4.heap.size + 1) inp l (0, 0) [] none 0 0 := by
  have ta := (Touch.refl [] w4).alloc (.cells #[.pointer (some ⟨p, 0, none⟩)] 71)
  have hr2 := hR.2.2.2.2.1
  exact ⟨hR.touch ta (by simp) (by simp), (hL.touch ht3 (by simp)).alloc _, (hC.touch ht3 (by simp)).alloc _, Blk.new _ _ _, Own.nil _ _ _, (fun g hg => by cases hg), fun g hg => by have := hinp g hg; have := hr2 g hg; omega, ⟨by omega, by omega, by omega, by simp⟩, (ht2.then0 ht3).alloc _⟩
 generalize (w4.alloc (.cells #[.pointer (some ⟨p, 0, none⟩)] 71)) = w5 at *
 generalize w4.heap.size = v at *
 generalize hm : v + 1 = m at *
 have hvp : v ≠ p := by have := hst0.ord; omega
 have hpn : 11 ≤ p := by have := hst0.ord; omega
 clear hm hL hC hR hz2 ht2 ht3 HV hplt hp hinp
 have HN := Lib.hid (fun (W : World) (t : Touch [] w W) => hn.touch t (by simp))
 have HMX : Hid (∀ W, Touch [] w W → W.cell? ⟨6, 0, none⟩ = some (.int .i64 mx)) := Lib.hid (fun W t => (t.cell (World.block_lt_of_cell? w _ hmx) (by simp)).trans hmx)
 clear hn hmx
 have HLIM := Lib.hid (fun (low lim : Int) (W : World) (s : Int × Nat) (h : Rd W p inp l s.1 s.2) (h2 : Blk W v 71 #[.pointer (some ⟨p, 0, none⟩)]) => limited_any low lim v p inp l s W h h2 hvp)
 have HST0 := Lib.hid hst0
 have hX := HLIM.out 1 3 w5 (0, 0) hst0.rd hst0.var
 clear hst0
 cases hs : limO l 1 3 (0, 0) with
 | none =>
  rw [hs] at hX
  refine hX.mono ?_
  rintro r w6 ⟨ht6, rfl⟩
  have hst0 := HST0.out
  unfold unread
  go_wp2_with fail
  obtain rfl : res = none := HRES.out.symm.trans (by rw [resL_eq, hs]; rfl)
  obtain ⟨x9, hbL, hbC, hcl, hcc, htf⟩ := hst0.fail ht6
  have HTF := Lib.hid htf
  clear htf
  refine leaves_cons (f := 38) (args := #[.pointer (some ⟨w.heap.size, 0, none⟩), .pointer (some ⟨w.heap.size + 1, 0, none⟩)]) (by simp) (by simp [go_sem]) ?_
  refine (rec_caught _ _ _ _ hbL hbC (by omega)).mono ?_
  rintro e u' w4 ⟨rfl, rfl, rfl⟩
  simp [Leaves, settle, results, Tryz.results15, go_sem, hcl, hcc]
  exact lines_none _ _ HTF.out
 | some x =>
 obtain ⟨k, a⟩ := x
 obtain ⟨-, k1, k3, -, -, -, ka⟩ := limO_some hs
 simp only at k1 k3 ka
 have HKA := Lib.hid ka
 clear ka
 have HS1 : Hid (res = tailL l k (bodyL l k a)) := Lib.hid (HRES.out.symm.trans (by rw [resL_eq, hs]; rfl))
 rw [hs] at hX
 clear hs
 refine hX.mono ?_
 clear hX
 rintro r w6 ⟨ht6, rfl, hr6⟩
 dsimp only at hr6 ⊢
 have hst6 := HST0.out.call (s' := (0, a)) ht6 hr6
 clear hr6 ht6 HST0
 obtain ⟨mk, rfl⟩ : ∃ mk : Nat, k = (mk : Int) + 1 := ⟨(k - 1).toNat, by omega⟩
 have hmk : mk < 5 := by omega
 have hmk' : (mk : Int) < 5 := by omega
 have cph := (HN.out w6 hst6.t).phase mk hmk
 obtain ⟨cl, fl, cv⟩ := hst6.cells
 have ll : w.heap.size < w6.heap.size := hst6.lines.lt
 have hst7 := hst6.first (phaseL ((mk : Int) + 1))
 clear hst6
 go_upto_block 0 with fail
 generalize ((w6.setCell ⟨w.heap.size, 0, none⟩ (.slice (some ⟨w6.heap.size, 0, none⟩) 1 1)).alloc (.cells #[.string ⟨(phaseL ((mk : Int) + 1)).toArray⟩] 9)) = w7 at *
 generalize w6.heap.size = g6 at *
 clear cph cl fl cv ll
 have HST7 := Lib.hid hst7
 go_cut [28] from 23 (fun _ wx => R8 w p v m inp l ((mk : Int) + 1) res wx)
 case first =>
  have hm3 : mk = 0 ∨ mk = 1 ∨ mk = 2 := by omega
  clear k1 k3 hmk hmk' hst7
  rcases hm3 with rfl | rfl | rfl
  ·have HS2 : Hid (res = tailL l (((0 : Nat) : Int) + 1) ((evL l a).map fun x => (x.1, (0, x.2)))) := Lib.hid (by rw [HS1.out]; rfl)
   have HEV := Lib.hid (fun (W : World) (A : Option Addr) (n c : Nat) (xs : List (List UInt8)) (h : RsAt w W p v m inp l (0, a) xs A n c) => events_any v p inp l a W h.rd h.var hvp (HN.out W h.t) (by omega))
   cases hev : evL l a with
   | none =>
    rw [hev] at HEV HS2
    go_upto_region 10 with fail
    have hst := HST7.out.quiet (Touch.refl [] _).drew
    obtain ⟨cl, fl, cv⟩ := hst.cells
    refine wp_region_held_drew (S := fun W => W.cell? ⟨v, 0, none⟩ = some (.pointer (some ⟨p, 0, none⟩))) (by kernel_rfl) cv (fun hS => ?_)
    refine wpAnyH_take (i := 1) (v := ?_) rfl (by kernel_rfl) (by kernel_rfl) (by kernel_rfl) (fun _ _ _ h => leaves_put (by decide) (by decide) h) (Or.inl ⟨by rfl, ?_⟩) hS ?_
    rotate_left
    ·(intro W hSW; go_simp <;> with_reducible rfl)
    simp only [nz]
    refine wpAnyH_take (i := 2) (v := ?_) rfl (by kernel_rfl) (by kernel_rfl) (by kernel_rfl) (fun _ _ _ h => leaves_put (by decide) (by decide) h) (Or.inl ⟨by rfl, ?_⟩) hS ?_
    rotate_left
    ·(intro W hSW; go_simp <;> with_reducible rfl)
    simp only [nz]
    refine wpAnyH_ready (rs := [0, 3]) (by kernel_rfl) (by simp) (AllReadyH.cons rfl (fun K hK => ?_) (AllReadyH.cons rfl (fun K hK => ?_) AllReadyH.nil))
    ·go_simp
     refine hK.out _ _ cv (fun hS => ?_)
     clear hK K
     try simp only [nz]
     refine rdy1 3 rfl (fun K hK => ?_)
     go_simp
     refine (HEV.out _ _ _ _ _ hst).mono ?_
     rintro r w9 ⟨hta, rfl⟩
     unfold unread
     go_wp2_with fail
     obtain rfl : res = none := HS2.out
     obtain ⟨x9, hbL, hbC, hcl, hcc, htf⟩ := hst.fail hta
     have HTF := Lib.hid htf
     clear htf
     refine leaves_cons (f := 38) (args := #[.pointer (some ⟨w.heap.size, 0, none⟩), .pointer (some ⟨w.heap.size + 1, 0, none⟩)]) (by simp) (by simp [go_sem]) ?_
     refine (rec_caught _ _ _ _ hbL hbC (by omega)).mono ?_
     rintro e u' w4 ⟨rfl, rfl, rfl⟩
     simp [Leaves, settle, results, Tryz.results15, go_sem, hcl, hcc]
     exact lines_none _ _ HTF.out
    ·go_simp
     refine (HEV.out _ _ _ _ _ hst).mono ?_
     rintro r w9 ⟨hta, rfl⟩
     unfold unread
     go_wp2_with fail
     obtain rfl : res = none := HS2.out
     obtain ⟨x9, hbL, hbC, hcl, hcc, htf⟩ := hst.fail hta
     have HTF := Lib.hid htf
     clear htf
     refine leaves_cons (f := 38) (args := #[.pointer (some ⟨w.heap.size, 0, none⟩), .pointer (some ⟨w.heap.size + 1, 0, none⟩)]) (by simp) (by simp [go_sem]) ?_
     refine (rec_caught _ _ _ _ hbL hbC (by omega)).mono ?_
     rintro e u' w4 ⟨rfl, rfl, rfl⟩
     simp [Leaves, settle, results, Tryz.results15, go_sem, hcl, hcc]
     exact lines_none _ _ HTF.out
   | some x =>
    rw [hev] at HEV HS2
    have hbl : x.1.length ≤ 512 := evL_len hev
    go_upto_region 10 with fail
    have hst := HST7.out.quiet (Touch.refl [] _).drew
    obtain ⟨cl, fl, cv⟩ := hst.cells
    refine wp_region_held_drew (S := fun W => W.cell? ⟨v, 0, none⟩ = some (.pointer (some ⟨p, 0, none⟩))) (by kernel_rfl) cv (fun hS => ?_)
    refine wpAnyH_take (i := 1) (v := ?_) rfl (by kernel_rfl) (by kernel_rfl) (by kernel_rfl) (fun _ _ _ h => leaves_put (by decide) (by decide) h) (Or.inl ⟨by rfl, ?_⟩) hS ?_
    rotate_left
    ·(intro W hSW; go_simp <;> with_reducible rfl)
    simp only [nz]
    refine wpAnyH_take (i := 2) (v := ?_) rfl (by kernel_rfl) (by kernel_rfl) (by kernel_rfl) (fun _ _ _ h => leaves_put (by decide) (by decide) h) (Or.inl ⟨by rfl, ?_⟩) hS ?_
    rotate_left
    ·(intro W hSW; go_simp <;> with_reducible rfl)
    simp only [nz]
    refine wpAnyH_ready (rs := [0, 3]) (by kernel_rfl) (by simp) (AllReadyH.cons rfl (fun K hK => ?_) (AllReadyH.cons rfl (fun K hK => ?_) AllReadyH.nil))
    ·go_simp
     refine hK.out _ _ cv (fun hS => ?_)
     clear hK K
     try simp only [nz]
     refine rdy1 3 rfl (fun K hK => ?_)
     go_simp
     refine (HEV.out _ _ _ _ _ hst).mono ?_
     rintro r w9 ⟨hta, u, rfl, hou, hfu, hrn⟩
     replace hst := hst.call (s' := (0, x.2)) hta hrn
     obtain ⟨Au, cu, rfl⟩ := hou.form
     clear hta hrn
     clear cl fl cv
     obtain ⟨cl, fl, cv⟩ := hst.cells
     go_wp2_with fail
     refine hK.out _ _ cv (fun hS => ?_)
     clear hK K
     try simp only [nz]
     refine rdy1 4 rfl (fun K hK => ?_)
     refine step_app_reads elem_str hst.own hou.reads (by simp [str, Value.oneCell']) (by omega) (by unfold maxLen; omega) ?_
     intro v3 w10 ho3 ht3 hf3
     obtain ⟨A3, c3, rfl⟩ := Own.form ho3
     obtain ⟨ml, mf, mv⟩ := hst.mid ht3
     refine hK.out _ _ mv (fun hS => ?_)
     clear hK K
     try simp only [nz]
     refine rdy1 5 rfl (fun K hK => ?_)
     go_simp
     have hstz := hst.grow (xs' := phaseL (((0 : Nat) : Int) + 1) :: x.1) (by exact ho3) ht3 hf3
     generalize w10.setCell ⟨w.heap.size, 0, none⟩ (.slice A3 (1 + x.1.length) c3) = w11 at *
     clear cl fl cv ml mf mv
     refine hK.out _ _ hstz.cells.2.2 (fun hS => ?_)
     clear hK K
     try simp only [nz]
     refine wpAnyH_done (by kernel_rfl) ?_ _
     go_wp2_with fail
     go_meet
     exact ⟨x.1, (0, x.2), A3, _, c3, by omega, hstz, HS2⟩
    ·go_simp
     refine (HEV.out _ _ _ _ _ hst).mono ?_
     rintro r w9 ⟨hta, u, rfl, hou, hfu, hrn⟩
     replace hst := hst.call (s' := (0, x.2)) hta hrn
     obtain ⟨Au, cu, rfl⟩ := hou.form
     clear hta hrn
     clear cl fl cv
     obtain ⟨cl, fl, cv⟩ := hst.cells
     go_wp2_with fail
     refine hK.out _ _ cv (fun hS => ?_)
     clear hK K
     try simp only [nz]
     refine rdy1 0 rfl (fun K hK => ?_)
     go_simp
     refine hK.out _ _ cv (fun hS => ?_)
     clear hK K
     try simp only [nz]
     refine rdy1 4 rfl (fun K hK => ?_)
     refine step_app_reads elem_str hst.own hou.reads (by simp [str, Value.oneCell']) (by omega) (by unfold maxLen; omega) ?_
     intro v3 w10 ho3 ht3 hf3
     obtain ⟨A3, c3, rfl⟩ := Own.form ho3
     obtain ⟨ml, mf, mv⟩ := hst.mid ht3
     refine hK.out _ _ mv (fun hS => ?_)
     clear hK K
     try simp only [nz]
     refine rdy1 5 rfl (fun K hK => ?_)
     go_simp
     have hstz := hst.grow (xs' := phaseL (((0 : Nat) : Int) + 1) :: x.1) (by exact ho3) ht3 hf3
     generalize w10.setCell ⟨w.heap.size, 0, none⟩ (.slice A3 (1 + x.1.length) c3) = w11 at *
     clear cl fl cv ml mf mv
     refine hK.out _ _ hstz.cells.2.2 (fun hS => ?_)
     clear hK K
     try simp only [nz]
     refine wpAnyH_done (by kernel_rfl) ?_ _
     go_wp2_with fail
     go_meet
     exact ⟨x.1, (0, x.2), A3, _, c3, by omega, hstz, HS2⟩
  ·have ka := HKA.out
   generalize hR1 : rRead [] (pInts l 128) (0, a) = x1
   obtain ⟨xs, s1⟩ := x1
   generalize hR2 : rRead [] (pInts l 128) s1 = x2
   obtain ⟨ys, s2⟩ := x2
   have F1 := rInts_in l 128 (0, a) (by omega) ka
   rw [hR1] at F1
   dsimp only at F1
   have F2 := rInts_in l 128 s1 (by omega) F1.2.2
   rw [hR2] at F2
   dsimp only at F2
   have HF := Lib.hid (And.intro F1 F2)
   have HS2 : Hid (res = tailL l (((1 : Nat) : Int) + 1) (some ([listLine appliedB Lib.itoa xs, listLine pricesB moneyL ys], s2))) := Lib.hid (by
    rw [HS1.out]
    show tailL l _ (bodyL l 2 a) = _
    unfold bodyL
    rw [if_neg (by decide), if_pos rfl]
    simp only [hR1, hR2])
   have HI1 := Lib.hid (fun (W : World) (A : Option Addr) (n c : Nat) (zs : List (List UInt8)) (h : RsAt w W p v m inp l (0, a) zs A n c) => rd_ints p inp l (0, a) 128 W h.rd)
   have HI2 := Lib.hid (fun (W : World) (A : Option Addr) (n c : Nat) (zs : List (List UInt8)) (h : RsAt w W p v m inp l s1 zs A n c) => rd_ints p inp l s1 128 W h.rd)
   rw [hR1] at HI1
   rw [hR2] at HI2
   dsimp only at HI1 HI2
   have HLS1 := Lib.hid (fun (W : World) (A : Option Addr) (n c : Nat) (zs : List (List UInt8)) (s : Int × Nat) (u : Value) (h : RsAt w W p v m inp l s zs A n c) (hu : RowI W u xs) => list_any 21 Lib.itoa appliedB u xs W hu HF.out.1.1 (by have := HF.out.1.2.1; omega) (by decide) (fun n hn => Nat.le_trans (itoa_le20 n (HF.out.1.1 n hn).1 (HF.out.1.1 n hn).2) (by omega)) (fun _ _ => by kernel_rfl) (fun W' n t hn => itoa_any n W' hn.1 hn.2 (HN.out W' (h.t.then0 t)).tab))
   have HLS2 := Lib.hid (fun (W : World) (A : Option Addr) (n c : Nat) (zs : List (List UInt8)) (s : Int × Nat) (u : Value) (h : RsAt w W p v m inp l s zs A n c) (hu : RowI W u ys) => list_any 10 moneyL pricesB u ys W hu HF.out.2.1 (by have := HF.out.2.2.1; omega) (by decide) (fun n hn => money_le n (HF.out.2.1 n hn).1 (HF.out.2.1 n hn).2) (fun _ _ => by kernel_rfl) (fun W' n t hn => money_any n W' hn.1 hn.2 (HN.out W' (h.t.then0 t)).tab))
   clear hR1 hR2 F1 F2 ka
   generalize listLine appliedB Lib.itoa xs = ln1 at *
   generalize listLine pricesB moneyL ys = ln2 at *
   go_upto_region 12 with fail
   go_cut [28] from 29 (fun _ wx => ∃ A c, RsAt w wx p v m inp l s1 (phaseL (((1 : Nat) : Int) + 1) :: [ln1]) A 2 c)
   case first =>
    go_upto_region 12 with fail
    have hst := HST7.out.quiet (Touch.refl [] _).drew
    obtain ⟨cl, fl, cv⟩ := hst.cells
    refine wp_region_held_drew (S := fun W => W.cell? ⟨v, 0, none⟩ = some (.pointer (some ⟨p, 0, none⟩))) (by kernel_rfl) cv (fun hS => ?_)
    refine wpAnyH_take (i := 1) (v := ?_) rfl (by kernel_rfl) (by kernel_rfl) (by kernel_rfl) (fun _ _ _ h => leaves_put (by decide) (by decide) h) (Or.inl ⟨by rfl, ?_⟩) hS ?_
    rotate_left
    ·(intro W hSW; go_simp <;> with_reducible rfl)
    simp only [nz]
    refine wpAnyH_ready (rs := [0, 2]) (by kernel_rfl) (by simp) (AllReadyH.cons rfl (fun K hK => ?_) (AllReadyH.cons rfl (fun K hK => ?_) AllReadyH.nil))
    ·go_simp
     refine hK.out _ _ cv (fun hS => ?_)
     clear hK K
     try simp only [nz]
     refine rdy1 2 rfl (fun K hK => ?_)
     go_simp
     refine (HI1.out _ _ _ _ _ hst).mono ?_
     rintro r w9 ⟨ui, rfl, hui, hfi, hrn, hta⟩
     replace hst := hst.call (s' := s1) hta hrn
     obtain ⟨Ai, ci, rfl⟩ := Own.form hui
     have HUI := Lib.hid hui
     clear hta hrn hui hfi
     clear cl fl cv
     obtain ⟨cl, fl, cv⟩ := hst.cells
     go_wp2_with fail
     refine hK.out _ _ cv (fun hS => ?_)
     clear hK K
     try simp only [nz]
     refine rdy1 3 rfl (fun K hK => ?_)
     go_simp
     refine (HLS1.out _ _ _ _ _ _ _ hst HUI.out).mono ?_
     rintro r wb ⟨rfl, hta⟩
     replace hst := hst.quiet hta
     clear hta
     clear cl fl cv
     obtain ⟨cl, fl, cv⟩ := hst.cells
     go_wp2_with fail
     refine hK.out _ _ cv (fun hS => ?_)
     clear hK K
     try simp only [nz]
     refine rdy1 4 rfl (fun K hK => ?_)
     go_simp
     have hta := (Touch.refl [] wb).alloc (.cells #[.string ⟨ln1.toArray⟩] 9)
     have hrl := (ownLit wb _ rfl 9 1 1 [.string ⟨ln1.toArray⟩] rfl (by simp [maxLen])).reads
     replace hst := hst.quiet hta
     clear hta
     clear cl fl cv
     obtain ⟨cl, fl, cv⟩ := hst.cells
     generalize (wb.alloc (.cells #[.string ⟨ln1.toArray⟩] 9)) = wd at *
     refine hK.out _ _ cv (fun hS => ?_)
     clear hK K
     try simp only [nz]
     refine rdy1 5 rfl (fun K hK => ?_)
     refine step_app_reads elem_str hst.own hrl (by simp [Value.oneCell']) (by omega) (by unfold maxLen; omega) ?_
     intro v3 w10 ho3 ht3 hf3
     replace ho3 : Own w10 9 1 v3 2 _ := ho3
     obtain ⟨A3, c3, rfl⟩ := Own.form ho3
     obtain ⟨ml, mf, mv⟩ := hst.mid ht3
     refine hK.out _ _ mv (fun hS => ?_)
     clear hK K
     try simp only [nz]
     refine rdy1 6 rfl (fun K hK => ?_)
     go_simp
     have hstz := hst.grow (xs' := phaseL (((1 : Nat) : Int) + 1) :: [ln1]) (by exact ho3) ht3 hf3
     generalize w10.setCell ⟨w.heap.size, 0, none⟩ (.slice A3 2 c3) = w11 at *
     clear cl fl cv ml mf mv
     refine hK.out _ _ hstz.cells.2.2 (fun hS => ?_)
     clear hK K
     try simp only [nz]
     refine wpAnyH_done (by kernel_rfl) ?_ _
     go_wp2_with fail
     go_meet
     exact ⟨A3, c3, hstz⟩
    ·go_simp
     refine (HI1.out _ _ _ _ _ hst).mono ?_
     rintro r w9 ⟨ui, rfl, hui, hfi, hrn, hta⟩
     replace hst := hst.call (s' := s1) hta hrn
     obtain ⟨Ai, ci, rfl⟩ := Own.form hui
     have HUI := Lib.hid hui
     clear hta hrn hui hfi
     clear cl fl cv
     obtain ⟨cl, fl, cv⟩ := hst.cells
     go_wp2_with fail
     refine hK.out _ _ cv (fun hS => ?_)
     clear hK K
     try simp only [nz]
     refine wpAnyH_ready (rs := [0, 3]) (by kernel_rfl) (by simp) (AllReadyH.cons rfl (fun K hK => ?_) (AllReadyH.cons rfl (fun K hK => ?_) AllReadyH.nil))
     ·go_simp
      refine hK.out _ _ cv (fun hS => ?_)
      clear hK K
      try simp only [nz]
      refine rdy1 3 rfl (fun K hK => ?_)
      go_simp
      refine (HLS1.out _ _ _ _ _ _ _ hst HUI.out).mono ?_
      rintro r wb ⟨rfl, hta⟩
      replace hst := hst.quiet hta
      clear hta
      clear cl fl cv
      obtain ⟨cl, fl, cv⟩ := hst.cells
      go_wp2_with fail
      refine hK.out _ _ cv (fun hS => ?_)
      clear hK K
      try simp only [nz]
      refine rdy1 4 rfl (fun K hK => ?_)
      go_simp
      have hta := (Touch.refl [] wb).alloc (.cells #[.string ⟨ln1.toArray⟩] 9)
      have hrl := (ownLit wb _ rfl 9 1 1 [.string ⟨ln1.toArray⟩] rfl (by simp [maxLen])).reads
      replace hst := hst.quiet hta
      clear hta
      clear cl fl cv
      obtain ⟨cl, fl, cv⟩ := hst.cells
      generalize (wb.alloc (.cells #[.string ⟨ln1.toArray⟩] 9)) = wd at *
      refine hK.out _ _ cv (fun hS => ?_)
      clear hK K
      try simp only [nz]
      refine rdy1 5 rfl (fun K hK => ?_)
      refine step_app_reads elem_str hst.own hrl (by simp [Value.oneCell']) (by omega) (by unfold maxLen; omega) ?_
      intro v3 w10 ho3 ht3 hf3
      replace ho3 : Own w10 9 1 v3 2 _ := ho3
      obtain ⟨A3, c3, rfl⟩ := Own.form ho3
      obtain ⟨ml, mf, mv⟩ := hst.mid ht3
      refine hK.out _ _ mv (fun hS => ?_)
      clear hK K
      try simp only [nz]
      refine rdy1 6 rfl (fun K hK => ?_)
      go_simp
      have hstz := hst.grow (xs' := phaseL (((1 : Nat) : Int) + 1) :: [ln1]) (by exact ho3) ht3 hf3
      generalize w10.setCell ⟨w.heap.size, 0, none⟩ (.slice A3 2 c3) = w11 at *
      clear cl fl cv ml mf mv
      refine hK.out _ _ hstz.cells.2.2 (fun hS => ?_)
      clear hK K
      try simp only [nz]
      refine wpAnyH_done (by kernel_rfl) ?_ _
      go_wp2_with fail
      go_meet
      exact ⟨A3, c3, hstz⟩
     ·go_simp
      refine (HLS1.out _ _ _ _ _ _ _ hst HUI.out).mono ?_
      rintro r wb ⟨rfl, hta⟩
      replace hst := hst.quiet hta
      clear hta
      clear cl fl cv
      obtain ⟨cl, fl, cv⟩ := hst.cells
      go_wp2_with fail
      refine hK.out _ _ cv (fun hS => ?_)
      clear hK K
      try simp only [nz]
      refine wpAnyH_ready (rs := [0, 4]) (by kernel_rfl) (by simp) (AllReadyH.cons rfl (fun K hK => ?_) (AllReadyH.cons rfl (fun K hK => ?_) AllReadyH.nil))
      ·go_simp
       refine hK.out _ _ cv (fun hS => ?_)
       clear hK K
       try simp only [nz]
       refine rdy1 4 rfl (fun K hK => ?_)
       go_simp
       have hta := (Touch.refl [] wb).alloc (.cells #[.string ⟨ln1.toArray⟩] 9)
       have hrl := (ownLit wb _ rfl 9 1 1 [.string ⟨ln1.toArray⟩] rfl (by simp [maxLen])).reads
       replace hst := hst.quiet hta
       clear hta
       clear cl fl cv
       obtain ⟨cl, fl, cv⟩ := hst.cells
       generalize (wb.alloc (.cells #[.string ⟨ln1.toArray⟩] 9)) = wd at *
       refine hK.out _ _ cv (fun hS => ?_)
       clear hK K
       try simp only [nz]
       refine rdy1 5 rfl (fun K hK => ?_)
       refine step_app_reads elem_str hst.own hrl (by simp [Value.oneCell']) (by omega) (by unfold maxLen; omega) ?_
       intro v3 w10 ho3 ht3 hf3
       replace ho3 : Own w10 9 1 v3 2 _ := ho3
       obtain ⟨A3, c3, rfl⟩ := Own.form ho3
       obtain ⟨ml, mf, mv⟩ := hst.mid ht3
       refine hK.out _ _ mv (fun hS => ?_)
       clear hK K
       try simp only [nz]
       refine rdy1 6 rfl (fun K hK => ?_)
       go_simp
       have hstz := hst.grow (xs' := phaseL (((1 : Nat) : Int) + 1) :: [ln1]) (by exact ho3) ht3 hf3
       generalize w10.setCell ⟨w.heap.size, 0, none⟩ (.slice A3 2 c3) = w11 at *
       clear cl fl cv ml mf mv
       refine hK.out _ _ hstz.cells.2.2 (fun hS => ?_)
       clear hK K
       try simp only [nz]
       refine wpAnyH_done (by kernel_rfl) ?_ _
       go_wp2_with fail
       go_meet
       exact ⟨A3, c3, hstz⟩
      ·go_simp
       have hta := (Touch.refl [] wb).alloc (.cells #[.string ⟨ln1.toArray⟩] 9)
       have hrl := (ownLit wb _ rfl 9 1 1 [.string ⟨ln1.toArray⟩] rfl (by simp [maxLen])).reads
       replace hst := hst.quiet hta
       clear hta
       clear cl fl cv
       obtain ⟨cl, fl, cv⟩ := hst.cells
       generalize (wb.alloc (.cells #[.string ⟨ln1.toArray⟩] 9)) = wd at *
       refine hK.out _ _ cv (fun hS => ?_)
       clear hK K
       try simp only [nz]
       refine rdy1 0 rfl (fun K hK => ?_)
       go_simp
       refine hK.out _ _ cv (fun hS => ?_)
       clear hK K
       try simp only [nz]
       refine rdy1 5 rfl (fun K hK => ?_)
       refine step_app_reads elem_str hst.own hrl (by simp [Value.oneCell']) (by omega) (by unfold maxLen; omega) ?_
       intro v3 w10 ho3 ht3 hf3
       replace ho3 : Own w10 9 1 v3 2 _ := ho3
       obtain ⟨A3, c3, rfl⟩ := Own.form ho3
       obtain ⟨ml, mf, mv⟩ := hst.mid ht3
       refine hK.out _ _ mv (fun hS => ?_)
       clear hK K
       try simp only [nz]
       refine rdy1 6 rfl (fun K hK => ?_)
       go_simp
       have hstz := hst.grow (xs' := phaseL (((1 : Nat) : Int) + 1) :: [ln1]) (by exact ho3) ht3 hf3
       generalize w10.setCell ⟨w.heap.size, 0, none⟩ (.slice A3 2 c3) = w11 at *
       clear cl fl cv ml mf mv
       refine hK.out _ _ hstz.cells.2.2 (fun hS => ?_)
       clear hK K
       try simp only [nz]
       refine wpAnyH_done (by kernel_rfl) ?_ _
       go_wp2_with fail
       go_meet
       exact ⟨A3, c3, hstz⟩
   case rest =>
    obtain ⟨Az, cz, hstz⟩ := hcut
    go_upto_region 13 with fail
    have hst := hstz.quiet (Touch.refl [] _).drew
    obtain ⟨cl, fl, cv⟩ := hst.cells
    refine wp_region_held_drew (S := fun W => W.cell? ⟨v, 0, none⟩ = some (.pointer (some ⟨p, 0, none⟩))) (by kernel_rfl) cv (fun hS => ?_)
    refine wpAnyH_take (i := 1) (v := ?_) rfl (by kernel_rfl) (by kernel_rfl) (by kernel_rfl) (fun _ _ _ h => leaves_put (by decide) (by decide) h) (Or.inl ⟨by rfl, ?_⟩) hS ?_
    rotate_left
    ·(intro W hSW; go_simp <;> with_reducible rfl)
    simp only [nz]
    refine wpAnyH_ready (rs := [0, 2]) (by kernel_rfl) (by simp) (AllReadyH.cons rfl (fun K hK => ?_) (AllReadyH.cons rfl (fun K hK => ?_) AllReadyH.nil))
    ·go_simp
     refine hK.out _ _ cv (fun hS => ?_)
     clear hK K
     try simp only [nz]
     refine rdy1 2 rfl (fun K hK => ?_)
     go_simp
     refine (HI2.out _ _ _ _ _ hst).mono ?_
     rintro r w9 ⟨ui, rfl, hui, hfi, hrn, hta⟩
     replace hst := hst.call (s' := s2) hta hrn
     obtain ⟨Ai, ci, rfl⟩ := Own.form hui
     have HUI := Lib.hid hui
     clear hta hrn hui hfi
     clear cl fl cv
     obtain ⟨cl, fl, cv⟩ := hst.cells
     go_wp2_with fail
     refine hK.out _ _ cv (fun hS => ?_)
     clear hK K
     try simp only [nz]
     refine rdy1 3 rfl (fun K hK => ?_)
     go_simp
     refine (HLS2.out _ _ _ _ _ _ _ hst HUI.out).mono ?_
     rintro r wb ⟨rfl, hta⟩
     replace hst := hst.quiet hta
     clear hta
     clear cl fl cv
     obtain ⟨cl, fl, cv⟩ := hst.cells
     go_wp2_with fail
     refine hK.out _ _ cv (fun hS => ?_)
     clear hK K
     try simp only [nz]
     refine rdy1 4 rfl (fun K hK => ?_)
     go_simp
     have hta := (Touch.refl [] wb).alloc (.cells #[.string ⟨ln2.toArray⟩] 9)
     have hrl := (ownLit wb _ rfl 9 1 1 [.string ⟨ln2.toArray⟩] rfl (by simp [maxLen])).reads
     replace hst := hst.quiet hta
     clear hta
     clear cl fl cv
     obtain ⟨cl, fl, cv⟩ := hst.cells
     generalize (wb.alloc (.cells #[.string ⟨ln2.toArray⟩] 9)) = wd at *
     refine hK.out _ _ cv (fun hS => ?_)
     clear hK K
     try simp only [nz]
     refine rdy1 5 rfl (fun K hK => ?_)
     refine step_app_reads elem_str hst.own hrl (by simp [Value.oneCell']) (by omega) (by unfold maxLen; omega) ?_
     intro v3 w10 ho3 ht3 hf3
     replace ho3 : Own w10 9 1 v3 3 _ := ho3
     obtain ⟨A3, c3, rfl⟩ := Own.form ho3
     obtain ⟨ml, mf, mv⟩ := hst.mid ht3
     refine hK.out _ _ mv (fun hS => ?_)
     clear hK K
     try simp only [nz]
     refine rdy1 6 rfl (fun K hK => ?_)
     go_simp
     have hstz2 := hst.grow (xs' := phaseL (((1 : Nat) : Int) + 1) :: [ln1, ln2]) (by exact ho3) ht3 hf3
     generalize w10.setCell ⟨w.heap.size, 0, none⟩ (.slice A3 3 c3) = w11 at *
     clear cl fl cv ml mf mv
     refine hK.out _ _ hstz2.cells.2.2 (fun hS => ?_)
     clear hK K
     try simp only [nz]
     refine wpAnyH_done (by kernel_rfl) ?_ _
     go_wp2_with fail
     go_meet
     exact ⟨[ln1, ln2], s2, A3, _, c3, by omega, hstz2, HS2⟩
    ·go_simp
     refine (HI2.out _ _ _ _ _ hst).mono ?_
     rintro r w9 ⟨ui, rfl, hui, hfi, hrn, hta⟩
     replace hst := hst.call (s' := s2) hta hrn
     obtain ⟨Ai, ci, rfl⟩ := Own.form hui
     have HUI := Lib.hid hui
     clear hta hrn hui hfi
     clear cl fl cv
     obtain ⟨cl, fl, cv⟩ := hst.cells
     go_wp2_with fail
     refine hK.out _ _ cv (fun hS => ?_)
     clear hK K
     try simp only [nz]
     refine wpAnyH_ready (rs := [0, 3]) (by kernel_rfl) (by simp) (AllReadyH.cons rfl (fun K hK => ?_) (AllReadyH.cons rfl (fun K hK => ?_) AllReadyH.nil))
     ·go_simp
      refine hK.out _ _ cv (fun hS => ?_)
      clear hK K
      try simp only [nz]
      refine rdy1 3 rfl (fun K hK => ?_)
      go_simp
      refine (HLS2.out _ _ _ _ _ _ _ hst HUI.out).mono ?_
      rintro r wb ⟨rfl, hta⟩
      replace hst := hst.quiet hta
      clear hta
      clear cl fl cv
      obtain ⟨cl, fl, cv⟩ := hst.cells
      go_wp2_with fail
      refine hK.out _ _ cv (fun hS => ?_)
      clear hK K
      try simp only [nz]
      refine rdy1 4 rfl (fun K hK => ?_)
      go_simp
      have hta := (Touch.refl [] wb).alloc (.cells #[.string ⟨ln2.toArray⟩] 9)
      have hrl := (ownLit wb _ rfl 9 1 1 [.string ⟨ln2.toArray⟩] rfl (by simp [maxLen])).reads
      replace hst := hst.quiet hta
      clear hta
      clear cl fl cv
      obtain ⟨cl, fl, cv⟩ := hst.cells
      generalize (wb.alloc (.cells #[.string ⟨ln2.toArray⟩] 9)) = wd at *
      refine hK.out _ _ cv (fun hS => ?_)
      clear hK K
      try simp only [nz]
      refine rdy1 5 rfl (fun K hK => ?_)
      refine step_app_reads elem_str hst.own hrl (by simp [Value.oneCell']) (by omega) (by unfold maxLen; omega) ?_
      intro v3 w10 ho3 ht3 hf3
      replace ho3 : Own w10 9 1 v3 3 _ := ho3
      obtain ⟨A3, c3, rfl⟩ := Own.form ho3
      obtain ⟨ml, mf, mv⟩ := hst.mid ht3
      refine hK.out _ _ mv (fun hS => ?_)
      clear hK K
      try simp only [nz]
      refine rdy1 6 rfl (fun K hK => ?_)
      go_simp
      have hstz2 := hst.grow (xs' := phaseL (((1 : Nat) : Int) + 1) :: [ln1, ln2]) (by exact ho3) ht3 hf3
      generalize w10.setCell ⟨w.heap.size, 0, none⟩ (.slice A3 3 c3) = w11 at *
      clear cl fl cv ml mf mv
      refine hK.out _ _ hstz2.cells.2.2 (fun hS => ?_)
      clear hK K
      try simp only [nz]
      refine wpAnyH_done (by kernel_rfl) ?_ _
      go_wp2_with fail
      go_meet
      exact ⟨[ln1, ln2], s2, A3, _, c3, by omega, hstz2, HS2⟩
     ·go_simp
      refine (HLS2.out _ _ _ _ _ _ _ hst HUI.out).mono ?_
      rintro r wb ⟨rfl, hta⟩
      replace hst := hst.quiet hta
      clear hta
      clear cl fl cv
      obtain ⟨cl, fl, cv⟩ := hst.cells
      go_wp2_with fail
      refine hK.out _ _ cv (fun hS => ?_)
      clear hK K
      try simp only [nz]
      refine wpAnyH_ready (rs := [0, 4]) (by kernel_rfl) (by simp) (AllReadyH.cons rfl (fun K hK => ?_) (AllReadyH.cons rfl (fun K hK => ?_) AllReadyH.nil))
      ·go_simp
       refine hK.out _ _ cv (fun hS => ?_)
       clear hK K
       try simp only [nz]
       refine rdy1 4 rfl (fun K hK => ?_)
       go_simp
       have hta := (Touch.refl [] wb).alloc (.cells #[.string ⟨ln2.toArray⟩] 9)
       have hrl := (ownLit wb _ rfl 9 1 1 [.string ⟨ln2.toArray⟩] rfl (by simp [maxLen])).reads
       replace hst := hst.quiet hta
       clear hta
       clear cl fl cv
       obtain ⟨cl, fl, cv⟩ := hst.cells
       generalize (wb.alloc (.cells #[.string ⟨ln2.toArray⟩] 9)) = wd at *
       refine hK.out _ _ cv (fun hS => ?_)
       clear hK K
       try simp only [nz]
       refine rdy1 5 rfl (fun K hK => ?_)
       refine step_app_reads elem_str hst.own hrl (by simp [Value.oneCell']) (by omega) (by unfold maxLen; omega) ?_
       intro v3 w10 ho3 ht3 hf3
       replace ho3 : Own w10 9 1 v3 3 _ := ho3
       obtain ⟨A3, c3, rfl⟩ := Own.form ho3
       obtain ⟨ml, mf, mv⟩ := hst.mid ht3
       refine hK.out _ _ mv (fun hS => ?_)
       clear hK K
       try simp only [nz]
       refine rdy1 6 rfl (fun K hK => ?_)
       go_simp
       have hstz2 := hst.grow (xs' := phaseL (((1 : Nat) : Int) + 1) :: [ln1, ln2]) (by exact ho3) ht3 hf3
       generalize w10.setCell ⟨w.heap.size, 0, none⟩ (.slice A3 3 c3) = w11 at *
       clear cl fl cv ml mf mv
       refine hK.out _ _ hstz2.cells.2.2 (fun hS => ?_)
       clear hK K
       try simp only [nz]
       refine wpAnyH_done (by kernel_rfl) ?_ _
       go_wp2_with fail
       go_meet
       exact ⟨[ln1, ln2], s2, A3, _, c3, by omega, hstz2, HS2⟩
      ·go_simp
       have hta := (Touch.refl [] wb).alloc (.cells #[.string ⟨ln2.toArray⟩] 9)
       have hrl := (ownLit wb _ rfl 9 1 1 [.string ⟨ln2.toArray⟩] rfl (by simp [maxLen])).reads
       replace hst := hst.quiet hta
       clear hta
       clear cl fl cv
       obtain ⟨cl, fl, cv⟩ := hst.cells
       generalize (wb.alloc (.cells #[.string ⟨ln2.toArray⟩] 9)) = wd at *
       refine hK.out _ _ cv (fun hS => ?_)
       clear hK K
       try simp only [nz]
       refine rdy1 0 rfl (fun K hK => ?_)
       go_simp
       refine hK.out _ _ cv (fun hS => ?_)
       clear hK K
       try simp only [nz]
       refine rdy1 5 rfl (fun K hK => ?_)
       refine step_app_reads elem_str hst.own hrl (by simp [Value.oneCell']) (by omega) (by unfold maxLen; omega) ?_
       intro v3 w10 ho3 ht3 hf3
       replace ho3 : Own w10 9 1 v3 3 _ := ho3
       obtain ⟨A3, c3, rfl⟩ := Own.form ho3
       obtain ⟨ml, mf, mv⟩ := hst.mid ht3
       refine hK.out _ _ mv (fun hS => ?_)
       clear hK K
       try simp only [nz]
       refine rdy1 6 rfl (fun K hK => ?_)
       go_simp
       have hstz2 := hst.grow (xs' := phaseL (((1 : Nat) : Int) + 1) :: [ln1, ln2]) (by exact ho3) ht3 hf3
       generalize w10.setCell ⟨w.heap.size, 0, none⟩ (.slice A3 3 c3) = w11 at *
       clear cl fl cv ml mf mv
       refine hK.out _ _ hstz2.cells.2.2 (fun hS => ?_)
       clear hK K
       try simp only [nz]
       refine wpAnyH_done (by kernel_rfl) ?_ _
       go_wp2_with fail
       go_meet
       exact ⟨[ln1, ln2], s2, A3, _, c3, by omega, hstz2, HS2⟩
  ·have HS2 : Hid (res = tailL l (((2 : Nat) : Int) + 1) ((areasL l a).map fun x => (x.1, (0, x.2)))) := Lib.hid (by rw [HS1.out]; rfl)
   have HEV := Lib.hid (fun (W : World) (A : Option Addr) (n c : Nat) (xs : List (List UInt8)) (h : RsAt w W p v m inp l (0, a) xs A n c) => areas_any v p inp l a W mx h.rd h.var hvp (HN.out W h.t) hpn (HMX.out W h.t) (by have := HL.out; omega))
   cases hev : areasL l a with
   | none =>
    rw [hev] at HEV HS2
    go_upto_region 8 with fail
    have hst := HST7.out.quiet (Touch.refl [] _).drew
    obtain ⟨cl, fl, cv⟩ := hst.cells
    refine wp_region_held_drew (S := fun W => W.cell? ⟨v, 0, none⟩ = some (.pointer (some ⟨p, 0, none⟩))) (by kernel_rfl) cv (fun hS => ?_)
    refine wpAnyH_take (i := 1) (v := ?_) rfl (by kernel_rfl) (by kernel_rfl) (by kernel_rfl) (fun _ _ _ h => leaves_put (by decide) (by decide) h) (Or.inl ⟨by rfl, ?_⟩) hS ?_
    rotate_left
    ·(intro W hSW; go_simp <;> with_reducible rfl)
    simp only [nz]
    refine wpAnyH_take (i := 2) (v := ?_) rfl (by kernel_rfl) (by kernel_rfl) (by kernel_rfl) (fun _ _ _ h => leaves_put (by decide) (by decide) h) (Or.inl ⟨by rfl, ?_⟩) hS ?_
    rotate_left
    ·(intro W hSW; go_simp <;> with_reducible rfl)
    simp only [nz]
    refine wpAnyH_ready (rs := [0, 3]) (by kernel_rfl) (by simp) (AllReadyH.cons rfl (fun K hK => ?_) (AllReadyH.cons rfl (fun K hK => ?_) AllReadyH.nil))
    ·go_simp
     refine hK.out _ _ cv (fun hS => ?_)
     clear hK K
     try simp only [nz]
     refine rdy1 3 rfl (fun K hK => ?_)
     go_simp
     refine (HEV.out _ _ _ _ _ hst).mono ?_
     rintro r w9 ⟨hta, rfl⟩
     unfold unread
     go_wp2_with fail
     obtain rfl : res = none := HS2.out
     obtain ⟨x9, hbL, hbC, hcl, hcc, htf⟩ := hst.fail hta
     have HTF := Lib.hid htf
     clear htf
     refine leaves_cons (f := 38) (args := #[.pointer (some ⟨w.heap.size, 0, none⟩), .pointer (some ⟨w.heap.size + 1, 0, none⟩)]) (by simp) (by simp [go_sem]) ?_
     refine (rec_caught _ _ _ _ hbL hbC (by omega)).mono ?_
     rintro e u' w4 ⟨rfl, rfl, rfl⟩
     simp [Leaves, settle, results, Tryz.results15, go_sem, hcl, hcc]
     exact lines_none _ _ HTF.out
    ·go_simp
     refine (HEV.out _ _ _ _ _ hst).mono ?_
     rintro r w9 ⟨hta, rfl⟩
     unfold unread
     go_wp2_with fail
     obtain rfl : res = none := HS2.out
     obtain ⟨x9, hbL, hbC, hcl, hcc, htf⟩ := hst.fail hta
     have HTF := Lib.hid htf
     clear htf
     refine leaves_cons (f := 38) (args := #[.pointer (some ⟨w.heap.size, 0, none⟩), .pointer (some ⟨w.heap.size + 1, 0, none⟩)]) (by simp) (by simp [go_sem]) ?_
     refine (rec_caught _ _ _ _ hbL hbC (by omega)).mono ?_
     rintro e u' w4 ⟨rfl, rfl, rfl⟩
     simp [Leaves, settle, results, Tryz.results15, go_sem, hcl, hcc]
     exact lines_none _ _ HTF.out
   | some x =>
    rw [hev] at HEV HS2
    have hbl : x.1.length ≤ 512 := areasL_len hev
    go_upto_region 8 with fail
    have hst := HST7.out.quiet (Touch.refl [] _).drew
    obtain ⟨cl, fl, cv⟩ := hst.cells
    refine wp_region_held_drew (S := fun W => W.cell? ⟨v, 0, none⟩ = some (.pointer (some ⟨p, 0, none⟩))) (by kernel_rfl) cv (fun hS => ?_)
    refine wpAnyH_take (i := 1) (v := ?_) rfl (by kernel_rfl) (by kernel_rfl) (by kernel_rfl) (fun _ _ _ h => leaves_put (by decide) (by decide) h) (Or.inl ⟨by rfl, ?_⟩) hS ?_
    rotate_left
    ·(intro W hSW; go_simp <;> with_reducible rfl)
    simp only [nz]
    refine wpAnyH_take (i := 2) (v := ?_) rfl (by kernel_rfl) (by kernel_rfl) (by kernel_rfl) (fun _ _ _ h => leaves_put (by decide) (by decide) h) (Or.inl ⟨by rfl, ?_⟩) hS ?_
    rotate_left
    ·(intro W hSW; go_simp <;> with_reducible rfl)
    simp only [nz]
    refine wpAnyH_ready (rs := [0, 3]) (by kernel_rfl) (by simp) (AllReadyH.cons rfl (fun K hK => ?_) (AllReadyH.cons rfl (fun K hK => ?_) AllReadyH.nil))
    ·go_simp
     refine hK.out _ _ cv (fun hS => ?_)
     clear hK K
     try simp only [nz]
     refine rdy1 3 rfl (fun K hK => ?_)
     go_simp
     refine (HEV.out _ _ _ _ _ hst).mono ?_
     rintro r w9 ⟨hta, u, rfl, hou, hfu, hrn⟩
     replace hst := hst.call (s' := (0, x.2)) hta hrn
     obtain ⟨Au, cu, rfl⟩ := hou.form
     clear hta hrn
     clear cl fl cv
     obtain ⟨cl, fl, cv⟩ := hst.cells
     go_wp2_with fail
     refine hK.out _ _ cv (fun hS => ?_)
     clear hK K
     try simp only [nz]
     refine rdy1 4 rfl (fun K hK => ?_)
     refine step_app_reads elem_str hst.own hou.reads (by simp [str, Value.oneCell']) (by omega) (by unfold maxLen; omega) ?_
     intro v3 w10 ho3 ht3 hf3
     obtain ⟨A3, c3, rfl⟩ := Own.form ho3
     obtain ⟨ml, mf, mv⟩ := hst.mid ht3
     refine hK.out _ _ mv (fun hS => ?_)
     clear hK K
     try simp only [nz]
     refine rdy1 5 rfl (fun K hK => ?_)
     go_simp
     have hstz := hst.grow (xs' := phaseL (((2 : Nat) : Int) + 1) :: x.1) (by exact ho3) ht3 hf3
     generalize w10.setCell ⟨w.heap.size, 0, none⟩ (.slice A3 (1 + x.1.length) c3) = w11 at *
     clear cl fl cv ml mf mv
     refine hK.out _ _ hstz.cells.2.2 (fun hS => ?_)
     clear hK K
     try simp only [nz]
     refine wpAnyH_done (by kernel_rfl) ?_ _
     go_wp2_with fail
     go_meet
     exact ⟨x.1, (0, x.2), A3, _, c3, by omega, hstz, HS2⟩
    ·go_simp
     refine (HEV.out _ _ _ _ _ hst).mono ?_
     rintro r w9 ⟨hta, u, rfl, hou, hfu, hrn⟩
     replace hst := hst.call (s' := (0, x.2)) hta hrn
     obtain ⟨Au, cu, rfl⟩ := hou.form
     clear hta hrn
     clear cl fl cv
     obtain ⟨cl, fl, cv⟩ := hst.cells
     go_wp2_with fail
     refine hK.out _ _ cv (fun hS => ?_)
     clear hK K
     try simp only [nz]
     refine rdy1 0 rfl (fun K hK => ?_)
     go_simp
     refine hK.out _ _ cv (fun hS => ?_)
     clear hK K
     try simp only [nz]
     refine rdy1 4 rfl (fun K hK => ?_)
     refine step_app_reads elem_str hst.own hou.reads (by simp [str, Value.oneCell']) (by omega) (by unfold maxLen; omega) ?_
     intro v3 w10 ho3 ht3 hf3
     obtain ⟨A3, c3, rfl⟩ := Own.form ho3
     obtain ⟨ml, mf, mv⟩ := hst.mid ht3
     refine hK.out _ _ mv (fun hS => ?_)
     clear hK K
     try simp only [nz]
     refine rdy1 5 rfl (fun K hK => ?_)
     go_simp
     have hstz := hst.grow (xs' := phaseL (((2 : Nat) : Int) + 1) :: x.1) (by exact ho3) ht3 hf3
     generalize w10.setCell ⟨w.heap.size, 0, none⟩ (.slice A3 (1 + x.1.length) c3) = w11 at *
     clear cl fl cv ml mf mv
     refine hK.out _ _ hstz.cells.2.2 (fun hS => ?_)
     clear hK K
     try simp only [nz]
     refine wpAnyH_done (by kernel_rfl) ?_ _
     go_wp2_with fail
     go_meet
     exact ⟨x.1, (0, x.2), A3, _, c3, by omega, hstz, HS2⟩
 case rest =>
  obtain ⟨b, s, A8, n8, c8, hn8, hst8, HS8⟩ := hcut
  clear HST7 hst7 HS1
  have HX := Lib.hid (fun (W : World) (A : Option Addr) (n c : Nat) (xs : List (List UInt8)) (h : RsAt w W p v m inp l s xs A n c) => HLIM.out 1 5 W s h.rd h.var)
  go_upto_region 14 with fail
  cases hs : limO l 1 5 s with
  | none =>
   rw [hs] at HX
   have HS2 : Hid (res = none) := Lib.hid (HS8.out.trans (tailL_none hs))
   clear hs HS8
   have hst := hst8.quiet (Touch.refl [] _).drew
   obtain ⟨cl, fl, cv⟩ := hst.cells
   refine wp_region_held_drew (S := fun W => Touch [] w W) (by kernel_rfl) hst.t (fun hS => ?_)
   refine wpAnyH_take (i := 1) (v := ?_) rfl (by kernel_rfl) (by kernel_rfl) (by kernel_rfl) (fun _ _ _ h => leaves_put (by decide) (by decide) h) (Or.inl ⟨by rfl, ?_⟩) hS ?_
   rotate_left
   ·(intro W hSW; go_simp <;> with_reducible rfl)
   simp only [nz]
   refine wpAnyH_ready (rs := [0, 2]) (by kernel_rfl) (by simp) (AllReadyH.cons rfl (fun K hK => ?_) (AllReadyH.cons rfl (fun K hK => ?_) AllReadyH.nil))
   ·go_simp
    refine hK.out _ _ hst.t (fun hS => ?_)
    clear hK K
    try simp only [nz]
    refine rdy1 2 rfl (fun K hK => ?_)
    go_simp
    refine (HX.out _ _ _ _ _ hst).mono ?_
    rintro r w9 ⟨hta, rfl⟩
    unfold unread
    go_wp2_with fail
    obtain rfl : res = none := HS2.out
    obtain ⟨x9, hbL, hbC, hcl, hcc, htf⟩ := hst.fail hta
    have HTF := Lib.hid htf
    clear htf
    refine leaves_cons (f := 38) (args := #[.pointer (some ⟨w.heap.size, 0, none⟩), .pointer (some ⟨w.heap.size + 1, 0, none⟩)]) (by simp) (by simp [go_sem]) ?_
    refine (rec_caught _ _ _ _ hbL hbC (by omega)).mono ?_
    rintro e u' w4 ⟨rfl, rfl, rfl⟩
    simp [Leaves, settle, results, Tryz.results15, go_sem, hcl, hcc]
    exact lines_none _ _ HTF.out
   ·go_simp
    refine (HX.out _ _ _ _ _ hst).mono ?_
    rintro r w9 ⟨hta, rfl⟩
    unfold unread
    go_wp2_with fail
    obtain rfl : res = none := HS2.out
    obtain ⟨x9, hbL, hbC, hcl, hcc, htf⟩ := hst.fail hta
    have HTF := Lib.hid htf
    clear htf
    refine leaves_cons (f := 38) (args := #[.pointer (some ⟨w.heap.size, 0, none⟩), .pointer (some ⟨w.heap.size + 1, 0, none⟩)]) (by simp) (by simp [go_sem]) ?_
    refine (rec_caught _ _ _ _ hbL hbC (by omega)).mono ?_
    rintro e u' w4 ⟨rfl, rfl, rfl⟩
    simp [Leaves, settle, results, Tryz.results15, go_sem, hcl, hcc]
    exact lines_none _ _ HTF.out
  | some x =>
   obtain ⟨nk, a9⟩ := x
   rw [hs] at HX
   have HS2 := Lib.hid (HS8.out.trans (tailL_some hs))
   obtain ⟨-, n1, n5, -, -, -, ha9⟩ := limO_some hs
   simp only at n1 n5 ha9
   have HA9 := Lib.hid ha9
   clear hs HS8 ha9
   obtain ⟨nm, rfl⟩ : ∃ nm : Nat, nk = (nm : Int) + 1 := ⟨(nk - 1).toNat, by omega⟩
   have hnm : nm < 5 := by omega
   have hnm' : (nm : Int) < 5 := by omega
   have hwr : IntKind.i64.wrap (nm : Int) = (nm : Int) := IntWalk.i64_in _ (by omega)
   have HPH := Lib.hid (fun (W : World) (t : Touch [] w W) => (HN.out W t).phase nm hnm)
   have HLJ : Hid ((Lib.join [nextB, phaseL ((nm : Int) + 1)] [32]).length ≤ 100000) := Lib.hid (by
    have := phase_le ((nm : Int) + 1)
    rw [Lib.join_cons]
    simp [Lib.joinTail, nextB]
    omega)
   clear n1 n5
   generalize phaseL ((nm : Int) + 1) = pn at *
   generalize hln : Lib.join [nextB, pn] [32] = ln at *
   have HLN := Lib.hid hln
   rw [← hln] at HLJ
   clear hln
   go_cut [] from 49 (fun wx => R14 w p v m inp l res wx)
   case first =>
    have hst := hst8.quiet (Touch.refl [] _).drew
    obtain ⟨cl, fl, cv⟩ := hst.cells
    refine wp_region_held_drew (S := fun W => Touch [] w W) (by kernel_rfl) hst.t (fun hS => ?_)
    refine wpAnyH_take (i := 1) (v := ?_) rfl (by kernel_rfl) (by kernel_rfl) (by kernel_rfl) (fun _ _ _ h => leaves_put (by decide) (by decide) h) (Or.inl ⟨by rfl, ?_⟩) hS ?_
    rotate_left
    ·(intro W hSW; go_simp <;> with_reducible rfl)
    simp only [nz]
    refine wpAnyH_ready (rs := [0, 2]) (by kernel_rfl) (by simp) (AllReadyH.cons rfl (fun K hK => ?_) (AllReadyH.cons rfl (fun K hK => ?_) AllReadyH.nil))
    ·go_simp
     refine hK.out _ _ hst.t (fun hS => ?_)
     clear hK K
     try simp only [nz]
     refine rdy1 2 rfl (fun K hK => ?_)
     go_simp
     refine (HX.out _ _ _ _ _ hst).mono ?_
     rintro r wa ⟨hta, rfl, hrn⟩
     replace hst := hst.call (s' := (0, a9)) hta hrn
     clear hta hrn
     clear cl fl cv
     obtain ⟨cl, fl, cv⟩ := hst.cells
     go_wp2_with fail
     refine hK.out _ _ hst.t (fun hS => ?_)
     clear hK K
     try simp only [nz]
     refine wpAnyH_take (i := 3) (v := ?_) rfl (by kernel_rfl) (by kernel_rfl) (by kernel_rfl) (fun _ _ _ h => leaves_put (by decide) (by decide) h) (Or.inl ⟨by rfl, ?_⟩) hS ?_
     rotate_left
     ·(intro W hSW; go_simp <;> with_reducible rfl)
     simp only [nz]
     refine wpAnyH_take (i := 4) (v := ?_) rfl (by kernel_rfl) (by kernel_rfl) (by kernel_rfl) (fun _ _ _ h => leaves_put (by decide) (by decide) h) (Or.inl ⟨by rfl, ?_⟩) hS ?_
     rotate_left
     ·(intro W hSW; go_simp <;> with_reducible rfl)
     simp only [nz]
     refine wpAnyH_take (i := 5) (v := ?_) rfl (by kernel_rfl) (by kernel_rfl) (by kernel_rfl) (fun _ _ _ h => leaves_put (by decide) (by decide) h) (Or.inl ⟨by rfl, ?_⟩) hS ?_
     rotate_left
     ·(intro W hSW; have cph := HPH.out W hSW; go_simp <;> with_reducible rfl)
     simp only [nz]
     refine rdy1 6 rfl (fun K hK => ?_)
     go_simp
     have hta := (Touch.refl [] wa).alloc (.cells #[.string ⟨#[110, 101, 120, 116]⟩, .string ⟨pn.toArray⟩] 9)
     have HW := Lib.hid (words_any wa.heap.size 0 2 [nextB, pn] (wa.alloc (.cells #[.string ⟨#[110, 101, 120, 116]⟩, .string ⟨pn.toArray⟩] 9)) (fun j y hy => news_cell wa 9 [nextB, pn] j y hy) (by simp) (by simp) (by simp) HLJ.out)
     replace hst := hst.quiet hta
     clear hta
     clear cl fl cv
     obtain ⟨cl, fl, cv⟩ := hst.cells
     generalize (wa.alloc (.cells #[.string ⟨#[110, 101, 120, 116]⟩, .string ⟨pn.toArray⟩] 9)) = wb1 at *
     refine hK.out _ _ hst.t (fun hS => ?_)
     clear hK K
     try simp only [nz]
     refine rdy1 7 rfl (fun K hK => ?_)
     go_simp
     refine HW.out.mono ?_
     rintro r wb ⟨rfl, hta⟩
     clear HW
     replace hst := hst.quiet hta
     clear hta
     rw [HLN.out]
     clear cl fl cv
     obtain ⟨cl, fl, cv⟩ := hst.cells
     go_wp2_with fail
     refine hK.out _ _ hst.t (fun hS => ?_)
     clear hK K
     try simp only [nz]
     refine rdy1 8 rfl (fun K hK => ?_)
     go_simp
     have hta := (Touch.refl [] wb).alloc (.cells #[.string ⟨ln.toArray⟩] 9)
     have hrl := (ownLit wb _ rfl 9 1 1 [.string ⟨ln.toArray⟩] rfl (by simp [maxLen])).reads
     replace hst := hst.quiet hta
     clear hta
     clear cl fl cv
     obtain ⟨cl, fl, cv⟩ := hst.cells
     generalize (wb.alloc (.cells #[.string ⟨ln.toArray⟩] 9)) = wd at *
     refine hK.out _ _ hst.t (fun hS => ?_)
     clear hK K
     try simp only [nz]
     refine rdy1 9 rfl (fun K hK => ?_)
     refine step_app_reads elem_str hst.own hrl (by simp [Value.oneCell']) (by omega) (by unfold maxLen; omega) ?_
     intro v3 w10 ho3 ht3 hf3
     replace ho3 : Own w10 9 1 v3 (n8 + 1) _ := ho3
     obtain ⟨A3, c3, rfl⟩ := Own.form ho3
     obtain ⟨ml, mf, mv⟩ := hst.mid ht3
     refine hK.out _ _ (hst.t.step ht3 (fun g hg => .inr (by have := hst.far g hg; have := hst.ord; omega))) (fun hS => ?_)
     clear hK K
     try simp only [nz]
     refine rdy1 10 rfl (fun K hK => ?_)
     go_simp
     have hstz := hst.grow (xs' := phaseL ((mk : Int) + 1) :: b ++ [ln]) (by rw [List.map_append]; exact ho3) ht3 hf3
     generalize w10.setCell ⟨w.heap.size, 0, none⟩ (.slice A3 (n8 + 1) c3) = w11 at *
     clear cl fl cv ml mf mv
     refine hK.out _ _ hstz.t (fun hS => ?_)
     clear hK K
     try simp only [nz]
     refine wpAnyH_done (by kernel_rfl) ?_ _
     go_wp2_with fail
     go_meet
     exact ⟨_, _, _, a9, _, HA9.out, hstz, HS2⟩
    ·go_simp
     refine (HX.out _ _ _ _ _ hst).mono ?_
     rintro r wa ⟨hta, rfl, hrn⟩
     replace hst := hst.call (s' := (0, a9)) hta hrn
     clear hta hrn
     clear cl fl cv
     obtain ⟨cl, fl, cv⟩ := hst.cells
     go_wp2_with fail
     refine hK.out _ _ hst.t (fun hS => ?_)
     clear hK K
     try simp only [nz]
     refine wpAnyH_take (i := 3) (v := ?_) rfl (by kernel_rfl) (by kernel_rfl) (by kernel_rfl) (fun _ _ _ h => leaves_put (by decide) (by decide) h) (Or.inl ⟨by rfl, ?_⟩) hS ?_
     rotate_left
     ·(intro W hSW; go_simp <;> with_reducible rfl)
     simp only [nz]
     refine wpAnyH_take (i := 4) (v := ?_) rfl (by kernel_rfl) (by kernel_rfl) (by kernel_rfl) (fun _ _ _ h => leaves_put (by decide) (by decide) h) (Or.inl ⟨by rfl, ?_⟩) hS ?_
     rotate_left
     ·(intro W hSW; go_simp <;> with_reducible rfl)
     simp only [nz]
     refine wpAnyH_take (i := 5) (v := ?_) rfl (by kernel_rfl) (by kernel_rfl) (by kernel_rfl) (fun _ _ _ h => leaves_put (by decide) (by decide) h) (Or.inl ⟨by rfl, ?_⟩) hS ?_
     rotate_left
     ·(intro W hSW; have cph := HPH.out W hSW; go_simp <;> with_reducible rfl)
     simp only [nz]
     refine wpAnyH_ready (rs := [0, 6]) (by kernel_rfl) (by simp) (AllReadyH.cons rfl (fun K hK => ?_) (AllReadyH.cons rfl (fun K hK => ?_) AllReadyH.nil))
     ·go_simp
      refine hK.out _ _ hst.t (fun hS => ?_)
      clear hK K
      try simp only [nz]
      refine rdy1 6 rfl (fun K hK => ?_)
      go_simp
      have hta := (Touch.refl [] wa).alloc (.cells #[.string ⟨#[110, 101, 120, 116]⟩, .string ⟨pn.toArray⟩] 9)
      have HW := Lib.hid (words_any wa.heap.size 0 2 [nextB, pn] (wa.alloc (.cells #[.string ⟨#[110, 101, 120, 116]⟩, .string ⟨pn.toArray⟩] 9)) (fun j y hy => news_cell wa 9 [nextB, pn] j y hy) (by simp) (by simp) (by simp) HLJ.out)
      replace hst := hst.quiet hta
      clear hta
      clear cl fl cv
      obtain ⟨cl, fl, cv⟩ := hst.cells
      generalize (wa.alloc (.cells #[.string ⟨#[110, 101, 120, 116]⟩, .string ⟨pn.toArray⟩] 9)) = wb1 at *
      refine hK.out _ _ hst.t (fun hS => ?_)
      clear hK K
      try simp only [nz]
      refine rdy1 7 rfl (fun K hK => ?_)
      go_simp
      refine HW.out.mono ?_
      rintro r wb ⟨rfl, hta⟩
      clear HW
      replace hst := hst.quiet hta
      clear hta
      rw [HLN.out]
      clear cl fl cv
      obtain ⟨cl, fl, cv⟩ := hst.cells
      go_wp2_with fail
      refine hK.out _ _ hst.t (fun hS => ?_)
      clear hK K
      try simp only [nz]
      refine rdy1 8 rfl (fun K hK => ?_)
      go_simp
      have hta := (Touch.refl [] wb).alloc (.cells #[.string ⟨ln.toArray⟩] 9)
      have hrl := (ownLit wb _ rfl 9 1 1 [.string ⟨ln.toArray⟩] rfl (by simp [maxLen])).reads
      replace hst := hst.quiet hta
      clear hta
      clear cl fl cv
      obtain ⟨cl, fl, cv⟩ := hst.cells
      generalize (wb.alloc (.cells #[.string ⟨ln.toArray⟩] 9)) = wd at *
      refine hK.out _ _ hst.t (fun hS => ?_)
      clear hK K
      try simp only [nz]
      refine rdy1 9 rfl (fun K hK => ?_)
      refine step_app_reads elem_str hst.own hrl (by simp [Value.oneCell']) (by omega) (by unfold maxLen; omega) ?_
      intro v3 w10 ho3 ht3 hf3
      replace ho3 : Own w10 9 1 v3 (n8 + 1) _ := ho3
      obtain ⟨A3, c3, rfl⟩ := Own.form ho3
      obtain ⟨ml, mf, mv⟩ := hst.mid ht3
      refine hK.out _ _ (hst.t.step ht3 (fun g hg => .inr (by have := hst.far g hg; have := hst.ord; omega))) (fun hS => ?_)
      clear hK K
      try simp only [nz]
      refine rdy1 10 rfl (fun K hK => ?_)
      go_simp
      have hstz := hst.grow (xs' := phaseL ((mk : Int) + 1) :: b ++ [ln]) (by rw [List.map_append]; exact ho3) ht3 hf3
      generalize w10.setCell ⟨w.heap.size, 0, none⟩ (.slice A3 (n8 + 1) c3) = w11 at *
      clear cl fl cv ml mf mv
      refine hK.out _ _ hstz.t (fun hS => ?_)
      clear hK K
      try simp only [nz]
      refine wpAnyH_done (by kernel_rfl) ?_ _
      go_wp2_with fail
      go_meet
      exact ⟨_, _, _, a9, _, HA9.out, hstz, HS2⟩
     ·go_simp
      have hta := (Touch.refl [] wa).alloc (.cells #[.string ⟨#[110, 101, 120, 116]⟩, .string ⟨pn.toArray⟩] 9)
      have HW := Lib.hid (words_any wa.heap.size 0 2 [nextB, pn] (wa.alloc (.cells #[.string ⟨#[110, 101, 120, 116]⟩, .string ⟨pn.toArray⟩] 9)) (fun j y hy => news_cell wa 9 [nextB, pn] j y hy) (by simp) (by simp) (by simp) HLJ.out)
      replace hst := hst.quiet hta
      clear hta
      clear cl fl cv
      obtain ⟨cl, fl, cv⟩ := hst.cells
      generalize (wa.alloc (.cells #[.string ⟨#[110, 101, 120, 116]⟩, .string ⟨pn.toArray⟩] 9)) = wb1 at *
      refine hK.out _ _ hst.t (fun hS => ?_)
      clear hK K
      try simp only [nz]
      refine wpAnyH_ready (rs := [0, 7]) (by kernel_rfl) (by simp) (AllReadyH.cons rfl (fun K hK => ?_) (AllReadyH.cons rfl (fun K hK => ?_) AllReadyH.nil))
      ·go_simp
       refine hK.out _ _ hst.t (fun hS => ?_)
       clear hK K
       try simp only [nz]
       refine rdy1 7 rfl (fun K hK => ?_)
       go_simp
       refine HW.out.mono ?_
       rintro r wb ⟨rfl, hta⟩
       clear HW
       replace hst := hst.quiet hta
       clear hta
       rw [HLN.out]
       clear cl fl cv
       obtain ⟨cl, fl, cv⟩ := hst.cells
       go_wp2_with fail
       refine hK.out _ _ hst.t (fun hS => ?_)
       clear hK K
       try simp only [nz]
       refine rdy1 8 rfl (fun K hK => ?_)
       go_simp
       have hta := (Touch.refl [] wb).alloc (.cells #[.string ⟨ln.toArray⟩] 9)
       have hrl := (ownLit wb _ rfl 9 1 1 [.string ⟨ln.toArray⟩] rfl (by simp [maxLen])).reads
       replace hst := hst.quiet hta
       clear hta
       clear cl fl cv
       obtain ⟨cl, fl, cv⟩ := hst.cells
       generalize (wb.alloc (.cells #[.string ⟨ln.toArray⟩] 9)) = wd at *
       refine hK.out _ _ hst.t (fun hS => ?_)
       clear hK K
       try simp only [nz]
       refine rdy1 9 rfl (fun K hK => ?_)
       refine step_app_reads elem_str hst.own hrl (by simp [Value.oneCell']) (by omega) (by unfold maxLen; omega) ?_
       intro v3 w10 ho3 ht3 hf3
       replace ho3 : Own w10 9 1 v3 (n8 + 1) _ := ho3
       obtain ⟨A3, c3, rfl⟩ := Own.form ho3
       obtain ⟨ml, mf, mv⟩ := hst.mid ht3
       refine hK.out _ _ (hst.t.step ht3 (fun g hg => .inr (by have := hst.far g hg; have := hst.ord; omega))) (fun hS => ?_)
       clear hK K
       try simp only [nz]
       refine rdy1 10 rfl (fun K hK => ?_)
       go_simp
       have hstz := hst.grow (xs' := phaseL ((mk : Int) + 1) :: b ++ [ln]) (by rw [List.map_append]; exact ho3) ht3 hf3
       generalize w10.setCell ⟨w.heap.size, 0, none⟩ (.slice A3 (n8 + 1) c3) = w11 at *
       clear cl fl cv ml mf mv
       refine hK.out _ _ hstz.t (fun hS => ?_)
       clear hK K
       try simp only [nz]
       refine wpAnyH_done (by kernel_rfl) ?_ _
       go_wp2_with fail
       go_meet
       exact ⟨_, _, _, a9, _, HA9.out, hstz, HS2⟩
      ·go_simp
       refine HW.out.mono ?_
       rintro r wb ⟨rfl, hta⟩
       clear HW
       replace hst := hst.quiet hta
       clear hta
       rw [HLN.out]
       clear cl fl cv
       obtain ⟨cl, fl, cv⟩ := hst.cells
       go_wp2_with fail
       refine hK.out _ _ hst.t (fun hS => ?_)
       clear hK K
       try simp only [nz]
       refine wpAnyH_ready (rs := [0, 8]) (by kernel_rfl) (by simp) (AllReadyH.cons rfl (fun K hK => ?_) (AllReadyH.cons rfl (fun K hK => ?_) AllReadyH.nil))
       ·go_simp
        refine hK.out _ _ hst.t (fun hS => ?_)
        clear hK K
        try simp only [nz]
        refine rdy1 8 rfl (fun K hK => ?_)
        go_simp
        have hta := (Touch.refl [] wb).alloc (.cells #[.string ⟨ln.toArray⟩] 9)
        have hrl := (ownLit wb _ rfl 9 1 1 [.string ⟨ln.toArray⟩] rfl (by simp [maxLen])).reads
        replace hst := hst.quiet hta
        clear hta
        clear cl fl cv
        obtain ⟨cl, fl, cv⟩ := hst.cells
        generalize (wb.alloc (.cells #[.string ⟨ln.toArray⟩] 9)) = wd at *
        refine hK.out _ _ hst.t (fun hS => ?_)
        clear hK K
        try simp only [nz]
        refine rdy1 9 rfl (fun K hK => ?_)
        refine step_app_reads elem_str hst.own hrl (by simp [Value.oneCell']) (by omega) (by unfold maxLen; omega) ?_
        intro v3 w10 ho3 ht3 hf3
        replace ho3 : Own w10 9 1 v3 (n8 + 1) _ := ho3
        obtain ⟨A3, c3, rfl⟩ := Own.form ho3
        obtain ⟨ml, mf, mv⟩ := hst.mid ht3
        refine hK.out _ _ (hst.t.step ht3 (fun g hg => .inr (by have := hst.far g hg; have := hst.ord; omega))) (fun hS => ?_)
        clear hK K
        try simp only [nz]
        refine rdy1 10 rfl (fun K hK => ?_)
        go_simp
        have hstz := hst.grow (xs' := phaseL ((mk : Int) + 1) :: b ++ [ln]) (by rw [List.map_append]; exact ho3) ht3 hf3
        generalize w10.setCell ⟨w.heap.size, 0, none⟩ (.slice A3 (n8 + 1) c3) = w11 at *
        clear cl fl cv ml mf mv
        refine hK.out _ _ hstz.t (fun hS => ?_)
        clear hK K
        try simp only [nz]
        refine wpAnyH_done (by kernel_rfl) ?_ _
        go_wp2_with fail
        go_meet
        exact ⟨_, _, _, a9, _, HA9.out, hstz, HS2⟩
       ·go_simp
        have hta := (Touch.refl [] wb).alloc (.cells #[.string ⟨ln.toArray⟩] 9)
        have hrl := (ownLit wb _ rfl 9 1 1 [.string ⟨ln.toArray⟩] rfl (by simp [maxLen])).reads
        replace hst := hst.quiet hta
        clear hta
        clear cl fl cv
        obtain ⟨cl, fl, cv⟩ := hst.cells
        generalize (wb.alloc (.cells #[.string ⟨ln.toArray⟩] 9)) = wd at *
        refine hK.out _ _ hst.t (fun hS => ?_)
        clear hK K
        try simp only [nz]
        refine rdy1 0 rfl (fun K hK => ?_)
        go_simp
        refine hK.out _ _ hst.t (fun hS => ?_)
        clear hK K
        try simp only [nz]
        refine rdy1 9 rfl (fun K hK => ?_)
        refine step_app_reads elem_str hst.own hrl (by simp [Value.oneCell']) (by omega) (by unfold maxLen; omega) ?_
        intro v3 w10 ho3 ht3 hf3
        replace ho3 : Own w10 9 1 v3 (n8 + 1) _ := ho3
        obtain ⟨A3, c3, rfl⟩ := Own.form ho3
        obtain ⟨ml, mf, mv⟩ := hst.mid ht3
        refine hK.out _ _ (hst.t.step ht3 (fun g hg => .inr (by have := hst.far g hg; have := hst.ord; omega))) (fun hS => ?_)
        clear hK K
        try simp only [nz]
        refine rdy1 10 rfl (fun K hK => ?_)
        go_simp
        have hstz := hst.grow (xs' := phaseL ((mk : Int) + 1) :: b ++ [ln]) (by rw [List.map_append]; exact ho3) ht3 hf3
        generalize w10.setCell ⟨w.heap.size, 0, none⟩ (.slice A3 (n8 + 1) c3) = w11 at *
        clear cl fl cv ml mf mv
        refine hK.out _ _ hstz.t (fun hS => ?_)
        clear hK K
        try simp only [nz]
        refine wpAnyH_done (by kernel_rfl) ?_ _
        go_wp2_with fail
        go_meet
        exact ⟨_, _, _, a9, _, HA9.out, hstz, HS2⟩
   case rest =>
    obtain ⟨A9, n9, c9, a, xs9, ha, hst9, HS9⟩ := hcut
    clear HX HS2 HLJ HLN HPH
    obtain ⟨cl, fl, cv⟩ := hst9.cells
    have HE := Lib.hid (rEnd_zero ha)
    go_wp2_with fail
    refine (rd_end p inp l 0 a _ hst9.rd).mono ?_
    rintro r wg ⟨rfl, nd, hdr⟩
    have hst := hst9.quiet (W' := wg) (by rw [hdr]; exact (Touch.refl [] _).drewN nd)
    rw [HE.out]
    clear hdr cl fl cv
    by_cases hal : a = l.length
    ·rw [if_pos hal]
     have HS2 : Hid (res = some xs9) := Lib.hid (HS9.out.trans (if_pos hal))
     go_wp2_with fail
     refine (must_true _).mono ?_
     rintro r wg2 ⟨rfl, rfl⟩
     obtain ⟨cl, fl, cv⟩ := hst.cells
     obtain ⟨cc, fc⟩ := hst.codes
     have hcl := hst.code.lt
     go_wp2_with fail
     obtain ⟨k1, k2, k3, k4⟩ := hst.last
     have HO := Lib.hid k3
     have HT := Lib.hid k4
     clear k3 k4 cl fl cv cc fc hcl
     refine leaves_cons (f := 38) (args := #[.pointer (some ⟨w.heap.size, 0, none⟩), .pointer (some ⟨w.heap.size + 1, 0, none⟩)]) (by simp) (by simp [go_sem]) ?_
     refine (rec_none _ _ _).mono ?_
     rintro e u' w4 ⟨rfl, rfl, rfl⟩
     obtain rfl := HS2.out
     simp [Leaves, settle, results, Tryz.results15, go_sem, k1, k2]
     exact ⟨_, rfl, own_reads HO.out, HT.out⟩
    ·rw [if_neg hal]
     have HS2 : Hid (res = none) := Lib.hid (HS9.out.trans (if_neg hal))
     go_wp2_with fail
     refine (must_false _).mono ?_
     rintro r wg2 ⟨rfl, rfl⟩
     unfold unread
     go_wp2_with fail
     obtain rfl : res = none := HS2.out
     obtain ⟨x9, hbL, hbC, hcl, hcc, htf⟩ := hst.fail (Touch.refl _ _)
     have HTF := Lib.hid htf
     clear htf
     refine leaves_cons (f := 38) (args := #[.pointer (some ⟨w.heap.size, 0, none⟩), .pointer (some ⟨w.heap.size + 1, 0, none⟩)]) (by simp) (by simp [go_sem]) ?_
     refine (rec_caught _ _ _ _ hbL hbC (by omega)).mono ?_
     rintro e u' w4 ⟨rfl, rfl, rfl⟩
     simp [Leaves, settle, results, Tryz.results15, go_sem, hcl, hcc]
     exact lines_none _ _ HTF.out
end Go.Proofs.YtedpaajpfaoffaaGreatDoor
