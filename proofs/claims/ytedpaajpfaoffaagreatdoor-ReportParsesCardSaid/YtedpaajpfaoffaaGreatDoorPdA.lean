/- report.writeEvents: the events' lines, written. -/
import Derived.Test.YtedpaajpfaoffaaGreatDoorPbA
import Derived.Deep.CutBlock
import Derived.StillTailTactics
set_option linter.all false
set_option maxHeartbeats 8000000
set_option maxRecDepth 100000
namespace Go.Proofs.YtedpaajpfaoffaaGreatDoor
open Go.RowKit
theorem foldO_step {α σ : Type} {f : σ → α → Option σ} {s : σ} {xs : List α} {k : Nat} (hk : k < xs.length) : foldO f s (xs.drop k) = (f s xs[k]).bind fun t => foldO f t (xs.drop (k + 1)) := by
 rw [List.drop_eq_getElem_cons hk]
 rfl
theorem evLineW_not {st : WS} {line : List UInt8} (h : (splitL line).length ≠ 4) : evLineW st line = none := by
 unfold evLineW
 split
 ·rename_i a b c d e
  rw [e] at h
  exact absurd rfl h
 ·rfl
theorem evLineW_four {st : WS} {line a b c d : List UInt8} (h : splitL line = [a, b, c, d]) : evLineW st line = (numO a).bind fun x => (idxO kindsN b).bind fun k => (idxO optsN c).bind fun o => (parseP d).map fun m => wUint (wUint (wUint (wUint st x) ((k : Int) + 1)) (o : Int)) m := by
 unfold evLineW
 rw [h]
theorem numO_fits {l : List UInt8} {n : Int} (h : numO l = some n) : Fits n := by
 unfold numO at h
 split at h
 ·rename_i m hm
  cases h
  exact Lib.atoiAll_bounds hm
 ·cases h
theorem parseP_fits {l : List UInt8} {n : Int} (h : parseP l = some n) : Fits n := by
 unfold parseP at h
 split at h
 ·rename_i m hm
  split at h
  ·cases h
   exact Lib.atoiAll_bounds hm
  ·cases h
 ·cases h
def ArrK : Array Value := #[.string ⟨#[115, 116, 97, 121]⟩, .string ⟨#[109, 111, 118, 101]⟩, .string ⟨#[101, 120, 105, 116]⟩, .string ⟨#[102, 114, 101, 101, 122, 101]⟩]
def ArrO : Array Value := #[.string ⟨#[111, 102, 102]⟩, .string ⟨#[108, 111, 119]⟩, .string ⟨#[104, 105, 103, 104]⟩, .string ⟨#[117, 104, 102]⟩]
structure Ew (w0 ws W : World) (p : Nat) (out : Value) (st : WS) (g4 g5 : Nat) : Prop where
 wa : Wa w0 W p out st
 k : Blk W g4 144 ArrK
 o : Blk W g5 144 ArrO
 ks : KeepS ws W
 ne : g4 ≠ p ∧ g5 ≠ p ∧ g4 ∉ blkS st out ∧ g5 ∉ blkS st out
structure Eu (w0 ws W : World) (p : Nat) (out : Value) (st : WS) (g4 g5 : Nat) (u : Value) (xs : List (List UInt8)) : Prop where
 ew : Ew w0 ws W p out st g4 g5
 strs : StrsAt W u xs
 dis : ∀ g ∈ rb u, g ≠ p ∧ g ∉ blkS st out
section
variable {w0 ws W W' : World} {p g4 g5 : Nat} {out out' u : Value} {st st' : WS} {xs : List (List UInt8)}
theorem Ew.quiet (h : Ew w0 ws W p out st g4 g5) (t : Touch [] W W') : Ew w0 ws W' p out st g4 g5 := ⟨h.wa.quiet t, h.k.touch t (by simp), h.o.touch t (by simp), h.ks.trans (KeepS.of_touch t (fun b hb => by cases hb)), h.ne⟩
theorem Ew.next (h : Ew w0 ws W p out st g4 g5) (ha : Wa w0 W' p out' st') (ht : Touch (p :: blkS st out) W W') (hf : ∀ g ∈ blkS st' out', g ∈ blkS st out ∨ W.heap.size ≤ g) : Ew w0 ws W' p out' st' g4 g5 := by
 obtain ⟨h1, h2, h3, h4⟩ := h.ne
 refine ⟨ha, h.k.touch ht (by simp [h1, h3]), h.o.touch ht (by simp [h2, h4]), h.ks.trans (h.wa.keepS ht), h1, h2, fun hm => ?_, fun hm => ?_⟩
 ·rcases hf _ hm with e | e
  ·exact h3 e
  ·have := h.k.lt; omega
 ·rcases hf _ hm with e | e
  ·exact h4 e
  ·have := h.o.lt; omega
theorem Eu.quiet (h : Eu w0 ws W p out st g4 g5 u xs) (t : Touch [] W W') : Eu w0 ws W' p out st g4 g5 u xs := ⟨h.ew.quiet t, h.strs.touch t (fun _ _ => by simp), h.dis⟩
theorem Eu.next (h : Eu w0 ws W p out st g4 g5 u xs) (ha : Wa w0 W' p out' st') (ht : Touch (p :: blkS st out) W W') (hf : ∀ g ∈ blkS st' out', g ∈ blkS st out ∨ W.heap.size ≤ g) : Eu w0 ws W' p out' st' g4 g5 u xs := by
 have hw : Wu w0 W p out st u xs := ⟨h.ew.wa, h.strs, h.dis⟩
 have h2 := hw.next ha ht hf
 exact ⟨h.ew.next ha ht hf, h2.strs, h2.dis⟩
end
theorem Eu.at_ {w0 ws W : World} {p g4 g5 g n cap : Nat} {out : Value} {st : WS} {xs : List (List UInt8)} (h : Eu w0 ws W p out st g4 g5 (.slice (some ⟨g, 0, none⟩) n cap) xs) {j : Nat} {y : List UInt8} (hy : xs[j]? = some y) : W.cell? ⟨g, j, none⟩ = some (.string ⟨y.toArray⟩) := h.strs.at_ hy
theorem wa_none {w0 ws W' : World} {p : Nat} {fin : Option WS} (h : fin = none) (t : Touch [] w0 W') : WaPost w0 ws p fin unread W' := by
 subst h
 exact ⟨rfl, t⟩
theorem wa_some {w0 ws W' : World} {p : Nat} {fin : Option WS} {st : WS} {out : Value} (h : fin = some st) (t : Wa w0 W' p out st) (k : KeepS ws W') : WaPost w0 ws p fin (.returned (.tuple #[])) W' := by
 subst h
 exact ⟨rfl, out, t, k⟩
theorem find_some {W : World} {g : Nat} {cs : Array Value} {xs : List (List UInt8)} {x : List UInt8} {i : Nat} {t : TypeId} (hb : Blk W g t cs) (hc : cs = (xs.map str).toArray) (hl : xs.length ≤ maxLen) {n : Nat} (hn : n = xs.length) (h : idxO xs x = some i) :
  Calls Tryz.prog 109 #[.slice (some ⟨g, 0, none⟩) n n, .string ⟨x.toArray⟩] W fun r w' => r = .returned (.int .i64 (i : Int)) ∧ w' = W := by
 subst hn
 refine (find_any _ xs x W (strs_blk xs cs hb hc hl)).mono ?_
 rintro r w' ⟨rfl, h2⟩
 rw [h] at h2
 exact ⟨h2, rfl⟩
theorem find_none {W : World} {g : Nat} {cs : Array Value} {xs : List (List UInt8)} {x : List UInt8} {t : TypeId} (hb : Blk W g t cs) (hc : cs = (xs.map str).toArray) (hl : xs.length ≤ maxLen) {n : Nat} (hn : n = xs.length) (h : idxO xs x = none) :
  Calls Tryz.prog 109 #[.slice (some ⟨g, 0, none⟩) n n, .string ⟨x.toArray⟩] W fun r w' => r = unread ∧ w' = W := by
 subst hn
 refine (find_any _ xs x W (strs_blk xs cs hb hc hl)).mono ?_
 rintro r w' ⟨rfl, h2⟩
 rw [h] at h2
 exact ⟨h2, rfl⟩
def EwRel (w0 ws : World) (p : Nat) (xs : List (List UInt8)) (g4 g5 : Nat) (fin : Option WS) (ti : Value) (wr : World) : Prop := ∃ (k : Nat) (out : Value) (st : WS), k ≤ xs.length ∧ ti = .int .i64 k ∧ Ew w0 ws wr p out st g4 g5 ∧ Hid (fin = foldO evLineW st (xs.drop k))
theorem writeEvents_any (xs : List (List UInt8)) (v : Value) (w0 w : World) (p : Nat) (out : Value) (st : WS) (hv : StrsAt w0 v xs) (h : Wa w0 w p out st) (hn : ∀ W, Touch [] w0 W → MF W ∧ RN W) (hx : xs.length ≤ 1000) (hl : ∀ x ∈ xs, x.length ≤ 100000 ∧ ∀ y ∈ splitL x, y.length ≤ 100000) :
  Calls Tryz.prog 61 #[.pointer (some ⟨p, 0, none⟩), v] w (WaPost w0 w p (evW st xs)) := by
 obtain ⟨A, cap, rfl, c1, c2⟩ := hv.form
 generalize hfin : evW st xs = fin
 unfold evW at hfin
 have HFIN := Lib.hid hfin
 clear hfin
 have HN := Lib.hid hn
 have HL := Lib.hid hl
 have HV := Lib.hid hv
 obtain ⟨-, hrn⟩ := hn w h.t
 have k0 := hrn.kinds.cell 0
 have k1 := hrn.kinds.cell 1
 have k2 := hrn.kinds.cell 2
 have k3 := hrn.kinds.cell 3
 have o0 := hrn.options.cell 0
 have o1 := hrn.options.cell 1
 have o2 := hrn.options.cell 2
 have o3 := hrn.options.cell 3
 simp at k0 k1 k2 k3 o0 o1 o2 o3
 have hb4 : Blk ((w.alloc (.cells ArrK 144)).alloc (.cells ArrO 144)) w.heap.size 144 ArrK := (Blk.new _ _ _).alloc _
 have hb5 : Blk ((w.alloc (.cells ArrK 144)).alloc (.cells ArrO 144)) (w.heap.size + 1) 144 ArrO := by
  have := Blk.new (w.alloc (.cells ArrK 144)) 144 ArrO
  simpa using this
 have hst0 : Ew w0 w ((w.alloc (.cells ArrK 144)).alloc (.cells ArrO 144)) p out st w.heap.size (w.heap.size + 1) := by
  have hp := h.plt
  have hlt := h.lt
  refine ⟨h.quiet (((Touch.refl [] w).alloc _).alloc _), hb4, hb5, KeepS.of_touch (((Touch.refl [] w).alloc _).alloc _) (fun b hb => by cases hb), by omega, by omega, fun hm => ?_, fun hm => ?_⟩
  ·have := hlt _ hm; omega
  ·have := hlt _ hm; omega
 unfold ArrK ArrO at hst0
 clear hn hl hv hrn hb4 hb5 h
 go_enter Tryz.func61, Tryz.ntmps61
 go_wp2_with fail
 refine (wa_uint _ (by omega) hst0.wa).mono ?_
 rintro r w1 ⟨rfl, out1, ha1, ht1, hf1⟩
 have hE1 := hst0.next ha1 ht1 hf1
 have hst : EwRel w0 w p xs w.heap.size (w.heap.size + 1) fin (.int .i64 0) w1 := ⟨0, out1, _, by omega, rfl, hE1, Lib.hid HFIN.out.symm⟩
 clear hst0 ha1 ht1 hf1 hE1 HFIN k0 k1 k2 k3 o0 o1 o2 o3
 generalize hg5 : w.heap.size + 1 = g5 at *
 generalize w.heap.size = g4 at *
 clear hg5
 go_wp2_with fail
 go_loopw [17] (fun ti wr => EwRel w0 w p xs g4 g5 fin ti wr) (fun ti _ => xs.length - (intOf ti).toNat)
 case atStart => exact hst
 case round =>
  clear hst
  obtain ⟨k, out', st', hk, rfl, he, HX⟩ := hrel
  have HE := Lib.hid he
  by_cases hlt : k < xs.length
  ·have hlt' : (k : Int) < (xs.length : Int) := by omega
   obtain ⟨b0, off, rfl, hc⟩ := HV.out.addr hlt
   have q0 := hc _ he.wa.t
   have hlk := HL.out _ (List.getElem_mem hlt)
   have HSP := Lib.hid (split_any xs[k] wr hlk.1)
   have HLW := Lib.hid hlk.2
   have HX1 : Hid (fin = (evLineW st' xs[k]).bind fun t => foldO evLineW t (xs.drop (k + 1))) := Lib.hid (HX.out.trans (foldO_step hlt))
   clear HX hc hlk he
   generalize xs[k] = line at *
   go_wp2_with fail
   refine HSP.out.mono ?_
   rintro r w2 ⟨g, cap2, rfl, hg, hc1, hc2, hs2, ht2⟩
   have HS2 := Lib.hid hs2.reads
   have HT2 := Lib.hid ht2
   clear hs2 ht2 HSP
   by_cases h4 : (splitL line).length = 4
   rotate_left
   ·have HN : Hid (fin = none) := Lib.hid (HX1.out.trans (by rw [evLineW_not h4]; rfl))
    have h4' : (((splitL line).length : Int) == 4) = false := by rw [beq_eq_false_iff_ne]; omega
    clear h4 HX1
    go_wp2_with fail
    refine (must_false _).mono ?_
    rintro r w3 ⟨rfl, rfl⟩
    unfold unread
    go_wp2_with fail
    exact ⟨rfl, wa_none HN.out (HE.out.wa.t.then0 HT2.out)⟩
   obtain ⟨a, b, c, d, hsp⟩ : ∃ a b c d, splitL line = [a, b, c, d] := by
    match hs : splitL line, h4 with
    | [a, b, c, d], _ => exact ⟨a, b, c, d, rfl⟩
   rw [evLineW_four hsp] at HX1
   rw [hsp] at HS2 HLW hc1 ⊢
   have HU : Hid (Eu w0 w w2 p out' st' g4 g5 (.slice (some ⟨g, 0, none⟩) 4 cap2) [a, b, c, d]) := Lib.hid ⟨HE.out.quiet HT2.out, HS2.out, fun x hx => by
    simp [rb] at hx
    subst hx
    have h1 := HE.out.wa.plt
    exact ⟨by omega, fun hm => by have := HE.out.wa.lt _ hm; omega⟩⟩
   have HLA := Lib.hid (HLW.out a (by simp))
   have HLD := Lib.hid (HLW.out d (by simp))
   have q1 := HU.out.at_ (j := 0) (y := a) rfl
   have HNA := Lib.hid (number_any a w2 HLA.out (HN.out w2 HU.out.ew.wa.t).1)
   clear HS2 HT2 HE HLW h4 hsp q0 hg
   cases hna : numO a with
   | none =>
    have HF : Hid (fin = none) := Lib.hid (HX1.out.trans (by rw [hna]; rfl))
    rw [hna] at HNA
    clear HX1 hna
    go_wp2_with fail
    refine (must_true _).mono ?_
    rintro r w3 ⟨rfl, rfl⟩
    go_wp2_with fail
    refine HNA.out.mono ?_
    rintro r w3 ⟨ht3, rfl⟩
    unfold unread
    go_wp2_with fail
    exact ⟨rfl, wa_none HF.out (HU.out.ew.wa.t.then0 ht3)⟩
   | some x =>
    have hfx := numO_fits hna
    rw [hna] at HNA
    rw [hna, Option.bind_some] at HX1
    clear hna
    go_wp2_with fail
    refine (must_true _).mono ?_
    rintro r w3 ⟨rfl, rfl⟩
    go_wp2_with fail
    refine HNA.out.mono ?_
    rintro r w3 ⟨ht3, rfl⟩
    have hu3 := HU.out.quiet ht3
    dsimp only
    go_wp2_with fail
    refine (wa_uint x hfx.2 hu3.ew.wa).mono ?_
    rintro r w4 ⟨rfl, out4, ha4, ht4, hf4⟩
    have HU4 := Lib.hid (hu3.next ha4 ht4 hf4)
    clear hu3 ha4 ht4 hf4 ht3 HU HNA q1 hfx
    have HX4 := HX1
    clear HX1
    have hci : Hid (∀ i, idxO kindsN b = some i → i < kindsN.length) := Lib.hid (fun i h => idxO_lt h)
    have hco : Hid (∀ i, idxO optsN c = some i → i < optsN.length) := Lib.hid (fun i h => idxO_lt h)
    have q1 := HU4.out.at_ (j := 1) (y := b) rfl
    have HU5 := Lib.hid (HU4.out.quiet ((Touch.refl [] w4).drew))
    go_upto_region 8 with fail
    refine wp_region_held_drew (S := fun W => W.cell? ⟨g, 1, none⟩ = some (.string ⟨b.toArray⟩)) (by kernel_rfl) q1 (fun hS => ?_)
    clear q1 HU4
    cases hib : idxO kindsN b with
    | none =>
     have HF : Hid (fin = none) := Lib.hid (HX4.out.trans (by rw [hib]; rfl))
     have HFI := Lib.hid (find_none (xs := kindsN) (x := b) HU5.out.ew.k rfl (by simp [kindsN, maxLen]) (n := 4) rfl hib)
     clear HX4 hib hci hco
     refine wpAnyH_take (i := 0) (v := ?_) rfl (by kernel_rfl) (by kernel_rfl) (by kernel_rfl) (fun _ _ _ h => h) (Or.inl ⟨by rfl, ?_⟩) hS ?_
     rotate_left
     ·(intro W hSW; go_simp <;> with_reducible rfl)
     simp only [nz]
     refine wpAnyH_take (i := 1) (v := ?_) rfl (by kernel_rfl) (by kernel_rfl) (by kernel_rfl) (fun _ _ _ h => h) (Or.inl ⟨by rfl, ?_⟩) hS ?_
     rotate_left
     ·(intro W hSW; go_simp <;> with_reducible rfl)
     simp only [nz]
     refine wpAnyH_take (i := 2) (v := ?_) rfl (by kernel_rfl) (by kernel_rfl) (by kernel_rfl) (fun _ _ _ h => h) (Or.inl ⟨by rfl, ?_⟩) hS ?_
     rotate_left
     ·(intro W hSW; go_simp <;> with_reducible rfl)
     simp only [nz]
     refine wpAnyH_take (i := 3) (v := ?_) rfl (by kernel_rfl) (by kernel_rfl) (by kernel_rfl) (fun _ _ _ h => h) (Or.inl ⟨by rfl, ?_⟩) hS ?_
     rotate_left
     ·(intro W hSW; go_simp <;> with_reducible rfl)
     simp only [nz]
     refine wpAnyH_take (i := 4) (v := ?_) rfl (by kernel_rfl) (by kernel_rfl) (by kernel_rfl) (fun _ _ _ h => h) (Or.inl ⟨by rfl, ?_⟩) hS ?_
     rotate_left
     ·(intro W hSW; go_simp <;> with_reducible rfl)
     simp only [nz]
     refine rdy1 5 rfl (fun K hK => ?_)
     go_simp
     refine (HFI.out).mono ?_
     rintro r w6 ⟨rfl, rfl⟩
     unfold unread
     dsimp only
     clear hK K
     go_wp2_with fail
     exact ⟨rfl, wa_none HF.out HU5.out.ew.wa.t⟩
    | some i =>
     have hi := hci.out _ hib
     simp [kindsN] at hi
     have HFI := Lib.hid (find_some (xs := kindsN) (x := b) HU5.out.ew.k rfl (by simp [kindsN, maxLen]) (n := 4) rfl hib)
     rw [hib, Option.bind_some] at HX4
     clear hib hci
     generalize wUint st' x = st4 at *
     refine wpAnyH_take (i := 0) (v := ?_) rfl (by kernel_rfl) (by kernel_rfl) (by kernel_rfl) (fun _ _ _ h => h) (Or.inl ⟨by rfl, ?_⟩) hS ?_
     rotate_left
     ·(intro W hSW; go_simp <;> with_reducible rfl)
     simp only [nz]
     refine wpAnyH_take (i := 1) (v := ?_) rfl (by kernel_rfl) (by kernel_rfl) (by kernel_rfl) (fun _ _ _ h => h) (Or.inl ⟨by rfl, ?_⟩) hS ?_
     rotate_left
     ·(intro W hSW; go_simp <;> with_reducible rfl)
     simp only [nz]
     refine wpAnyH_take (i := 2) (v := ?_) rfl (by kernel_rfl) (by kernel_rfl) (by kernel_rfl) (fun _ _ _ h => h) (Or.inl ⟨by rfl, ?_⟩) hS ?_
     rotate_left
     ·(intro W hSW; go_simp <;> with_reducible rfl)
     simp only [nz]
     refine wpAnyH_take (i := 3) (v := ?_) rfl (by kernel_rfl) (by kernel_rfl) (by kernel_rfl) (fun _ _ _ h => h) (Or.inl ⟨by rfl, ?_⟩) hS ?_
     rotate_left
     ·(intro W hSW; go_simp <;> with_reducible rfl)
     simp only [nz]
     refine wpAnyH_take (i := 4) (v := ?_) rfl (by kernel_rfl) (by kernel_rfl) (by kernel_rfl) (fun _ _ _ h => h) (Or.inl ⟨by rfl, ?_⟩) hS ?_
     rotate_left
     ·(intro W hSW; go_simp <;> with_reducible rfl)
     simp only [nz]
     refine rdy1 5 rfl (fun K hK => ?_)
     go_simp
     refine (HFI.out).mono ?_
     rintro r w6 ⟨rfl, rfl⟩
     dsimp only
     go_wp2_with fail
     refine hK.out _ _ hS (fun hS => ?_)
     clear hK K
     try simp only [nz]
     refine rdy1 6 rfl (fun K hK => ?_)
     go_simp
     refine hK.out _ _ hS (fun hS => ?_)
     clear hK K
     try simp only [nz]
     refine rdy1 7 rfl (fun K hK => ?_)
     go_simp
     rw [show IntKind.i64.wrap ((i : Int) + 1) = (i : Int) + 1 from IntWalk.i64_in _ (by omega)]
     with_reducible refine (wa_uint ((i : Int) + 1) (by omega) HU5.out.ew.wa).mono ?_
     rintro r w7 ⟨rfl, out7, ha7, ht7, hf7⟩
     have HU7 := Lib.hid (HU5.out.next ha7 ht7 hf7)
     clear ha7 ht7 hf7 HU5 HFI
     dsimp only
     go_wp2_with fail
     refine hK.out _ _ (HU7.out.at_ (j := 1) (y := b) rfl) (fun hS => ?_)
     clear hK K
     try simp only [nz]
     refine wpAnyH_done (by kernel_rfl) ?_ _
     clear hS
     have q2 := HU7.out.at_ (j := 2) (y := c) rfl
     have HU8 := Lib.hid (HU7.out.quiet ((Touch.refl [] w7).drew))
     generalize wUint st4 ((i : Int) + 1) = st7 at *
     go_upto_region 9 with fail
     refine wp_region_held_drew (S := fun W => W.cell? ⟨g, 2, none⟩ = some (.string ⟨c.toArray⟩)) (by kernel_rfl) q2 (fun hS => ?_)
     clear q2 HU7
     cases hoc : idxO optsN c with
     | none =>
      have HF : Hid (fin = none) := Lib.hid (HX4.out.trans (by rw [hoc]; rfl))
      have HFI := Lib.hid (find_none (xs := optsN) (x := c) HU8.out.ew.o rfl (by simp [optsN, maxLen]) (n := 4) rfl hoc)
      clear HX4 hoc hco
      refine wpAnyH_take (i := 0) (v := ?_) rfl (by kernel_rfl) (by kernel_rfl) (by kernel_rfl) (fun _ _ _ h => h) (Or.inl ⟨by rfl, ?_⟩) hS ?_
      rotate_left
      ·(intro W hSW; go_simp <;> with_reducible rfl)
      simp only [nz]
      refine wpAnyH_take (i := 1) (v := ?_) rfl (by kernel_rfl) (by kernel_rfl) (by kernel_rfl) (fun _ _ _ h => h) (Or.inl ⟨by rfl, ?_⟩) hS ?_
      rotate_left
      ·(intro W hSW; go_simp <;> with_reducible rfl)
      simp only [nz]
      refine wpAnyH_take (i := 2) (v := ?_) rfl (by kernel_rfl) (by kernel_rfl) (by kernel_rfl) (fun _ _ _ h => h) (Or.inl ⟨by rfl, ?_⟩) hS ?_
      rotate_left
      ·(intro W hSW; go_simp <;> with_reducible rfl)
      simp only [nz]
      refine wpAnyH_take (i := 3) (v := ?_) rfl (by kernel_rfl) (by kernel_rfl) (by kernel_rfl) (fun _ _ _ h => h) (Or.inl ⟨by rfl, ?_⟩) hS ?_
      rotate_left
      ·(intro W hSW; go_simp <;> with_reducible rfl)
      simp only [nz]
      refine wpAnyH_take (i := 4) (v := ?_) rfl (by kernel_rfl) (by kernel_rfl) (by kernel_rfl) (fun _ _ _ h => h) (Or.inl ⟨by rfl, ?_⟩) hS ?_
      rotate_left
      ·(intro W hSW; go_simp <;> with_reducible rfl)
      simp only [nz]
      refine rdy1 5 rfl (fun K hK => ?_)
      go_simp
      refine (HFI.out).mono ?_
      rintro r w9 ⟨rfl, rfl⟩
      unfold unread
      dsimp only
      clear hK K
      go_wp2_with fail
      exact ⟨rfl, wa_none HF.out HU8.out.ew.wa.t⟩
     | some o =>
      have ho := hco.out _ hoc
      simp [optsN] at ho
      have HFI := Lib.hid (find_some (xs := optsN) (x := c) HU8.out.ew.o rfl (by simp [optsN, maxLen]) (n := 4) rfl hoc)
      rw [hoc, Option.bind_some] at HX4
      clear hoc hco
      refine wpAnyH_take (i := 0) (v := ?_) rfl (by kernel_rfl) (by kernel_rfl) (by kernel_rfl) (fun _ _ _ h => h) (Or.inl ⟨by rfl, ?_⟩) hS ?_
      rotate_left
      ·(intro W hSW; go_simp <;> with_reducible rfl)
      simp only [nz]
      refine wpAnyH_take (i := 1) (v := ?_) rfl (by kernel_rfl) (by kernel_rfl) (by kernel_rfl) (fun _ _ _ h => h) (Or.inl ⟨by rfl, ?_⟩) hS ?_
      rotate_left
      ·(intro W hSW; go_simp <;> with_reducible rfl)
      simp only [nz]
      refine wpAnyH_take (i := 2) (v := ?_) rfl (by kernel_rfl) (by kernel_rfl) (by kernel_rfl) (fun _ _ _ h => h) (Or.inl ⟨by rfl, ?_⟩) hS ?_
      rotate_left
      ·(intro W hSW; go_simp <;> with_reducible rfl)
      simp only [nz]
      refine wpAnyH_take (i := 3) (v := ?_) rfl (by kernel_rfl) (by kernel_rfl) (by kernel_rfl) (fun _ _ _ h => h) (Or.inl ⟨by rfl, ?_⟩) hS ?_
      rotate_left
      ·(intro W hSW; go_simp <;> with_reducible rfl)
      simp only [nz]
      refine wpAnyH_take (i := 4) (v := ?_) rfl (by kernel_rfl) (by kernel_rfl) (by kernel_rfl) (fun _ _ _ h => h) (Or.inl ⟨by rfl, ?_⟩) hS ?_
      rotate_left
      ·(intro W hSW; go_simp <;> with_reducible rfl)
      simp only [nz]
      refine rdy1 5 rfl (fun K hK => ?_)
      go_simp
      refine (HFI.out).mono ?_
      rintro r w9 ⟨rfl, rfl⟩
      dsimp only
      go_wp2_with fail
      refine hK.out _ _ hS (fun hS => ?_)
      clear hK K
      try simp only [nz]
      refine rdy1 6 rfl (fun K hK => ?_)
      go_simp
      with_reducible refine (wa_uint (o : Int) (by omega) HU8.out.ew.wa).mono ?_
      rintro r w10 ⟨rfl, out10, ha10, ht10, hf10⟩
      have HU10 := Lib.hid (HU8.out.next ha10 ht10 hf10)
      clear ha10 ht10 hf10 HU8 HFI
      dsimp only
      go_wp2_with fail
      refine hK.out _ _ (HU10.out.at_ (j := 2) (y := c) rfl) (fun hS => ?_)
      clear hK K
      try simp only [nz]
      refine wpAnyH_done (by kernel_rfl) ?_ _
      clear hS
      have q3 := HU10.out.at_ (j := 3) (y := d) rfl
      have HPD := Lib.hid (rmoney_any d w10 HLD.out (HN.out w10 HU10.out.ew.wa.t).1)
      generalize wUint st7 (o : Int) = st10 at *
      cases hpd : parseP d with
      | none =>
       have HF : Hid (fin = none) := Lib.hid (HX4.out.trans (by rw [hpd]; rfl))
       rw [hpd] at HPD
       clear HX4 hpd
       go_wp2_with fail
       refine HPD.out.mono ?_
       rintro r w11 ⟨ht11, rfl⟩
       unfold unread
       go_wp2_with fail
       exact ⟨rfl, wa_none HF.out (HU10.out.ew.wa.t.then0 ht11)⟩
      | some m =>
       have hfm := parseP_fits hpd
       rw [hpd] at HPD
       have HX5 : Hid (fin = foldO evLineW (wUint st10 m) (xs.drop (k + 1))) := Lib.hid (HX4.out.trans (by rw [hpd]; rfl))
       clear HX4 hpd
       go_wp2_with fail
       refine HPD.out.mono ?_
       rintro r w11 ⟨ht11, rfl⟩
       have HU11 := Lib.hid (HU10.out.quiet ht11)
       clear ht11 HPD q3
       dsimp only
       go_wp2_with fail
       refine (wa_uint m hfm.2 HU11.out.ew.wa).mono ?_
       rintro r w12 ⟨rfl, out12, ha12, ht12, hf12⟩
       have HU12 := Lib.hid (HU11.out.next ha12 ht12 hf12)
       clear ha12 ht12 hf12
       go_wp2_with fail
       go_roundw
       case rel => exact ⟨k + 1, out12, _, by omega, by go_num, HU12.out.ew, HX5⟩
       case measure => simp [intOf]; omega
  ·have hlt' : ¬ (k : Int) < (xs.length : Int) := by omega
   obtain rfl : k = xs.length := by omega
   have HF : Hid (fin = some st') := Lib.hid (by rw [HX.out, List.drop_length]; rfl)
   clear HX
   go_wp2_with fail
   go_end0
   exact wa_some HF.out HE.out.wa HE.out.ks
end Go.Proofs.YtedpaajpfaoffaaGreatDoor
namespace Go.Proofs.YtedpaajpfaoffaaGreatDoor
open Go.RowKit
section
variable {W W' : World} {b b' g n size : Nat} {t t' e : TypeId} {v : Value} {xs : List Value} {L : List Nat}
theorem Own.setAt {A : Option Addr} {cap : Nat} (h : Own W e 1 (.slice A n cap) n xs) {j : Nat} (hj : j < n) (u : Value) : ∃ g, A = some ⟨g, 0, none⟩ ∧ Own (W.setCell ⟨g, j, none⟩ u) e 1 (.slice A n cap) n (xs.set j u) := by
 obtain ⟨h1, h2⟩ := h
 rcases h2 with ⟨h2, rfl⟩ | ⟨g, cap', cur, h2, hb, hg, hn, hm, hc, ht⟩
 ·omega
 ·injection h2 with e1 e2 e3
  subst e1 e3
  refine ⟨g, rfl, by simpa using h1, .inr ⟨g, cap, cur.setIfInBounds j u, rfl, hb, ?_, hn, hm, by simpa using hc, ?_⟩⟩
  ·simp [World.setCell, Array.getElem?_modify, hg]
  ·rw [← ht, Array.toList_setIfInBounds, List.take_set]
theorem Own.cellAt {A : Option Addr} {cap : Nat} (h : Own W e 1 (.slice A n cap) n xs) {j : Nat} {u : Value} (hu : xs[j]? = some u) : ∃ g, A = some ⟨g, 0, none⟩ ∧ g < W.heap.size ∧ n ≤ cap ∧ cap ≤ maxLen ∧ W.cell? ⟨g, j, none⟩ = some u ∧ W.frozen? ⟨g, j, none⟩ = false := by
 have hl := h.len
 have hjl : j < xs.length := (List.getElem?_eq_some_iff.1 hu).1
 rcases h.2 with ⟨h2, rfl⟩ | ⟨g, cap', cur, h2, hb, hg, hn, hm, hc, ht⟩
 ·omega
 ·injection h2 with e1 e2 e3
  subst e1 e3
  have hbk : Blk W g e cur := hg
  refine ⟨g, rfl, hbk.lt, hn, hm, ?_, hbk.frozen j⟩
  rw [hbk.cell j]
  have h3 := congrArg (fun l : List Value => l[j]?) ht
  simp only [hu] at h3
  rw [List.getElem?_take] at h3
  split at h3
  ·simpa using h3
  ·cases h3
end
structure AreaAt (W : World) (a : Value) (us : List Value) (g : List (List (List UInt8))) : Prop where
 len : us.length = g.length
 row : Own W 39 1 a us.length us
 words : ∀ (i : Nat) u ws, us[i]? = some u → g[i]? = some ws → OwnS W u ws
structure La (bd : Nat) (W : World) (tl : Value) (vs : List Value) (uss : List (List Value)) (gs : List (List (List (List UInt8)))) : Prop where
 lv : vs.length = gs.length
 lu : uss.length = gs.length
 row : Own W 49 1 tl vs.length vs
 areas : ∀ (j : Nat) a us g, vs[j]? = some a → uss[j]? = some us → gs[j]? = some g → AreaAt W a us g
 sep : ∀ (i j : Nat) a b, i < j → vs[i]? = some a → vs[j]? = some b → ∀ x ∈ blk a, x ∉ blk b
 bds : ∀ a ∈ vs, ∀ x ∈ blk a, bd ≤ x
 tlb : ∀ x ∈ blk tl, bd ≤ x
section
variable {W W' W2 W3 : World} {bd : Nat} {tl tl' a a' u : Value} {vs us : List Value} {uss : List (List Value)} {g : List (List (List UInt8))} {gs : List (List (List (List UInt8)))} {ws : List (List UInt8)} {L : List Nat}
theorem OwnS.touchK (h : OwnS W u ws) (ht : Touch L W W') (hk : ∀ b ∈ L, ∃ t, Kind W b t ∧ t ≠ 9) : OwnS W' u ws := Own.touchK h ht hk
theorem AreaAt.touch (h : AreaAt W a us g) (ht : Touch L W W') (ha : ∀ b ∈ blk a, b ∉ L) (hk : ∀ b ∈ L, ∃ t, Kind W b t ∧ t ≠ 9) : AreaAt W' a us g :=
 ⟨h.len, h.row.touch ht ha, fun i u ws hu hw => (h.words i u ws hu hw).touchK ht hk⟩
theorem AreaAt.touchK (h : AreaAt W a us g) (ht : Touch L W W') (hk : ∀ b ∈ L, ∃ t, Kind W b t ∧ t ≠ 9 ∧ t ≠ 39) : AreaAt W' a us g :=
 ⟨h.len, h.row.touchK ht (fun b hb => by obtain ⟨t, h1, h2, h3⟩ := hk b hb; exact ⟨t, h1, h3⟩), fun i u ws hu hw => (h.words i u ws hu hw).touchK ht (fun b hb => by obtain ⟨t, h1, h2, h3⟩ := hk b hb; exact ⟨t, h1, h2⟩)⟩
theorem La.touchK (h : La bd W tl vs uss gs) (ht : Touch L W W') (hk : ∀ b ∈ L, ∃ t, Kind W b t ∧ t ≠ 9 ∧ t ≠ 39 ∧ t ≠ 49) : La bd W' tl vs uss gs :=
 ⟨h.lv, h.lu, h.row.touchK ht (fun b hb => by obtain ⟨t, h1, h2, h3, h4⟩ := hk b hb; exact ⟨t, h1, h4⟩), fun j a us g h1 h2 h3 => (h.areas j a us g h1 h2 h3).touchK ht (fun b hb => by obtain ⟨t, h1, h2, h3, h4⟩ := hk b hb; exact ⟨t, h1, h2, h3⟩), h.sep, h.bds, h.tlb⟩
theorem La.touch0 (h : La bd W tl vs uss gs) (ht : Touch [] W W') : La bd W' tl vs uss gs := h.touchK ht (fun b hb => by cases hb)
theorem La.nil (bd : Nat) (W : World) : La bd W (.slice none 0 0) [] [] [] := ⟨rfl, rfl, Own.nil _ _ _, fun j a us g h => by simp at h, fun i j a b _ h => by simp at h, fun a h => (by cases h), fun x h => (by cases h)⟩
theorem La.push {n : Nat} (h : La bd W tl vs uss gs) (hn : n = vs.length) (hu : OwnS W u ws) (hbd : bd ≤ W.heap.size) (ho : Own W3 49 1 tl' (n + 1) (vs ++ [.slice (some ⟨W.heap.size, 0, none⟩) 1 1])) (ht : Touch (blk tl) (W.alloc (.cells #[u] 39)) W3) (hf : From (W.alloc (.cells #[u] 39)) tl tl') :
  La bd W3 tl' (vs ++ [.slice (some ⟨W.heap.size, 0, none⟩) 1 1]) (uss ++ [[u]]) (gs ++ [[ws]]) := by
 subst hn
 have t2 : Touch [] W (W.alloc (.cells #[u] 39)) := (Touch.refl _ _).alloc _
 have h2 := h.touch0 t2
 have hu2 : OwnS (W.alloc (.cells #[u] 39)) u ws := hu.touch0 t2
 have hlit : Own (W.alloc (.cells #[u] 39)) 39 1 (.slice (some ⟨W.heap.size, 0, none⟩) 1 1) 1 [u] := ownLit W _ rfl _ 1 1 [u] rfl (by simp [maxLen])
 have hk : ∀ b ∈ blk tl, Kind (W.alloc (.cells #[u] 39)) b 49 := h2.row.kind
 refine ⟨by simp [h.lv], by simp [h.lu], by simpa using ho, fun j a us g h3 h4 h5 => ?_, fun i j a b hij h3 h4 => ?_, fun a ha => ?_, fun x hx => ?_⟩
 ·refine AreaAt.touchK (L := blk tl) ?_ ht (fun b hb => ⟨_, hk b hb, by decide, by decide⟩)
  by_cases hj : j < vs.length
  ·rw [List.getElem?_append_left hj] at h3
   rw [List.getElem?_append_left (by rw [h.lu, ← h.lv]; exact hj)] at h4
   rw [List.getElem?_append_left (by rw [← h.lv]; exact hj)] at h5
   exact h2.areas j a us g h3 h4 h5
  ·have hj2 : j = vs.length := by
    have := (List.getElem?_eq_some_iff.1 h3).1
    simp at this
    omega
   subst hj2
   rw [List.getElem?_concat_length] at h3
   rw [show vs.length = uss.length by rw [h.lu, h.lv], List.getElem?_concat_length] at h4
   rw [h.lv, List.getElem?_concat_length] at h5
   injection h3 with h3
   injection h4 with h4
   injection h5 with h5
   subst h3 h4 h5
   refine ⟨rfl, hlit, fun i u' ws' h6 h7 => ?_⟩
   have hi : i = 0 := by
    have := (List.getElem?_eq_some_iff.1 h6).1
    simp at this
    omega
   subst hi
   simp at h6 h7
   subst h6 h7
   exact hu2
 ·have hi : i < vs.length := by
   have := (List.getElem?_eq_some_iff.1 h4).1
   simp at this
   omega
  rw [List.getElem?_append_left hi] at h3
  by_cases hj : j < vs.length
  ·rw [List.getElem?_append_left hj] at h4
   exact h.sep i j a b hij h3 h4
  ·have hj2 : j = vs.length := by
    have := (List.getElem?_eq_some_iff.1 h4).1
    simp at this
    omega
   subst hj2
   rw [List.getElem?_concat_length] at h4
   injection h4 with h4
   subst h4
   intro x hx hm
   simp [blk] at hm
   have hiu : i < uss.length := by rw [h.lu, ← h.lv]; exact hi
   have hig : i < gs.length := by rw [← h.lv]; exact hi
   have h6 := (h.areas i a uss[i] gs[i] h3 (List.getElem?_eq_getElem hiu) (List.getElem?_eq_getElem hig)).row.lt x hx
   omega
 ·rcases List.mem_append.1 ha with ha | ha
  ·exact h.bds a ha
  ·simp at ha
   subst ha
   intro x hx
   simp [blk] at hx
   omega
 ·rcases hf x hx with h1 | h1
  ·exact h.tlb x h1
  ·have := t2.size
   omega
theorem La.grow {A : Option Addr} {cap m : Nat} (h : La bd W (.slice A (m + 1) cap) vs uss gs) (hu : OwnS W u ws) (hbd : bd ≤ W.heap.size) (ha : vs[m]? = some a) (hus : uss[m]? = some us) (hg : gs[m]? = some g)
  {n : Nat} (hn : n = us.length) (ho : Own W2 39 1 a' (n + 1) (us ++ [u])) (ht : Touch (blk a) W W2) (hf : From W a a') :
  ∃ b, A = some ⟨b, 0, none⟩ ∧ Touch [b] W2 (W2.setCell ⟨b, m, none⟩ a') ∧ bd ≤ b ∧ Kind W2 b 49 ∧ W2.cell? ⟨b, m, none⟩ = some a ∧ W2.frozen? ⟨b, m, none⟩ = false ∧ La bd (W2.setCell ⟨b, m, none⟩ a') (.slice A (m + 1) cap) (vs.set m a') (uss.set m (us ++ [u])) (gs.set m (g ++ [ws])) := by
 subst hn
 have hm : vs.length = m + 1 := by
  obtain ⟨A', cap', e⟩ := h.row.form
  injection e with e1 e2 e3
  exact e2.symm
 have h' := h.row
 rw [hm] at h'
 have hA := h.areas m a us g ha hus hg
 have hka : ∀ b ∈ blk a, Kind W b 39 := hA.row.kind
 have hrow2 : Own W2 49 1 (.slice A (m + 1) cap) (m + 1) vs := h'.touchK ht (fun b hb => ⟨_, hka b hb, by decide⟩)
 have hu2 : OwnS W2 u ws := hu.touchK ht (fun b hb => ⟨_, hka b hb, by decide⟩)
 obtain ⟨b, rfl, hset⟩ := hrow2.setAt (j := m) (by omega) a'
 obtain ⟨b', eb, -, -, -, hcl, hfr⟩ := hrow2.cellAt ha
 injection eb with eb
 injection eb with eb
 subst eb
 have hb2 : Kind W2 b 49 := hrow2.kind b (by simp [blk])
 have hbb : bd ≤ b := h.tlb b (by simp [blk])
 have ts : Touch [b] W2 (W2.setCell ⟨b, m, none⟩ a') := (Touch.refl _ _).setCell (.inl (by simp)) _
 have hks : ∀ x ∈ [b], ∃ t, Kind W2 x t ∧ t ≠ 9 ∧ t ≠ 39 := fun x hx => by
  rw [List.mem_singleton] at hx
  subst hx
  exact ⟨_, hb2, by decide, by decide⟩
 have hbd2 : ∀ x ∈ blk a', bd ≤ x := fun x hx => by
  rcases hf x hx with h1 | h1
  ·exact h.bds a (List.mem_of_getElem? ha) x h1
  ·omega
 have hold : ∀ (j : Nat) (c : Value), j < m → vs[j]? = some c → ∀ x ∈ blk c, x ∉ blk a' := fun j c hj hc x hx hm2 => by
  rcases hf x hm2 with h1 | h1
  ·exact h.sep j m c a hj hc ha x hx h1
  ·have hju : j < uss.length := by rw [h.lu, ← h.lv]; omega
   have hjg : j < gs.length := by rw [← h.lv]; omega
   have h6 := (h.areas j c uss[j] gs[j] hc (List.getElem?_eq_getElem hju) (List.getElem?_eq_getElem hjg)).row.lt x hx
   omega
 refine ⟨b, rfl, ts, hbb, hb2, hcl, hfr, by simp [h.lv], by simp [h.lu], by simpa [hm] using hset, fun j c us' g' h3 h4 h5 => ?_, fun i j c d hij h3 h4 => ?_, fun c hc => ?_, h.tlb⟩
 ·refine AreaAt.touchK ?_ ts hks
  by_cases hj : j = m
  ·subst hj
   rw [List.getElem?_set_self (by omega)] at h3
   rw [List.getElem?_set_self (by rw [h.lu, ← h.lv]; omega)] at h4
   rw [List.getElem?_set_self (by rw [← h.lv]; omega)] at h5
   injection h3 with h3
   injection h4 with h4
   injection h5 with h5
   subst h3 h4 h5
   refine ⟨by simp [hA.len], by simpa using ho, fun i u' ws' h6 h7 => ?_⟩
   by_cases hi : i < us.length
   ·rw [List.getElem?_append_left hi] at h6
    rw [List.getElem?_append_left (by rw [← hA.len]; exact hi)] at h7
    exact (hA.words i u' ws' h6 h7).touchK ht (fun b hb => ⟨_, hka b hb, by decide⟩)
   ·have hi2 : i = us.length := by
     have := (List.getElem?_eq_some_iff.1 h6).1
     simp at this
     omega
    subst hi2
    rw [List.getElem?_concat_length] at h6
    rw [hA.len, List.getElem?_concat_length] at h7
    injection h6 with h6
    injection h7 with h7
    subst h6 h7
    exact hu2
  ·rw [List.getElem?_set_ne (by omega)] at h3 h4 h5
   have hjm : j < m := by
    have := (List.getElem?_eq_some_iff.1 h3).1
    omega
   exact (h.areas j c us' g' h3 h4 h5).touch ht (h.sep j m c a hjm h3 ha) (fun b hb => ⟨_, hka b hb, by decide⟩)
 ·have hjl : j < m + 1 := by
   have := (List.getElem?_eq_some_iff.1 h4).1
   simp at this
   omega
  rw [List.getElem?_set_ne (by omega)] at h3
  by_cases hj : j = m
  ·subst hj
   rw [List.getElem?_set_self (by omega)] at h4
   injection h4 with h4
   subst h4
   exact hold i c hij h3
  ·rw [List.getElem?_set_ne (by omega)] at h4
   exact h.sep i j c d hij h3 h4
 ·rcases List.mem_or_eq_of_mem_set hc with h1 | h1
  ·exact h.bds c h1
  ·subst h1
   exact hbd2
end
section
variable {W : World} {bd n cap k i : Nat} {A : Option Addr} {a u : Value} {vs us : List Value} {uss : List (List Value)} {g : List (List (List UInt8))} {gs : List (List (List (List UInt8)))} {ws : List (List UInt8)}
theorem La.len (h : La bd W (.slice A n cap) vs uss gs) : n = vs.length := by
 obtain ⟨A', cap', e⟩ := h.row.form
 injection e
theorem La.cell (h : La bd W (.slice A n cap) vs uss gs) (hk : vs[k]? = some a) : ∃ b, A = some ⟨b, 0, none⟩ ∧ W.cell? ⟨b, k, none⟩ = some a := by
 have h' := h.row
 rw [← h.len] at h'
 obtain ⟨b, h1, -, -, -, h2, -⟩ := h'.cellAt hk
 exact ⟨b, h1, h2⟩
theorem AreaAt.cell (h : AreaAt W (.slice A n cap) us g) (hu : us[i]? = some u) : ∃ b, A = some ⟨b, 0, none⟩ ∧ n ≤ cap ∧ W.cell? ⟨b, i, none⟩ = some u := by
 have h' := h.row
 obtain ⟨A', cap', e⟩ := h'.form
 injection e with e1 e2 e3
 rw [← e2] at h'
 obtain ⟨b, h1, -, h3, -, h2, -⟩ := h'.cellAt hu
 exact ⟨b, h1, h3, h2⟩
theorem La.at_ {b : Nat} (h : La bd W (.slice (some ⟨b, 0, none⟩) n cap) vs uss gs) (hk : vs[k]? = some a) : W.cell? ⟨b, k, none⟩ = some a := by
 obtain ⟨b', e, h2⟩ := h.cell hk
 injection e with e
 injection e with e
 subst e
 exact h2
theorem AreaAt.at_ {b : Nat} (h : AreaAt W (.slice (some ⟨b, 0, none⟩) n cap) us g) (hu : us[i]? = some u) : W.cell? ⟨b, i, none⟩ = some u := by
 obtain ⟨b', e, -, h2⟩ := h.cell hu
 injection e with e
 injection e with e
 subst e
 exact h2
theorem OwnS.at_ {b : Nat} (h : OwnS W (.slice (some ⟨b, 0, none⟩) n cap) ws) {y : List UInt8} (hy : ws[i]? = some y) : W.cell? ⟨b, i, none⟩ = some (.string ⟨y.toArray⟩) := by
 have h' := Own.cellAt (j := i) (u := str y) (by
  have h1 : Own W 9 1 (.slice (some ⟨b, 0, none⟩) n cap) ws.length (ws.map str) := h
  obtain ⟨A', cap', e⟩ := h.form
  injection e with e1 e2 e3
  rwa [← e2] at h1) (by rw [List.getElem?_map, hy]; rfl)
 obtain ⟨b', e, -, -, -, h2, -⟩ := h'
 injection e with e
 injection e with e
 subst e
 exact h2
theorem OwnS.cell (h : OwnS W (.slice A n cap) ws) {y : List UInt8} (hy : ws[i]? = some y) : ∃ b, A = some ⟨b, 0, none⟩ ∧ n = ws.length ∧ n ≤ cap ∧ W.cell? ⟨b, i, none⟩ = some (.string ⟨y.toArray⟩) := by
 obtain ⟨A', cap', e⟩ := h.form
 injection e with e1 e2 e3
 subst e1 e2 e3
 have h' : Own W 9 1 (.slice A ws.length cap) ws.length (ws.map str) := h
 obtain ⟨b, h1, -, h3, -, h2, -⟩ := h'.cellAt (j := i) (u := str y) (by rw [List.getElem?_map, hy]; rfl)
 exact ⟨b, h1, rfl, h3, h2⟩
end
structure Lw (w0 ws W : World) (p : Nat) (out : Value) (st : WS) (tl : Value) (vs : List Value) (uss : List (List Value)) (gs : List (List (List (List UInt8)))) : Prop where
 wa : Wa w0 W p out st
 la : La w0.heap.size W tl vs uss gs
 ks : KeepS ws W
section
variable {w0 ws W W' : World} {p : Nat} {out out' tl : Value} {st st' : WS} {vs : List Value} {uss : List (List Value)} {gs : List (List (List (List UInt8)))}
theorem Wa.farK {L : List Nat} (h : Wa w0 W p out st) (t : Touch L W W') (hL : ∀ g ∈ L, w0.heap.size ≤ g ∧ ∃ t, Kind W g t ∧ t ≠ 96 ∧ t ≠ 5) : Wa w0 W' p out st :=
 h.far t (fun g hg => by
  obtain ⟨h1, t, h2, h3, h4⟩ := hL g hg
  exact ⟨h1, h2.ne h.pkind h3, fun hm => h2.ne (h.okind g hm) h4 rfl⟩)
theorem Lw.quiet (h : Lw w0 ws W p out st tl vs uss gs) (t : Touch [] W W') : Lw w0 ws W' p out st tl vs uss gs := ⟨h.wa.quiet t, h.la.touch0 t, h.ks.trans (KeepS.of_touch t (fun b hb => by cases hb))⟩
theorem Lw.next (h : Lw w0 ws W p out st tl vs uss gs) (ha : Wa w0 W' p out' st') (ht : Touch (p :: blkS st out) W W') : Lw w0 ws W' p out' st' tl vs uss gs :=
 ⟨ha, h.la.touchK ht (fun b hb => by
  rcases List.mem_cons.1 hb with e | e
  ·subst e
   exact ⟨_, h.wa.pkind, by decide, by decide, by decide⟩
  ·exact ⟨_, h.wa.okind b e, by decide, by decide, by decide⟩), h.ks.trans (h.wa.keepS ht)⟩
end
end Go.Proofs.YtedpaajpfaoffaaGreatDoor
namespace Go.Proofs.YtedpaajpfaoffaaGreatDoor
open Go.RowKit
def GOK (g : List (List (List UInt8))) : Prop := ∃ x y r, g = [x, y] :: r ∧ ∀ s ∈ r, s.length = 4
def GOKs (k : Nat) (gs : List (List (List (List UInt8)))) : Prop := gs.length ≤ k ∧ ∀ g ∈ gs, g.length ≤ k + 1 ∧ GOK g ∧ ∀ ws ∈ g, ∀ y ∈ ws, y.length ≤ 100000
section
variable {gs : List (List (List (List UInt8)))} {line : List UInt8} {g : List (List (List UInt8))} {m k : Nat}
theorem grp_two (h : (splitL line).length = 2) : grpStep gs line = some (gs ++ [[splitL line]]) := by
 unfold grpStep
 rw [if_pos h]
theorem grp_nil (h : (splitL line).length ≠ 2) : grpStep [] line = none := by
 unfold grpStep
 rw [if_neg h]
 rfl
theorem grp_bad (h : (splitL line).length ≠ 2) (h4 : (splitL line).length ≠ 4) : grpStep gs line = none := by
 unfold grpStep
 rw [if_neg h]
 split
 ·rw [if_neg h4]
 ·rfl
theorem set_last {α : Type} : ∀ {l : List α} {m : Nat} (x : α), l.length = m + 1 → l.set m x = l.dropLast ++ [x]
 | [a], 0, x, _ => rfl
 | a :: b :: t, m + 1, x, h => by
  have := set_last (l := b :: t) (m := m) x (by simpa using h)
  rw [List.set_cons_succ, this]
  rfl
 | [], m, x, h => by simp at h
 | a :: b :: t, 0, x, h => by simp at h
theorem grp_four (h4 : (splitL line).length = 4) (hl : gs.length = m + 1) (hg : gs[m]? = some g) : grpStep gs line = some (gs.set m (g ++ [splitL line])) := by
 unfold grpStep
 have hlast : gs.getLast? = some g := by rw [List.getLast?_eq_getElem?, hl]; exact hg
 rw [if_neg (by omega), hlast, set_last _ hl]
 simp only
 rw [if_pos h4]
theorem GOKs.push (h : GOKs k gs) (hw : ∀ y ∈ splitL line, y.length ≤ 100000) (h2 : (splitL line).length = 2) : GOKs (k + 1) (gs ++ [[splitL line]]) := by
 refine ⟨by have := h.1; simp; omega, fun g hg => ?_⟩
 rcases List.mem_append.1 hg with hg | hg
 ·have := h.2 g hg
  exact ⟨by omega, this.2⟩
 ·simp at hg
  subst hg
  refine ⟨by simp, ?_, fun ws hws => by simp at hws; subst hws; exact hw⟩
  match hs : splitL line, h2 with
  | [x, y], _ => exact ⟨x, y, [], rfl, fun s hs => by cases hs⟩
theorem GOKs.grow (h : GOKs k gs) (hw : ∀ y ∈ splitL line, y.length ≤ 100000) (h4 : (splitL line).length = 4) (hl : gs.length = m + 1) (hg : gs[m]? = some g) : GOKs (k + 1) (gs.set m (g ++ [splitL line])) := by
 refine ⟨by have := h.1; simp; omega, fun g' hg' => ?_⟩
 rcases List.mem_or_eq_of_mem_set hg' with h1 | h1
 ·have := h.2 g' h1
  exact ⟨by omega, this.2⟩
 ·subst h1
  obtain ⟨h5, ⟨x, y, r, rfl, h6⟩, h7⟩ := h.2 g (List.mem_of_getElem? hg)
  refine ⟨by simp at h5 ⊢; omega, ⟨x, y, r ++ [splitL line], rfl, fun s hs => ?_⟩, fun ws hws => ?_⟩
  rotate_left
  ·rcases List.mem_append.1 hws with h8 | h8
   ·exact h7 ws h8
   ·simp at h8
    subst h8
    exact hw
  rcases List.mem_append.1 hs with hs | hs
  ·exact h6 s hs
  ·simp at hs
   subst hs
   exact h4
end
def numW (st : WS) (s : List UInt8) : Option WS := (numO s).map (wUint st)
theorem slot_nums (st : WS) (a b c d : List UInt8) : slotW st [a, b, c, d] = (foldO numW st [a, b, c]).map fun t => wBytes t d := by
 unfold slotW
 simp only [foldO, numW]
 cases numO a with
 | none => rfl
 | some x =>
  cases numO b with
  | none => rfl
  | some y => cases numO c <;> rfl
theorem area_two (st : WS) (x y : List UInt8) (r : List (List (List UInt8))) : areaW st ([x, y] :: r) = (numO y).bind fun n => foldO slotW (wUint (wUint st n) r.length) r := rfl
end Go.Proofs.YtedpaajpfaoffaaGreatDoor
namespace Go.Proofs.YtedpaajpfaoffaaGreatDoor
open Go.RowKit
theorem elem_L : Elem Tryz.prog 49 39 1 24 := Elem.mk (z := .slice none 0 0) Tryz.underlying49 (by kernel_rfl) rfl (by decide)
theorem elem_LL : Elem Tryz.prog 163 49 1 24 := Elem.mk (z := .slice none 0 0) Tryz.underlying163 (by kernel_rfl) rfl (by decide)
theorem run_tail (b n cap : Nat) (hc : n + 1 ≤ cap) : ∃ A2 c2, (∀ w : World, (Instr.slice 49 (.slice (some ⟨b, 0, none⟩) (n + 1) cap) (some (.int .i64 1)) none none).run Tryz.prog w = .ok (.slice A2 n c2) w) ∧ (0 < n → A2 = some ⟨b, 1, none⟩) := by
 refine ⟨if cap = 1 then some ⟨b, 0, none⟩ else (some ⟨b, 0, none⟩ : Option Addr).map (·.add (1 * 1)), cap - 1, fun w => ?_, fun hn => ?_⟩
 ·rw [run_slice_l (P := Tryz.prog) w 49 (some ⟨b, 0, none⟩) (n + 1) cap (by kernel_rfl) .i64 1 (by omega) (by omega)]
  have hsz : (sizeOf (Tryz.prog.elem 49)).run Tryz.prog w = .ok 1 w := by kernel_rfl
  rw [hsz]
  rfl
 ·rw [if_neg (by omega)]
  rfl
def GrpRel (w0 ws : World) (p : Nat) (out : Value) (st : WS) (xs : List (List UInt8)) (fin : Option (List (List (List (List UInt8))))) (tl ti : Value) (wr : World) : Prop := ∃ (k : Nat) (vs : List Value) (uss : List (List Value)) (gs : List (List (List (List UInt8)))), k ≤ xs.length ∧ ti = .int .i64 k ∧ GOKs k gs ∧ Lw w0 ws wr p out st tl vs uss gs ∧ Hid (fin = foldO grpStep gs (xs.drop k))
def ArRel (w0 ws : World) (p : Nat) (tl : Value) (vs : List Value) (uss : List (List Value)) (gs : List (List (List (List UInt8)))) (fin : Option WS) (ti : Value) (wr : World) : Prop := ∃ (k : Nat) (out : Value) (st : WS), k ≤ gs.length ∧ ti = .int .i64 k ∧ Lw w0 ws wr p out st tl vs uss gs ∧ Hid (fin = foldO areaW st (gs.drop k))
def SlRel (w0 ws : World) (p : Nat) (tl : Value) (vs : List Value) (uss : List (List Value)) (gs : List (List (List (List UInt8)))) (r : List (List (List UInt8))) (K : WS → Option WS) (fin : Option WS) (ti : Value) (wr : World) : Prop := ∃ (j : Nat) (out : Value) (st : WS), j ≤ r.length ∧ ti = .int .i64 j ∧ Lw w0 ws wr p out st tl vs uss gs ∧ Hid (fin = (foldO slotW st (r.drop j)).bind K)
def NmRel (w0 ws : World) (p : Nat) (tl : Value) (vs : List Value) (uss : List (List Value)) (gs : List (List (List (List UInt8)))) (ns : List (List UInt8)) (K : WS → Option WS) (fin : Option WS) (ti : Value) (wr : World) : Prop := ∃ (q : Nat) (out : Value) (st : WS), q ≤ 3 ∧ ti = .int .i64 q ∧ Lw w0 ws wr p out st tl vs uss gs ∧ Hid (fin = (foldO numW st (ns.drop q)).bind K)
theorem writeAreas_any (xs : List (List UInt8)) (v : Value) (w0 w : World) (p : Nat) (out : Value) (st : WS) (hv : StrsAt w0 v xs) (h : Wa w0 w p out st) (hn : ∀ W, Touch [] w0 W → MF W ∧ RN W) (hx : xs.length ≤ 1000) (hl : ∀ x ∈ xs, x.length ≤ 100000 ∧ ∀ y ∈ splitL x, y.length ≤ 100000) :
  Calls Tryz.prog 66 #[.pointer (some ⟨p, 0, none⟩), v] w (WaPost w0 w p (areasW st xs)) := by
 obtain ⟨A0, cap0, rfl, c1, c2⟩ := hv.form
 generalize hfin : areasW st xs = fin
 unfold areasW at hfin
 generalize hgf : foldO grpStep [] xs = gf at hfin
 have HFIN := Lib.hid hfin
 have HGF := Lib.hid hgf.symm
 clear hfin hgf
 have HN := Lib.hid hn
 have HL := Lib.hid hl
 have HV := Lib.hid hv
 have hst : GrpRel w0 w p out st xs gf (.slice none 0 0) (.int .i64 0) w := ⟨0, [], [], [], by omega, rfl, ⟨by simp, fun g hg => by cases hg⟩, ⟨h, La.nil _ _, KeepS.refl _⟩, HGF⟩
 clear hn hl hv h HGF
 go_enter Tryz.func66, Tryz.ntmps66
 go_wp2_with fail
 go_loopw [4, 16] (fun tl ti wr => GrpRel w0 w p out st xs gf tl ti wr) (fun _ ti _ => xs.length - (intOf ti).toNat)
 case atStart => exact hst
 case round =>
  clear hst
  obtain ⟨k, vs, uss, gs, hk, rfl, hgk, hlw, HX⟩ := hrel
  have HGK := Lib.hid hgk
  have HLW := Lib.hid hlw
  obtain ⟨A, cap, rfl⟩ := hlw.la.row.form
  have hvl : vs.length ≤ 1000 := by have := hgk.1; have := hlw.la.lv; omega
  have HLV := Lib.hid hlw.la.lv
  clear hgk hlw
  by_cases hlt : k < xs.length
  ·have hlt' : (k : Int) < (xs.length : Int) := by omega
   obtain ⟨b0, off, rfl, hc⟩ := HV.out.addr hlt
   have q0 := hc _ HLW.out.wa.t
   have hlk := HL.out _ (List.getElem_mem hlt)
   have HSP := Lib.hid (split_any xs[k] wr hlk.1)
   have HLWD := Lib.hid hlk.2
   have HX1 : Hid (gf = (grpStep gs xs[k]).bind fun t => foldO grpStep t (xs.drop (k + 1))) := Lib.hid (HX.out.trans (foldO_step hlt))
   clear HX hc hlk
   generalize xs[k] = line at *
   go_wp2_with fail
   refine HSP.out.mono ?_
   rintro r w2 ⟨g, cap2, rfl, hg, hc1, hc2, hs2, ht2⟩
   have HS2 := Lib.hid hs2
   have HLW2 := Lib.hid (HLW.out.quiet ht2)
   have HZ2 : Hid (w0.heap.size ≤ w2.heap.size) := Lib.hid HLW2.out.wa.t.size
   clear hs2 ht2 HSP HLW q0 hg
   by_cases h2 : (splitL line).length = 2
   ·have HX2 : Hid (gf = foldO grpStep (gs ++ [[splitL line]]) (xs.drop (k + 1))) := Lib.hid (by rw [HX1.out, grp_two h2]; rfl)
    have HG2 := Lib.hid (HGK.out.push HLWD.out h2)
    rw [h2] at HS2 hc1 ⊢
    clear HX1 HGK h2
    generalize hvn : vs.length = vn at *
    have HVN := Lib.hid hvn
    clear hvn
    have tA := (Touch.refl [] w2).alloc (.cells #[.slice (some ⟨g, 0, none⟩) 2 cap2] 39)
    have HO : Hid (Own (w2.alloc (.cells #[.slice (some ⟨g, 0, none⟩) 2 cap2] 39)) 49 1 (.slice A vn cap) vn vs) := Lib.hid (by
     have := (HLW2.out.la.touch0 tA).row
     rwa [HVN.out] at this)
    clear tA
    go_wp2_with (at_builtin; go_must (refine app_new (hx := by rw [World.size_alloc]; rfl) elem_LL HO.out [.slice (some ⟨w2.heap.size, 0, none⟩) 1 1] 1 1 (by omega) (by unfold maxLen; omega) ?_); intro v3 w3 ho3 ht3 hf3)
    go_roundw
    case rel =>
     have hp := HLW2.out.la.push HVN.out.symm HS2.out HZ2.out ho3 ht3 hf3
     have tA := (Touch.refl [] w2).alloc (.cells #[.slice (some ⟨g, 0, none⟩) 2 cap2] 39)
     have hw2 := HLW2.out.wa.quiet tA
     have hw3 := hw2.farK ht3 (fun x hx => ⟨HLW2.out.la.tlb x hx, _, HO.out.kind x hx, by decide, by decide⟩)
     exact ⟨k + 1, _, _, _, by omega, by go_num, HG2.out, ⟨hw3, hp, (HLW2.out.ks.trans (KeepS.of_touch tA (fun b hb => by cases hb))).trans (KeepS.of_touch ht3 (fun x hx => ⟨_, HO.out.kind x hx, by decide⟩))⟩, HX2⟩
    case measure => simp [intOf]; omega
   ·have h2' : (((splitL line).length : Int) == 2) = false := by rw [beq_eq_false_iff_ne]; omega
    by_cases hbad : vs.length = 0 ∨ (splitL line).length ≠ 4
    ·have HN1 : Hid (gf = none) := Lib.hid (HX1.out.trans (by
      rcases hbad with h0 | h4
      ·have : gs = [] := List.eq_nil_of_length_eq_zero (by rw [← HLV.out]; exact h0)
       rw [this, grp_nil h2]
       rfl
      ·rw [grp_bad h2 h4]
       rfl))
     have HF : Hid (fin = none) := Lib.hid (by rw [← HFIN.out, HN1.out]; rfl)
     have HT := Lib.hid HLW2.out.wa.t
     have hcc : (¬ (0 : Int) < (vs.length : Int)) ∨ ((0 : Int) < (vs.length : Int) ∧ (((splitL line).length : Int) == 4) = false) := by
      rcases hbad with h0 | h4
      ·exact .inl (by omega)
      ·by_cases h0 : vs.length = 0
       ·exact .inl (by omega)
       ·exact .inr ⟨by omega, by rw [beq_eq_false_iff_ne]; omega⟩
     clear HX1 hbad h2 HGK HLW2 HS2 HLV
     rcases hcc with hc | ⟨hc, hd⟩
     all_goals
      go_wp2_with fail
      (try rw [hd])
      refine (must_false _).mono ?_
      rintro r w3 ⟨rfl, rfl⟩
      unfold unread
      go_wp2_with fail
      exact ⟨rfl, wa_none HF.out HT.out⟩
    ·obtain ⟨m, hm⟩ : ∃ m, vs.length = m + 1 := ⟨vs.length - 1, by omega⟩
     have h4 : (splitL line).length = 4 := by omega
     rw [hm] at HLW2 ⊢
     have hgl : gs.length = m + 1 := by rw [← HLV.out]; exact hm
     have hul : uss.length = m + 1 := by rw [HLW2.out.la.lu]; exact hgl
     obtain ⟨a, ha⟩ : ∃ a, vs[m]? = some a := ⟨_, List.getElem?_eq_getElem (by omega)⟩
     obtain ⟨us, hus⟩ : ∃ us, uss[m]? = some us := ⟨_, List.getElem?_eq_getElem (by omega)⟩
     obtain ⟨gl, hgm⟩ : ∃ gl, gs[m]? = some gl := ⟨_, List.getElem?_eq_getElem (by omega)⟩
     obtain ⟨bl, rfl, hcl⟩ := HLW2.out.la.cell ha
     have hA := HLW2.out.la.areas m a us gl ha hus hgm
     have HX2 : Hid (gf = foldO grpStep (gs.set m (gl ++ [splitL line])) (xs.drop (k + 1))) := Lib.hid (by rw [HX1.out, grp_four h4 hgl hgm]; rfl)
     have HG2 := Lib.hid (HGK.out.grow HLWD.out h4 hgl hgm)
     have hgu : us.length ≤ 1001 := by
      have := (HGK.out.2 gl (List.mem_of_getElem? hgm)).1
      rw [hA.len]
      omega
     have hm1 : m ≤ 1000 := by omega
     have hm0 : (decide ((0 : Int) < (m : Int) + 1)) = true := decide_eq_true (by omega)
     rw [h4] at HS2 hc1 ⊢
     obtain ⟨Aa, ca, rfl⟩ := hA.row.form
     have HA := Lib.hid hA.row
     have HKA : Hid (∀ b ∈ blk (Value.slice Aa us.length ca), Kind w2 b 39) := Lib.hid hA.row.kind
     have HBA : Hid (∀ b ∈ blk (Value.slice Aa us.length ca), w0.heap.size ≤ b) := Lib.hid (HLW2.out.la.bds _ (List.mem_of_getElem? ha))
     have HGR := Lib.hid (fun (W3 : World) (a' : Value) (ho : Own W3 39 1 a' (us.length + 1) (us ++ [.slice (some ⟨g, 0, none⟩) 4 cap2])) (ht : Touch (blk (Value.slice Aa us.length ca)) w2 W3) (hf : From w2 (Value.slice Aa us.length ca) a') => HLW2.out.la.grow HS2.out HZ2.out ha hus hgm rfl ho ht hf)
     have HWA := Lib.hid HLW2.out.wa
     have HKS := Lib.hid HLW2.out.ks
     clear HX1 HGK hbad h2 hA ha hus hgm hgl hul hvl hm HLV HLW2 HS2
     generalize us.length = un at *
     go_wp2_with fail
     refine (must_true _).mono ?_
     rintro r w3 ⟨rfl, rfl⟩
     go_wp2_with (at_builtin; go_must (refine app_new elem_L HA.out [.slice (some ⟨g, 0, none⟩) 4 cap2] 1 1 (by omega) (by unfold maxLen; omega) ?_); intro v5 w5 ho5 ht5 hf5; obtain ⟨A5, cap5, rfl⟩ := Own.form ho5; obtain ⟨bb, ebb, hts, hbb, hkb, hcb, hfb, hla5⟩ := HGR.out w5 _ ho5 ht5 hf5; injection ebb with ebb; injection ebb with ebb; subst ebb)
     go_roundw
     case rel =>
      have hw5 := HWA.out.farK ht5 (fun x hx => ⟨HBA.out x hx, _, HKA.out x hx, by decide, by decide⟩)
      have hw6 := hw5.farK hts (fun x hx => by
       rw [List.mem_singleton] at hx
       subst hx
       exact ⟨hbb, _, hkb, by decide, by decide⟩)
      exact ⟨k + 1, _, _, _, by omega, by go_num, HG2.out, ⟨hw6, hla5, (HKS.out.trans (KeepS.of_touch ht5 (fun x hx => ⟨_, HKA.out x hx, by decide⟩))).trans (KeepS.of_touch hts (fun x hx => by
       rw [List.mem_singleton] at hx
       subst hx
       exact ⟨_, hkb, by decide⟩))⟩, HX2⟩
     case measure => simp [intOf]; omega
  ·have hlt' : ¬ (k : Int) < (xs.length : Int) := by omega
   obtain rfl : k = xs.length := by omega
   have HGS : Hid (gf = some gs) := Lib.hid (by rw [HX.out, List.drop_length]; rfl)
   have HF1 : Hid (fin = foldO areaW (wUint st gs.length) gs) := Lib.hid (by rw [← HFIN.out, HGS.out]; rfl)
   clear HX HGS HFIN HV HL
   go_wp2_with fail
   refine (wa_uint _ (by omega) HLW.out.wa).mono ?_
   rintro r w2 ⟨rfl, out2, ha2, ht2, hf2⟩
   have HL2 := Lib.hid (HLW.out.next ha2 ht2)
   rw [HLV.out] at HL2 hvl ⊢
   have HVL : Hid (vs.length = gs.length) := HLV
   have hst : ArRel w0 w p (.slice A gs.length cap) vs uss gs fin (.int .i64 0) w2 := ⟨0, out2, _, by omega, rfl, HL2.out, HF1⟩
   clear HL2 HF1 HLW ha2 ht2 hf2 HLV
   have HGKS := HGK
   clear HGK
   go_wp2_with fail
   go_loopw [60] (fun ti wr => ArRel w0 w p (.slice A gs.length cap) vs uss gs fin ti wr) (fun ti _ => gs.length - (intOf ti).toNat)
   case atStart => exact hst
   case round =>
    clear hst
    obtain ⟨k, out3, st3, hk3, rfl, hlw3, HX3⟩ := hrel
    have HLW3 := Lib.hid hlw3
    by_cases hlt3 : k < gs.length
    ·have hlt3' : (k : Int) < (gs.length : Int) := by omega
     obtain ⟨a, ha⟩ : ∃ a, vs[k]? = some a := ⟨_, List.getElem?_eq_getElem (by rw [HVL.out]; exact hlt3)⟩
     obtain ⟨us, hus⟩ : ∃ us, uss[k]? = some us := ⟨_, List.getElem?_eq_getElem (by rw [hlw3.la.lu]; exact hlt3)⟩
     obtain ⟨gl, hgm⟩ : ∃ gl, gs[k]? = some gl := ⟨_, List.getElem?_eq_getElem hlt3⟩
     have hgle : gs[k] = gl := by rw [List.getElem?_eq_getElem hlt3] at hgm; injection hgm
     obtain ⟨hg1, ⟨x, y, r, rfl, hr4⟩, hgw⟩ := HGKS.out.2 gl (List.mem_of_getElem? hgm)
     have hA := hlw3.la.areas k a us _ ha hus hgm
     obtain ⟨bl, rfl, hcl⟩ := hlw3.la.cell ha
     have hul : us.length = r.length + 1 := hA.len
     obtain ⟨Aa, ca, ea⟩ := hA.row.form
     rw [hul] at ea
     subst ea
     obtain ⟨u0, hu0⟩ : ∃ u, us[0]? = some u := ⟨_, List.getElem?_eq_getElem (by omega)⟩
     obtain ⟨ba, rfl, hca, hc0⟩ := hA.cell hu0
     have hw0 := hA.words 0 u0 [x, y] hu0 rfl
     obtain ⟨Au, cu, eu⟩ := hw0.form
     replace eu : u0 = .slice Au 2 cu := eu
     subst eu
     obtain ⟨bu, rfl, -, hcu, hcy⟩ := hw0.cell (i := 1) (y := y) rfl
     have hyl : y.length ≤ 100000 := hgw [x, y] (by simp) y (by simp)
     have HRW : Hid (∀ ws ∈ r, ∀ y ∈ ws, y.length ≤ 100000) := Lib.hid (fun ws hws => hgw ws (by simp [hws]))
     have HR4 := Lib.hid hr4
     have hrl : r.length ≤ 1000 := by simp at hg1; omega
     have HX4 : Hid (fin = ((numO y).bind fun n => foldO slotW (wUint (wUint st3 n) r.length) r).bind fun t => foldO areaW t (gs.drop (k + 1))) := Lib.hid (by
      rw [HX3.out, foldO_step hlt3, hgle, area_two])
     have HNY := Lib.hid (number_any y wr hyl (HN.out wr hlw3.wa.t).1)
     have HUS := Lib.hid hul
     have HIX := Lib.hid (And.intro ha (And.intro hus hgm))
     generalize hK : (fun t => foldO areaW t (gs.drop (k + 1))) = K at *
     have HK := Lib.hid hK
     clear hK HX3 hgw hr4 hA hw0 ha hus hgm hgle hul hu0 hg1 hlw3 hyl
     cases hny : numO y with
     | none =>
      rw [hny] at HX4 HNY
      have HF : Hid (fin = none) := HX4
      clear HX4 hny
      go_wp2_with fail
      refine HNY.out.mono ?_
      rintro r' w4 ⟨ht4, rfl⟩
      unfold unread
      go_wp2_with fail
      exact ⟨rfl, wa_none HF.out (HLW3.out.wa.t.then0 ht4)⟩
     | some n =>
     have hnf := numO_fits hny
     rw [hny] at HX4 HNY
     have HX5 : Hid (fin = (foldO slotW (wUint (wUint st3 n) r.length) r).bind K) := HX4
     clear HX4 hny
     go_wp2_with fail
     refine HNY.out.mono ?_
     rintro r' w4 ⟨ht4, rfl⟩
     have HL4 := Lib.hid (HLW3.out.quiet ht4)
     clear ht4 HNY hcl hc0 hcy
     dsimp only
     go_wp2_with fail
     refine (wa_uint n hnf.2 HL4.out.wa).mono ?_
     rintro r' w5 ⟨rfl, out5, ha5, ht5, hf5⟩
     have HL5 := Lib.hid (HL4.out.next ha5 ht5)
     clear ha5 ht5 hf5 HL4 HLW3 hnf
     go_wp2_with fail
     refine (wa_uint (r.length : Int) (by omega) HL5.out.wa).mono ?_
     rintro r' w6 ⟨rfl, out6, ha6, ht6, hf6⟩
     have hst : SlRel w0 w p (.slice (some ⟨bl, 0, none⟩) gs.length cap) vs uss gs r K fin (.int .i64 0) w6 := ⟨0, out6, _, by omega, rfl, HL5.out.next ha6 ht6, HX5⟩
     clear ha6 ht6 hf6 HL5 HX5
     obtain ⟨A2, c2', hsl, hA2⟩ := run_tail ba r.length ca (by omega)
     go_wp2_with fail
     go_loopw [80] (fun ti wr => SlRel w0 w p (.slice (some ⟨bl, 0, none⟩) gs.length cap) vs uss gs r K fin ti wr) (fun ti _ => r.length - (intOf ti).toNat)
     case atStart => exact hst
     case round =>
      clear hst hsl
      obtain ⟨j, out7, st7, hj, rfl, hlw7, HX7⟩ := hrel
      have HLW7 := Lib.hid hlw7
      by_cases hlt7 : j < r.length
      ·have hlt7' : (j : Int) < (r.length : Int) := by omega
       obtain rfl := hA2 (by omega)
       have hA := hlw7.la.areas k _ us _ HIX.out.1 HIX.out.2.1 HIX.out.2.2
       obtain ⟨uj, huj⟩ : ∃ u, us[1 + j]? = some u := ⟨_, List.getElem?_eq_getElem (by rw [HUS.out]; omega)⟩
       have hcj := hA.at_ huj
       obtain ⟨wa, wb, wc, wd, hws⟩ : ∃ a b c d, r[j] = [a, b, c, d] := by
        have h4 := HR4.out r[j] (List.getElem_mem hlt7)
        match hs : r[j], h4 with
        | [a, b, c, d], _ => exact ⟨a, b, c, d, rfl⟩
       have hgj : ([x, y] :: r)[1 + j]? = some [wa, wb, wc, wd] := by rw [Nat.add_comm, List.getElem?_cons_succ, List.getElem?_eq_getElem hlt7, hws]
       have hwj := hA.words (1 + j) uj _ huj hgj
       obtain ⟨Aj, cj, ej⟩ := hwj.form
       replace ej : uj = .slice Aj 4 cj := ej
       subst ej
       obtain ⟨bj, rfl, -, hcj4, -⟩ := hwj.cell (i := 0) (y := wa) rfl
       have HWL : Hid (∀ y ∈ [wa, wb, wc, wd], y.length ≤ 100000) := Lib.hid (fun y hy => HRW.out r[j] (List.getElem_mem hlt7) y (by rw [hws]; exact hy))
       have HWJ : Hid (∀ W out st, Lw w0 w W p out st (.slice (some ⟨bl, 0, none⟩) gs.length cap) vs uss gs → ∀ (q : Nat) y, [wa, wb, wc, wd][q]? = some y → W.cell? ⟨bj, q, none⟩ = some (.string ⟨y.toArray⟩)) := Lib.hid (fun W out st h q y hq => ((h.la.areas k _ us _ HIX.out.1 HIX.out.2.1 HIX.out.2.2).words (1 + j) _ _ huj hgj).at_ hq)
       have HX8 : Hid (fin = (foldO numW st7 [wa, wb, wc]).bind fun t => (foldO slotW (wBytes t wd) (r.drop (j + 1))).bind K) := Lib.hid (by
        rw [HX7.out, foldO_step hlt7, hws, slot_nums]
        cases foldO numW st7 [wa, wb, wc] <;> rfl)
       generalize hK2 : (fun t => (foldO slotW (wBytes t wd) (r.drop (j + 1))).bind K) = K2 at *
       have HK2 := Lib.hid hK2
       have hst : NmRel w0 w p (.slice (some ⟨bl, 0, none⟩) gs.length cap) vs uss gs [wa, wb, wc] K2 fin (.int .i64 0) wr := ⟨0, out7, st7, by omega, rfl, hlw7, HX8⟩
       clear hK2 HX7 HX8 hgj hws hA huj hwj hlw7 HLW7
       go_wp2_with fail
       go_loopw [87] (fun ti wr => NmRel w0 w p (.slice (some ⟨bl, 0, none⟩) gs.length cap) vs uss gs [wa, wb, wc] K2 fin ti wr) (fun ti _ => 3 - (intOf ti).toNat)
       case atStart => exact hst
       case round =>
        clear hst hcj
        obtain ⟨q, out8, st8, hq, rfl, hlw8, HX8⟩ := hrel
        have HLW8 := Lib.hid hlw8
        by_cases hlt8 : q < 3
        ·have hlt8' : (q : Int) < 3 := by omega
         obtain ⟨s, hs3, hs4⟩ : ∃ s, [wa, wb, wc][q]? = some s ∧ [wa, wb, wc, wd][q]? = some s := by
          have : q = 0 ∨ q = 1 ∨ q = 2 := by omega
          rcases this with rfl | rfl | rfl <;> exact ⟨_, rfl, rfl⟩
         have hcs := HWJ.out wr _ _ hlw8 q s hs4
         have hsl := HWL.out s (List.mem_of_getElem? hs4)
         have HX9 : Hid (fin = (((numO s).map (wUint st8)).bind fun t => foldO numW t ([wa, wb, wc].drop (q + 1))).bind K2) := Lib.hid (by
          have hlq : q < [wa, wb, wc].length := by simpa using hlt8
          have hsq : [wa, wb, wc][q] = s := by rw [List.getElem?_eq_getElem hlq] at hs3; injection hs3
          rw [HX8.out, foldO_step hlq, hsq]
          rfl)
         have HNS := Lib.hid (number_any s wr hsl (HN.out wr hlw8.wa.t).1)
         clear HX8 hs3 hs4 hlw8 hsl
         cases hns : numO s with
         | none =>
          rw [hns] at HX9 HNS
          have HF : Hid (fin = none) := HX9
          clear HX9 hns
          go_wp2_with fail
          refine HNS.out.mono ?_
          rintro r' w9 ⟨ht9, rfl⟩
          unfold unread
          go_wp2_with fail
          exact ⟨rfl, wa_none HF.out (HLW8.out.wa.t.then0 ht9)⟩
         | some n =>
          have hnf := numO_fits hns
          rw [hns] at HX9 HNS
          have HX10 : Hid (fin = (foldO numW (wUint st8 n) ([wa, wb, wc].drop (q + 1))).bind K2) := HX9
          clear HX9 hns
          go_wp2_with fail
          refine HNS.out.mono ?_
          rintro r' w9 ⟨ht9, rfl⟩
          have HL9 := Lib.hid (HLW8.out.quiet ht9)
          clear ht9 HNS hcs
          dsimp only
          go_wp2_with fail
          refine (wa_uint n hnf.2 HL9.out.wa).mono ?_
          rintro r' w10 ⟨rfl, out10, ha10, ht10, hf10⟩
          go_wp2_with fail
          go_roundw
          case rel => exact ⟨q + 1, out10, _, by omega, by go_num, HL9.out.next ha10 ht10, HX10⟩
          case measure => simp [intOf]; omega
        ·have hlt8' : ¬ (q : Int) < 3 := by omega
         obtain rfl : q = 3 := by omega
         have HX9 : Hid (fin = (foldO slotW (wBytes st8 wd) (r.drop (j + 1))).bind K) := Lib.hid (by rw [HX8.out, ← HK2.out]; rfl)
         have hc3 := HWJ.out wr _ _ hlw8 3 wd rfl
         have hdl := HWL.out wd (by simp)
         clear HX8 hlw8
         go_wp2_with fail
         refine (wa_str wd (by unfold maxLen; omega) HLW8.out.wa).mono ?_
         rintro r' w9 ⟨rfl, out9, ha9, ht9, hf9⟩
         go_wp2_with fail
         go_roundw
         case rel => exact ⟨j + 1, out9, _, by omega, by go_num, HLW8.out.next ha9 ht9, HX9⟩
         case measure => simp [intOf]; omega
      ·have hlt7' : ¬ (j : Int) < (r.length : Int) := by omega
       obtain rfl : j = r.length := by omega
       have HX8 : Hid (fin = foldO areaW st7 (gs.drop (k + 1))) := Lib.hid (by rw [HX7.out, List.drop_length, ← HK.out]; rfl)
       clear HX7
       go_wp2_with fail
       go_roundw
       case rel => exact ⟨k + 1, out7, st7, by omega, by go_num, hlw7, HX8⟩
       case measure => simp [intOf]; omega
    ·have hlt3' : ¬ (k : Int) < (gs.length : Int) := by omega
     obtain rfl : k = gs.length := by omega
     have HF : Hid (fin = some st3) := Lib.hid (by rw [HX3.out, List.drop_length]; rfl)
     clear HX3
     go_wp2_with fail
     go_end0
     exact wa_some HF.out hlw3.wa hlw3.ks
end Go.Proofs.YtedpaajpfaoffaaGreatDoor
