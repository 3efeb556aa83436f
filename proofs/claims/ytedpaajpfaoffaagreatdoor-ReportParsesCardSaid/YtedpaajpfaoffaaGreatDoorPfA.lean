/- slices.Equal over strings; the leaving of report.ParseResult. -/
import Derived.Test.YtedpaajpfaoffaaGreatDoorPbA
import Derived.Test.YtedpaajpfaoffaaGreatDoorSf0
import Derived.Test.YtedpaajpfaoffaaGreatDoorKo2
import Derived.Test.YtedpaajpfaoffaaGreatDoorPdA
import Derived.Test.YtedpaajpfaoffaaGreatDoorPaA
import Derived.Deep.CutBlock
set_option linter.all false
set_option maxHeartbeats 8000000
set_option maxRecDepth 100000
namespace Go.Proofs.YtedpaajpfaoffaaGreatDoor
open Go.RowKit
theorem equal_any (v u : Value) (xs ys : List (List UInt8)) (w : World) (hv : StrsAt w v xs) (hu : StrsAt w u ys) : Calls Tryz.prog 68 #[v, u] w fun r w' => r = .returned (.bool (decide (xs = ys))) ∧ Touch [] w w' := by
 obtain ⟨A, cap, rfl, c1, c2⟩ := hv.form
 obtain ⟨A', cap', rfl, c3, c4⟩ := hu.form
 by_cases hl : xs.length = ys.length
 ·have hl' : ((xs.length : Int) != (ys.length : Int)) = false := by simp [hl]
  have HL := Lib.hid hl
  go_enter Tryz.func68, Tryz.ntmps68
  go_wp2_with fail
  go_loopw [13] (fun ti wr => ∃ k : Nat, k ≤ xs.length ∧ ti = .int .i64 k ∧ Touch [] w wr ∧ Hid (xs.take k = ys.take k)) (fun ti _ => xs.length - (intOf ti).toNat)
  case atStart => exact ⟨0, by omega, rfl, Touch.refl _ _, Lib.hid rfl⟩
  case round =>
   obtain ⟨k, hk, rfl, ht, HT⟩ := hrel
   by_cases hlt : k < xs.length
   ·have hlt' : (k : Int) < (xs.length : Int) := by omega
    have hlt2 : k < ys.length := by have := HL.out; omega
    have hlt2' : (k : Int) < (ys.length : Int) := by omega
    obtain ⟨b, off, rfl, hc⟩ := hv.addr hlt
    obtain ⟨b', off', rfl, hc'⟩ := hu.addr hlt2
    have q0 := hc _ ht
    have q1 := hc' _ ht
    have HN : Hid (xs[k] = ys[k] → xs.take (k + 1) = ys.take (k + 1)) := Lib.hid (fun e => by rw [List.take_succ_eq_append_getElem hlt, List.take_succ_eq_append_getElem hlt2, HT.out, e])
    have HB : Hid (xs[k] ≠ ys[k] → ¬ xs = ys) := Lib.hid (fun e h => by subst h; exact e rfl)
    generalize xs[k] = x at *
    generalize ys[k] = y at *
    by_cases he : x = y
    ·have HN2 := Lib.hid (HN.out he)
     subst he
     clear hc hc' HN HB HT hl hl'
     go_wp2_with fail
     go_quiet (fail)
     go_wp2_with fail
     exact ⟨⟨k + 1, by omega, by go_num, ht.drewN _, HN2⟩, by simp [intOf]; omega⟩
    ·have HF := Lib.hid (HB.out he)
     have he2 : (x == y) = false := beq_false_of_ne he
     clear hc hc' HN HB HT hl hl' he
     go_wp2_with fail
     go_quiet (fail)
     go_wp2_with fail
     go_ret
     refine ⟨?_, ht.drewN _⟩
     rw [decide_eq_false HF.out]
     rfl
   ·have hlt' : ¬ (k : Int) < (xs.length : Int) := by omega
    have hlt2' : ¬ (k : Int) < (ys.length : Int) := by have := HL.out; omega
    have HF : Hid (xs = ys) := Lib.hid (by
     have h1 := HT.out
     rw [List.take_of_length_le (by omega), List.take_of_length_le (by have := HL.out; omega)] at h1
     exact h1)
    clear hk HT hl hl'
    go_wp2_with fail
    go_ret
    refine ⟨?_, ht⟩
    rw [decide_eq_true HF.out]
    rfl
 ·have hl' : ((xs.length : Int) != (ys.length : Int)) = true := by simp; omega
  have HF : Hid (¬ xs = ys) := Lib.hid (fun h => hl (by rw [h]))
  clear hl
  go_enter Tryz.func68, Tryz.ntmps68
  go_wp2_with fail
  go_ret
  refine ⟨?_, Touch.refl _ _⟩
  rw [decide_eq_false HF.out]
  rfl
theorem prec_caught (L C : Nat) (x y : Value) (w : World) (hl : Blk w L 30 #[x]) (hc : Blk w C 23 #[y]) (hlc : L ≠ C) : CallsD Tryz.prog 57 #[.pointer (some ⟨L, 0, none⟩), .pointer (some ⟨C, 0, none⟩)] (.panicking [{ v := .iface 138 (.agg #[]), recovered := false }]) w fun e u' w' => e = .returned (.tuple #[]) ∧ u' = .panicking [{ v := .iface 138 (.agg #[]), recovered := true }] ∧ w' = (w.setCell ⟨L, 0, none⟩ (.slice none 0 0)).setCell ⟨C, 0, none⟩ (.int .i64 6) := by
 have q0 : w.cell? ⟨L, 0, none⟩ = some x := (hl.cell 0).trans rfl
 have q1 : w.frozen? ⟨L, 0, none⟩ = false := hl.frozen 0
 have hc2 := hc.far (p := ⟨L, 0, none⟩) (fun e => hlc e.symm) (.slice none 0 0)
 have q2 : (w.setCell ⟨L, 0, none⟩ (.slice none 0 0)).cell? ⟨C, 0, none⟩ = some y := (hc2.cell 0).trans rfl
 have q3 : (w.setCell ⟨L, 0, none⟩ (.slice none 0 0)).frozen? ⟨C, 0, none⟩ = false := hc2.frozen 0
 refine callsD_of_wpS Tryz.func57 rfl fun c₀ cs hu => ?_
 simp only [Tryz.ntmps57, List.size_toArray, List.length_cons, List.length_nil, Nat.reduceAdd, Nat.reduceSub, Array.replicate_succ, Array.replicate_zero, List.push_toArray, List.append_toArray, List.nil_append, List.cons_append]
 apply wpS_seq
 apply wpS_region
 simp [wpOpsS, go_sem, recoverD, hu, Exit.thenS]
 refine wpS_of_wp ?_
 go_wp2_with fail
 cases c₀
 simp_all [bodyPostS, results, Tryz.results57]
theorem prec_none (L C : Nat) (w : World) : CallsD Tryz.prog 57 #[.pointer (some ⟨L, 0, none⟩), .pointer (some ⟨C, 0, none⟩)] .returning w fun e u' w' => e = .returned (.tuple #[]) ∧ u' = .returning ∧ w' = w := by
 refine callsD_of_wpS Tryz.func57 rfl fun c₀ cs hu => ?_
 simp only [Tryz.ntmps57, List.size_toArray, List.length_cons, List.length_nil, Nat.reduceAdd, Nat.reduceSub, Array.replicate_succ, Array.replicate_zero, List.push_toArray, List.append_toArray, List.nil_append, List.cons_append]
 apply wpS_seq
 apply wpS_region
 simp [wpOpsS, go_sem, recoverD, hu, Exit.thenS]
 refine wpS_of_wp ?_
 go_wp2
 cases c₀
 simp_all [bodyPostS, results, Tryz.results57]
theorem pcells {W : World} {L C : Nat} {x y : Value} (hl : Blk W L 30 #[x]) (hc : Blk W C 23 #[y]) (h : L ≠ C) (a b : Value) :
  ((W.setCell ⟨L, 0, none⟩ a).setCell ⟨C, 0, none⟩ b).cell? ⟨L, 0, none⟩ = some a ∧ ((W.setCell ⟨L, 0, none⟩ a).setCell ⟨C, 0, none⟩ b).cell? ⟨C, 0, none⟩ = some b ∧
  Blk ((W.setCell ⟨L, 0, none⟩ a).setCell ⟨C, 0, none⟩ b) L 30 #[a] ∧ Blk ((W.setCell ⟨L, 0, none⟩ a).setCell ⟨C, 0, none⟩ b) C 23 #[b] ∧
  Touch [L, C] W ((W.setCell ⟨L, 0, none⟩ a).setCell ⟨C, 0, none⟩ b) := by
 have k1 : Blk ((W.setCell ⟨L, 0, none⟩ a).setCell ⟨C, 0, none⟩ b) L 30 #[a] := (hl.set_ 0 a).far (p := ⟨C, 0, none⟩) h b
 have k2 : Blk ((W.setCell ⟨L, 0, none⟩ a).setCell ⟨C, 0, none⟩ b) C 23 #[b] := (hc.far (p := ⟨L, 0, none⟩) (fun e => h e.symm) a).set_ 0 b
 exact ⟨(k1.cell 0).trans rfl, (k2.cell 0).trans rfl, k1, k2, ((Touch.refl _ W).setCell (.inl (by simp)) _).setCell (.inl (by simp)) _⟩
def ParsePost (o : Option (List UInt8)) (w : World) (r : Ending) (w' : World) : Prop := Touch [] w w' ∧ match o with
 | some b => b.length ≤ 65536 ∧ ∃ u, r = .returned (.tuple #[u, .int .i64 0]) ∧ Bytes w' u b
 | none => r = .returned (.tuple #[.slice none 0 0, .int .i64 6])
theorem parse_none {o : Option (List UInt8)} {w w' : World} (h : o = none) (t : Touch [] w w') : ParsePost o w (.returned (.tuple #[.slice none 0 0, .int .i64 6])) w' := by
 subst h
 exact ⟨t, rfl⟩
theorem parse_some {o : Option (List UInt8)} {w w' : World} {b : List UInt8} {u : Value} (h : o = some b) (hl : b.length ≤ 65536) (hb : Bytes w' u b) (t : Touch [] w w') : ParsePost o w (.returned (.tuple #[u, .int .i64 0])) w' := by
 subst h
 exact ⟨t, hl, u, rfl, hb⟩
end Go.Proofs.YtedpaajpfaoffaaGreatDoor
namespace Go.Proofs.YtedpaajpfaoffaaGreatDoor
open Go.RowKit
structure Pc (w W : World) (x y : Value) : Prop where
 l : Blk W w.heap.size 30 #[x]
 c : Blk W (w.heap.size + 1) 23 #[y]
 t : Touch [] w W
theorem Pc.quiet {w W W' : World} {x y : Value} (h : Pc w W x y) (t : Touch [] W W') : Pc w W' x y := ⟨h.l.touch t (by simp), h.c.touch t (by simp), h.t.then0 t⟩
theorem Pc.put {w W : World} {x y : Value} (h : Pc w W x y) (a b : Value) :
  ((W.setCell ⟨w.heap.size, 0, none⟩ a).setCell ⟨w.heap.size + 1, 0, none⟩ b).cell? ⟨w.heap.size, 0, none⟩ = some a ∧ ((W.setCell ⟨w.heap.size, 0, none⟩ a).setCell ⟨w.heap.size + 1, 0, none⟩ b).cell? ⟨w.heap.size + 1, 0, none⟩ = some b ∧
  Pc w ((W.setCell ⟨w.heap.size, 0, none⟩ a).setCell ⟨w.heap.size + 1, 0, none⟩ b) a b ∧ Touch [w.heap.size, w.heap.size + 1] W ((W.setCell ⟨w.heap.size, 0, none⟩ a).setCell ⟨w.heap.size + 1, 0, none⟩ b) := by
 obtain ⟨h1, h2, h3, h4, h5⟩ := pcells h.l h.c (by omega) a b
 exact ⟨h1, h2, ⟨h3, h4, h.t.step h5 (fun m hm => .inr (by simp at hm; omega))⟩, h5⟩
theorem Pc.putC {w W : World} {x y : Value} (h : Pc w W x y) (b : Value) : Pc w (W.setCell ⟨w.heap.size + 1, 0, none⟩ b) x b ∧ Touch [w.heap.size + 1] W (W.setCell ⟨w.heap.size + 1, 0, none⟩ b) := by
 have t : Touch [w.heap.size + 1] W (W.setCell ⟨w.heap.size + 1, 0, none⟩ b) := (Touch.refl _ W).setCell (.inl (by simp)) _
 exact ⟨⟨h.l.touch t (by simp), h.c.set_ 0 b, h.t.step t (fun m hm => .inr (by simp at hm; omega))⟩, t⟩
theorem Pc.cells {w W : World} {x y : Value} (h : Pc w W x y) : W.cell? ⟨w.heap.size, 0, none⟩ = some x ∧ W.frozen? ⟨w.heap.size, 0, none⟩ = false ∧ W.cell? ⟨w.heap.size + 1, 0, none⟩ = some y ∧ W.frozen? ⟨w.heap.size + 1, 0, none⟩ = false := ⟨(h.l.cell 0).trans rfl, h.l.frozen 0, (h.c.cell 0).trans rfl, h.c.frozen 0⟩
theorem pleaves_put {d : Option Tmp} {x : Value} {a : Act} {R : Ending → World → Prop} {u : FrameMode} {w : World} (h2 : d ≠ some 2) (h3 : d ≠ some 3) (h : Leaves Tryz.prog Tryz.f18 (a.put d x).tmps R (a.put d x).defers u w) : Leaves Tryz.prog Tryz.f18 a.tmps R a.defers u w := by
 have e : results Tryz.f18 (a.put d x).tmps = results Tryz.f18 a.tmps := by
  unfold results
  rw [Tryz.results18]
  simp [put_getD h2, put_getD h3]
 have hd : (a.put d x).defers = a.defers := by cases d <;> rfl
 rw [hd] at h
 exact leaves_congr e _ _ _ h
def tailP (xs : List (List UInt8)) (st : WS) (q : List UInt8) : Option (List UInt8) := (idxO phasesN q).bind fun j => if (wUint st ((j : Int) + 1)).1 = 0 ∧ resL (wUint st ((j : Int) + 1)).2 = some xs then some (wUint st ((j : Int) + 1)).2 else none
theorem parseL_short {xs : List (List UInt8)} (h : xs.length < 2) : parseL xs = none := by
 unfold parseL
 rw [if_pos h]
theorem parseL_head {xs : List (List UInt8)} {hd : List UInt8} (e : xs.headD [] = hd) (h : ¬ xs.length < 2) (hi : idxO phasesN hd = none) : parseL xs = none := by
 subst e
 unfold parseL
 rw [if_neg h, hi]
 rfl
theorem parseL_last {xs : List (List UInt8)} {ls : List UInt8} (e : xs.getLastD [] = ls) (h : ¬ xs.length < 2) (h2 : (splitL ls).length ≠ 2) : parseL xs = none := by
 subst e
 unfold parseL
 rw [if_neg h]
 cases idxO phasesN (xs.headD []) with
 | none => rfl
 | some i =>
  simp only [Option.bind_some]
  split
  ·rename_i z q e
   rw [e] at h2
   exact absurd rfl h2
  ·rfl
theorem parseL_go {xs : List (List UInt8)} {i : Nat} {hd ls z q : List UInt8} (e : xs.headD [] = hd) (e2 : xs.getLastD [] = ls) (h : ¬ xs.length < 2) (hi : idxO phasesN hd = some i) (h2 : splitL ls = [z, q]) : parseL xs = (bodyW (wUint (0, []) ((i : Int) + 1)) (i + 1) xs.tail.dropLast).bind fun st => tailP xs st q := by
 subst e e2
 unfold parseL
 rw [if_neg h, hi, Option.bind_some, h2]
 rfl
theorem StrsAt.all {w : World} {A : Option Addr} {n cap : Nat} {xs : List (List UInt8)} (h : StrsAt w (.slice A n cap) xs) (h0 : 0 < xs.length) : ∃ b off, A = some ⟨b, off, none⟩ ∧ n = xs.length ∧ n ≤ cap ∧ ∀ w', Touch [] w w' → b < w'.heap.size ∧ ∀ k y, xs[k]? = some y → w'.cell? ⟨b, off + k, none⟩ = some (.string ⟨y.toArray⟩) := by
 obtain ⟨A', cap', e, h1, h2, h3, h4⟩ := h
 injection e with e1 e2 e3
 subst e1 e2 e3
 obtain ⟨b, off, rfl, hb, hc⟩ := h4 h0
 exact ⟨b, off, rfl, rfl, h1, fun w' t => ⟨Nat.lt_of_lt_of_le hb t.size, fun k y hy => (t.cell (p := ⟨b, off + k, none⟩) hb (by simp)).trans (hc k (str y) (by rw [List.getElem?_map, hy]; rfl))⟩⟩
theorem run_body (b off M cap : Nat) (h1 : 1 ≤ M) (hc : M + 1 ≤ cap) (w : World) : (Instr.slice 39 (.slice (some ⟨b, off, none⟩) (M + 1) cap) (some (.int .i64 1)) (some (.int .i64 (M : Int))) none).run Tryz.prog w = .ok (.slice (some ⟨b, off + 1, none⟩) (M - 1) (cap - 1)) w := by
 rw [run_slice_lh (P := Tryz.prog) w 39 (some ⟨b, off, none⟩) (M + 1) cap (by kernel_rfl) .i64 .i64 1 (M : Int) (by omega) (by omega) (by omega)]
 have hsz : (sizeOf (Tryz.prog.elem 39)).run Tryz.prog w = .ok 1 w := by kernel_rfl
 rw [hsz]
 show Result.ok (sliced (some ⟨b, off, none⟩) 1 (M : Int).toNat cap 1) w = _
 unfold sliced
 rw [if_neg (by omega)]
 rfl
theorem strs_body {w : World} {b off M cap : Nat} {xs : List (List UInt8)} (h : StrsAt w (.slice (some ⟨b, off, none⟩) (M + 1) cap) xs) : StrsAt w (.slice (some ⟨b, off + 1, none⟩) (M - 1) (cap - 1)) xs.tail.dropLast := by
 obtain ⟨A', cap', e, h1, h2, h3, h4⟩ := h
 injection e with e1 e2 e3
 subst e1 e3
 have hlen : xs.tail.dropLast.length = M - 1 := by simp; omega
 obtain ⟨b', off', e, hb, hc⟩ := h4 (by omega)
 injection e with e
 injection e with e4 e5
 subst e4 e5
 refine ⟨some ⟨b, off + 1, none⟩, cap - 1, by rw [hlen], by rw [hlen]; omega, by omega, by simp, fun hn => ⟨b, off + 1, rfl, hb, fun j u hu => ?_⟩⟩
 rw [List.getElem?_map] at hu
 cases hj : xs.tail.dropLast[j]? with
 | none => rw [hj] at hu; cases hu
 | some y =>
  rw [hj] at hu
  have hx : xs[1 + j]? = some y := by
   have hjl := (List.getElem?_eq_some_iff.1 hj).1
   rw [List.getElem?_dropLast, if_pos (by simp at hjl ⊢; omega), List.getElem?_tail] at hj
   rw [Nat.add_comm]
   exact hj
  rw [Nat.add_assoc]
  exact hc (1 + j) u (by rw [List.getElem?_map, hx]; exact hu)
theorem RowI.intsP {w : World} {v : Value} {l : List Int} (h : RowI w v l) (hf : ∀ n ∈ l, Fits n) : Ints w v l := ⟨Own.reads h, hf⟩
theorem StrsAt.notInt {w : World} {u : Value} {xs : List (List UInt8)} {g : Nat} {t : TypeId} {k : IntKind} {n : Int} (h : StrsAt w u xs) (hb : Blk w g t #[.int k n]) : g ∉ rb u := fun hm => by
 obtain ⟨A, cap, rfl, h1, h2, h3, h4⟩ := h
 cases hx : xs with
 | nil => rw [hx] at hm; cases A <;> simp [rb] at hm
 | cons y ys =>
  obtain ⟨b, off, rfl, hlt, hc⟩ := h4 (by rw [hx]; simp)
  rw [hx] at hm
  have hg : g = b := by simpa [rb] using hm
  subst hg
  have h5 := hc 0 (str y) (by rw [hx]; rfl)
  rw [Nat.add_zero] at h5
  have h6 := hb.cell off
  rw [h5] at h6
  cases off with
  | zero => simp [str] at h6
  | succ m => simp at h6
theorem bytes_notErr {w : World} {u : Value} {bs : List UInt8} {g : Nat} {t : TypeId} {n : Int} (h : Bytes w u bs) (hb : Blk w g t #[.int .i64 n]) : g ∉ rb u := fun hm => by
 obtain ⟨A, cap, rfl, h1, h2, h3, h4⟩ := h
 cases hx : bs with
 | nil => rw [hx] at hm; cases A <;> simp [rb] at hm
 | cons y ys =>
  obtain ⟨b, off, rfl, hlt, hc⟩ := h4 (by rw [hx]; simp)
  rw [hx] at hm
  have hg : g = b := by simpa [rb] using hm
  subst hg
  have h5 := hc 0 (B y) (by rw [hx]; rfl)
  rw [Nat.add_zero] at h5
  have h6 := hb.cell off
  rw [h5] at h6
  cases off with
  | zero => simp [B] at h6
  | succ m => simp at h6
theorem bytes_notSlice {w : World} {u : Value} {bs : List UInt8} {g n c : Nat} {t : TypeId} {A9 : Option Addr} (h : Bytes w u bs) (hb : Blk w g t #[.slice A9 n c]) : g ∉ rb u := fun hm => by
 obtain ⟨A, cap, rfl, h1, h2, h3, h4⟩ := h
 cases hx : bs with
 | nil => rw [hx] at hm; cases A <;> simp [rb] at hm
 | cons y ys =>
  obtain ⟨b, off, rfl, hlt, hc⟩ := h4 (by rw [hx]; simp)
  rw [hx] at hm
  have hg : g = b := by simpa [rb] using hm
  subst hg
  have h5 := hc 0 (B y) (by rw [hx]; rfl)
  rw [Nat.add_zero] at h5
  have h6 := hb.cell off
  rw [h5] at h6
  cases off with
  | zero => simp [B] at h6
  | succ m => simp at h6
theorem pfail {tmps : Array Value} {w W : World} {x y : Value} {fin : Option (List UInt8)} (h : Pc w W x y) (hf : fin = none) (h2 : tmps[2]? = some (.pointer (some ⟨w.heap.size, 0, none⟩))) (h3 : tmps[3]? = some (.pointer (some ⟨w.heap.size + 1, 0, none⟩))) :
  Leaves Tryz.prog Tryz.f18 tmps (ParsePost fin w) [{ target := .fn (.func 57) #[.pointer (some ⟨w.heap.size, 0, none⟩), .pointer (some ⟨w.heap.size + 1, 0, none⟩)], args := #[] }] (.panicking [{ v := .iface 138 (.agg #[]), recovered := false }]) W := by
 obtain ⟨k1, k2, kp, -⟩ := Pc.put h (.slice none 0 0) (.int .i64 6)
 have HKT := Lib.hid kp.t
 clear kp
 refine leaves_cons (f := 57) (args := #[.pointer (some ⟨w.heap.size, 0, none⟩), .pointer (some ⟨w.heap.size + 1, 0, none⟩)]) (by simp) (by simp [go_sem]) ?_
 refine (prec_caught _ _ _ _ _ h.l h.c (by omega)).mono ?_
 rintro e u' w9 ⟨rfl, rfl, rfl⟩
 simp [Leaves, settle, results, Tryz.results18, go_sem, k1, k2, h2, h3]
 exact parse_none hf HKT.out
def P16 (w2 wx : World) (p : Nat) (u : Value) (z q : List UInt8) (xs : List (List UInt8)) (fin : Option (List UInt8)) : Prop := ∃ out st, Wa w2 wx p out st ∧ OwnS wx u [z, q] ∧ Hid (fin = tailP xs st q)
theorem parseResult_any (xs : List (List UInt8)) (v : Value) (w : World) (hv : StrsAt w v xs) (hm : MN w) (hx : xs.length ≤ 1000) (hl : ∀ x ∈ xs, x.length ≤ 100000) : Calls Tryz.prog 18 #[v] w (ParsePost (parseL xs) w) := by
 have hmf := make_func
 obtain ⟨A, cap, rfl, c1, c2⟩ := hv.form
 generalize hfin : parseL xs = fin
 have HFIN := Lib.hid hfin.symm
 clear hfin
 have HV := Lib.hid hv
 have HL := Lib.hid hl
 have HM := Lib.hid (fun (W : World) (t : Touch [] w W) => hm.touch t)
 clear hv hl hm
 go_enter_defers Tryz.func18, Tryz.ntmps18
 go_wp2_with fail
 have hpc2 : Pc w ((w.alloc (.cells #[.slice none 0 0] 30)).alloc (.cells #[.int .i64 0] 23)) (.slice none 0 0) (.int .i64 0) := by
  refine ⟨(Blk.new _ _ _).alloc _, ?_, ((Touch.refl [] w).alloc _).alloc _⟩
  have := Blk.new (w.alloc (.cells #[.slice none 0 0] 30)) 23 #[.int .i64 0]
  simpa using this
 generalize ((w.alloc (.cells #[.slice none 0 0] 30)).alloc (.cells #[.int .i64 0] 23)) = w2 at *
 have HP2 := Lib.hid hpc2
 clear hpc2
 by_cases h2 : xs.length < 2
 ·have HF : Hid (fin = none) := Lib.hid (HFIN.out.trans (parseL_short h2))
  rw [show decide ((2 : Int) ≤ (xs.length : Int)) = false from decide_eq_false (by omega)]
  refine (must_false _).mono ?_
  rintro r wf ⟨rfl, rfl⟩
  unfold unread
  go_wp2_with fail
  exact pfail HP2.out HF.out rfl rfl
 rw [show decide ((2 : Int) ≤ (xs.length : Int)) = true from decide_eq_true (by omega)]
 refine (must_true w2).mono ?_
 rintro r w2q ⟨rfl, rfl⟩
 obtain ⟨M, hM⟩ : ∃ M, xs.length = M + 1 := ⟨xs.length - 1, by omega⟩
 have hM1 : 1 ≤ M := by omega
 obtain ⟨b, off, rfl, -, hncap, hall⟩ := HV.out.all (by omega)
 have HALL := Lib.hid hall
 have hx0 : xs[0]? = some (xs.headD []) := by cases xs with
  | nil => simp at hM
  | cons x t => rfl
 have hxl : xs[M]? = some (xs.getLastD []) := by
  rw [List.getLastD_eq_getLast?, List.getLast?_eq_getElem?, hM, Nat.add_sub_cancel]
  cases he : xs[M]? with
  | none => rw [List.getElem?_eq_none_iff] at he; omega
  | some y => rfl
 generalize hhd : xs.headD [] = hd at hx0
 generalize hls : xs.getLastD [] = ls at hxl
 have HHD := Lib.hid hhd
 have HLS := Lib.hid hls
 clear hhd hls
 have HX0 := Lib.hid hx0
 have HXL := Lib.hid hxl
 have HLEN := Lib.hid hM
 have HN2 := Lib.hid h2
 rw [hM] at HV hncap ⊢
 have hM3 : M ≤ 1000 := by omega
 clear hall hx0 hxl hM h2 c1 c2 hx
 have hwa3 : Wa w2q (w2q.alloc (.cells #[.int .i64 0, .slice none 0 0] 96)) w2q.heap.size (.slice none 0 0) (0, []) := by
  refine ⟨⟨Blk.new _ _ _, fun _ => ⟨Row.nil _, by simp⟩⟩, Nat.le_refl _, fun g hg => by simp [blkS, blk] at hg, (Touch.refl [] w2q).alloc _⟩
 have q0 := (HALL.out _ (HP2.out.t.alloc (.cells #[.int .i64 0, .slice none 0 0] 96))).2 0 _ HX0.out
 have hb3 := (HALL.out _ (HP2.out.t.alloc (.cells #[.int .i64 0, .slice none 0 0] 96))).1
 simp only [Nat.add_zero] at q0
 have HP3 := Lib.hid (HP2.out.quiet ((Touch.refl [] w2q).alloc (.cells #[.int .i64 0, .slice none 0 0] 96)))
 have HWA3 := Lib.hid hwa3
 clear hwa3
 go_wp2_with fail
 generalize (w2q.alloc (.cells #[.int .i64 0, .slice none 0 0] 96)) = w3 at *
 generalize hpp : w2q.heap.size = p at *
 clear hpp
 have HPH := Lib.hid (phaseOf_any hd w3 (HM.out w3 HP3.out.t).rn)
 cases hi : idxO phasesN hd with
 | none =>
  have HF : Hid (fin = none) := Lib.hid (HFIN.out.trans (parseL_head HHD.out HN2.out hi))
  rw [hi] at HPH
  clear hi
  refine HPH.out.mono ?_
  rintro r w4 ⟨ht4, rfl⟩
  unfold unread
  go_wp2_with fail
  have HP4 := Lib.hid (HP3.out.quiet ht4)
  exact pfail HP4.out HF.out rfl rfl
 | some i =>
 have hi5 := idxO_lt hi
 simp [phasesN] at hi5
 have HI := Lib.hid hi
 rw [hi] at HPH
 clear hi
 refine HPH.out.mono ?_
 rintro r w4 ⟨ht4, rfl⟩
 have HP4 := Lib.hid (HP3.out.quiet ht4)
 have HWA4 := Lib.hid (HWA3.out.quiet ht4)
 clear HPH q0 HP3 HWA3 hb3 ht4
 dsimp only
 go_upto_region 5 with fail
 have hsl := run_body b off M cap hM1 hncap
 have hwM : IntKind.i64.wrap (M : Int) = (M : Int) := IntWalk.i64_in _ (by omega)
 have HC5 : Hid (∀ W, Touch [] w4 W → W.cell? ⟨b, off + M, none⟩ = some (.string ⟨ls.toArray⟩)) := Lib.hid (fun W t => (HALL.out W (HP4.out.t.then0 t)).2 M _ HXL.out)
 have HSP := Lib.hid (fun (W : World) => split_any ls W (HL.out _ (List.mem_of_getElem? HXL.out)))
 have hS0 := HC5.out w4 (Touch.refl _ _)
 have HP5 := Lib.hid (HP4.out.quiet ((Touch.refl [] w4).drew))
 have HWA5 := Lib.hid (HWA4.out.quiet ((Touch.refl [] w4).drew))
 refine wp_region_held_drew (S := fun W => W.cell? ⟨b, off + M, none⟩ = some (.string ⟨ls.toArray⟩)) (by kernel_rfl) hS0 (fun hS => ?_)
 clear hS0 HP4 HWA4
 refine wpAnyH_take (i := 0) (v := ?_) rfl (by kernel_rfl) (by kernel_rfl) (by kernel_rfl) (fun _ _ _ h => pleaves_put (by decide) (by decide) h) (Or.inl ⟨by rfl, ?_⟩) hS ?_
 rotate_left
 ·(intro W hSW; go_simp <;> with_reducible rfl)
 simp only [nz]
 refine wpAnyH_take (i := 1) (v := ?_) rfl (by kernel_rfl) (by kernel_rfl) (by kernel_rfl) (fun _ _ _ h => pleaves_put (by decide) (by decide) h) (Or.inl ⟨by rfl, ?_⟩) hS ?_
 rotate_left
 ·(intro W hSW; go_simp <;> with_reducible rfl)
 simp only [nz]
 refine wpAnyH_take (i := 2) (v := ?_) rfl (by kernel_rfl) (by kernel_rfl) (by kernel_rfl) (fun _ _ _ h => pleaves_put (by decide) (by decide) h) (Or.inl ⟨by rfl, ?_⟩) hS ?_
 rotate_left
 ·(intro W hSW; go_simp <;> with_reducible rfl)
 simp only [nz]
 refine wpAnyH_take (i := 3) (v := ?_) rfl (by kernel_rfl) (by kernel_rfl) (by kernel_rfl) (fun _ _ _ h => pleaves_put (by decide) (by decide) h) (Or.inl ⟨by rfl, ?_⟩) hS ?_
 rotate_left
 ·(intro W hSW; go_simp <;> with_reducible rfl)
 simp only [nz]
 (try rw [hwM])
 refine wpAnyH_take (i := 4) (v := ?_) rfl (by kernel_rfl) (by kernel_rfl) (by kernel_rfl) (fun _ _ _ h => pleaves_put (by decide) (by decide) h) (Or.inl ⟨by rfl, ?_⟩) hS ?_
 rotate_left
 ·(intro W hSW; go_simp <;> with_reducible rfl)
 simp only [nz]
 refine wpAnyH_take (i := 5) (v := ?_) rfl (by kernel_rfl) (by kernel_rfl) (by kernel_rfl) (fun _ _ _ h => pleaves_put (by decide) (by decide) h) (Or.inl ⟨by rfl, ?_⟩) hS ?_
 rotate_left
 ·(intro W hSW; go_simp <;> with_reducible rfl)
 simp only [nz]
 refine wpAnyH_take (i := 6) (v := ?_) rfl (by kernel_rfl) (by kernel_rfl) (by kernel_rfl) (fun _ _ _ h => pleaves_put (by decide) (by decide) h) (Or.inl ⟨by rfl, ?_⟩) hS ?_
 rotate_left
 ·(intro W hSW; go_simp <;> with_reducible rfl)
 simp only [nz]
 refine wpAnyH_take (i := 7) (v := ?_) rfl (by kernel_rfl) (by kernel_rfl) (by kernel_rfl) (fun _ _ _ h => pleaves_put (by decide) (by decide) h) (Or.inl ⟨by rfl, ?_⟩) hS ?_
 rotate_left
 ·(intro W hSW; go_simp <;> with_reducible rfl)
 simp only [nz]
 refine wpAnyH_take (i := 8) (v := ?_) rfl (by kernel_rfl) (by kernel_rfl) (by kernel_rfl) (fun _ _ _ h => pleaves_put (by decide) (by decide) h) (Or.inl ⟨by rfl, ?_⟩) hS ?_
 rotate_left
 ·(intro W hSW; go_simp <;> with_reducible rfl)
 simp only [nz]
 (try rw [hwM])
 refine wpAnyH_take (i := 9) (v := ?_) rfl (by kernel_rfl) (by kernel_rfl) (by kernel_rfl) (fun _ _ _ h => pleaves_put (by decide) (by decide) h) (Or.inl ⟨by rfl, ?_⟩) hS ?_
 rotate_left
 ·(intro W hSW; go_simp; rw [if_pos (by omega)])
 simp only [nz]
 refine wpAnyH_take (i := 10) (v := ?_) rfl (by kernel_rfl) (by kernel_rfl) (by kernel_rfl) (fun _ _ _ h => pleaves_put (by decide) (by decide) h) (Or.inl ⟨by rfl, ?_⟩) hS ?_
 rotate_left
 ·(intro W hSW; go_simp <;> with_reducible rfl)
 simp only [nz]
 refine rdy1 11 rfl (fun K hK => ?_)
 go_simp
 refine (HSP.out _).mono ?_
 rintro r w5 ⟨g5, cap5, rfl, hg5, hcg5, hcm5, hs5, ht5⟩
 have HS5 := Lib.hid hs5
 have HP6 := Lib.hid (HP5.out.quiet ht5)
 have HWA6 := Lib.hid (HWA5.out.quiet ht5)
 dsimp only
 go_wp2_with fail
 refine hK.out _ _ (HC5.out _ (((Touch.refl [] w4).drew).then0 ht5)) (fun hS => ?_)
 clear hK K
 try simp only [nz]
 refine rdy1 12 rfl (fun K hK => ?_)
 go_simp
 refine hK.out _ _ hS (fun hS => ?_)
 clear hK K
 try simp only [nz]
 refine rdy1 13 rfl (fun K hK => ?_)
 go_simp
 refine hK.out _ _ hS (fun hS => ?_)
 clear hK K
 try simp only [nz]
 refine wpAnyH_done (by kernel_rfl) ?_ _
 clear hS hsl hwM HC5 hs5 ht5 hg5
 have HMB : Hid (∀ W, Touch [] w W → StrsAt W (.slice (some ⟨b, off + 1, none⟩) (M - 1) (cap - 1)) xs.tail.dropLast) := Lib.hid (fun W t => strs_body (HV.out.stay t))
 have HBL : Hid (xs.tail.dropLast.length = M - 1) := Lib.hid (by have := HLEN.out; simp; omega)
 have HBW : Hid (∀ x ∈ xs.tail.dropLast, x.length ≤ 100000 ∧ ∀ y ∈ splitL x, y.length ≤ 100000) := Lib.hid (fun x hx => by
  have h1 := HL.out x ((List.tail_sublist xs).subset ((List.dropLast_sublist _).subset hx))
  exact ⟨h1, fun y hy => Nat.le_trans (splitL_word x y hy) h1⟩)
 have HMN : Hid (∀ W, Touch [] w2q W → MF W ∧ RN W) := Lib.hid (fun W t => ⟨(HM.out W (HP2.out.t.then0 t)).mf, (HM.out W (HP2.out.t.then0 t)).rn⟩)
 by_cases hq : (splitL ls).length = 2
 rotate_left
 ·have HF : Hid (fin = none) := Lib.hid (HFIN.out.trans (parseL_last HLS.out HN2.out hq))
  have hq' : (((splitL ls).length : Int) == 2) = false := by rw [beq_eq_false_iff_ne]; omega
  clear hq HP5 HWA5 HWA6
  go_wp2_with fail
  refine (must_false _).mono ?_
  rintro r wf ⟨rfl, rfl⟩
  unfold unread
  go_wp2_with fail
  exact pfail HP6.out HF.out rfl rfl
 obtain ⟨z, q, hzq⟩ : ∃ z q, splitL ls = [z, q] := by
  match hs : splitL ls, hq with
  | [z, q], _ => exact ⟨z, q, rfl⟩
 have HX0' : Hid (fin = (bodyW (wUint (0, []) ((i : Int) + 1)) (i + 1) xs.tail.dropLast).bind fun st => tailP xs st q) := Lib.hid (HFIN.out.trans (parseL_go HHD.out HLS.out HN2.out HI.out hzq))
 rw [hzq] at HS5 hcg5 ⊢
 clear hq hzq HX0 HXL HHD HLS HN2 HI HFIN HSP HP5 HWA5
 generalize xs.tail.dropLast = bd at *
 go_wp2_with fail
 refine (must_true _).mono ?_
 rintro r w6 ⟨rfl, rfl⟩
 go_wp2_with fail
 refine (wa_uint ((i : Int) + 1) (by omega) HWA6.out).mono ?_
 rintro r w7 ⟨rfl, out7, ha7, ht7, hf7⟩
 have HS7 := Lib.hid (HS5.out.keep (HWA6.out.keepS ht7))
 have HW7 := Lib.hid ha7
 clear ha7 ht7 hf7 HWA6 HS5 HP6
 generalize wUint (0, []) ((i : Int) + 1) = st7 at *
 go_upto_block 0 with fail
 go_cut [39] from 37 (fun _ wx => P16 w2q wx p (.slice (some ⟨g5, 0, none⟩) 2 cap5) z q xs fin)
 case first =>
  by_cases hi0 : i = 0
  ·subst hi0
   have HX1 : Hid (fin = (evW st7 bd).bind fun st => tailP xs st q) := HX0'
   have HC := Lib.hid (writeEvents_any bd _ w2q w7 p out7 st7 (HMB.out w2q HP2.out.t) HW7.out HMN.out (by have := HBL.out; omega) HBW.out)
   cases hw : evW st7 bd with
   | none =>
    have HF : Hid (fin = none) := Lib.hid (HX1.out.trans (by rw [hw]; rfl))
    rw [hw] at HC
    clear hw HX1 HX0'
    go_wp2_with fail
    with_reducible refine HC.out.mono ?_
    rintro r w8 ⟨rfl, ht8⟩
    unfold unread
    go_wp2_with fail
    have HPF := Lib.hid (HP2.out.quiet ht8)
    exact pfail HPF.out HF.out rfl rfl
   | some st8 =>
    have HX2 : Hid (fin = tailP xs st8 q) := Lib.hid (HX1.out.trans (by rw [hw]; rfl))
    rw [hw] at HC
    clear hw HX1 HX0'
    go_wp2_with fail
    with_reducible refine HC.out.mono ?_
    rintro r w8 ⟨rfl, out8, ha8, hk8⟩
    go_wp2_with fail
    go_meet
    exact ⟨out8, st8, ha8, HS7.out.keep hk8, HX2⟩
  by_cases hi1 : i = 1
  ·subst hi1
   by_cases hb2 : bd.length = 2
   rotate_left
   ·have HF : Hid (fin = none) := Lib.hid (HX0'.out.trans (by
     unfold bodyW
     rw [if_neg (by omega), if_pos (by omega)]
     match bd, hb2 with
     | [x, y], h => exact absurd rfl h
     | [], _ => rfl
     | [x], _ => rfl
     | x :: y :: z :: t, _ => rfl))
    have hb2' : (((M - 1 : Nat) : Int) == 2) = false := by rw [beq_eq_false_iff_ne]; have := HBL.out; omega
    have HPF := Lib.hid (HP2.out.quiet HW7.out.t)
    clear hb2 HX0'
    go_wp2_with fail
    refine (must_false _).mono ?_
    rintro r wf ⟨rfl, rfl⟩
    unfold unread
    go_wp2_with fail
    exact pfail HPF.out HF.out rfl rfl
   obtain ⟨x, y, hxy⟩ : ∃ x y, bd = [x, y] := by
    match bd, hb2 with
    | [x, y], _ => exact ⟨x, y, rfl⟩
   subst hxy
   obtain rfl : M = 3 := by have := HBL.out; simp at this; omega
   have HX1 : Hid (fin = ((numsO numO x).bind fun ns => (numsO parseP y).map fun ms => wInts (wInts st7 ns) ms).bind fun st => tailP xs st q) := HX0'
   have HALB := Lib.hid (fun W (t : Touch [] w W) => ((HMB.out W t).all (by simp)))
   have HCX : Hid (∀ W, Touch [] w W → W.cell? ⟨b, off + 1, none⟩ = some (.string ⟨x.toArray⟩) ∧ W.cell? ⟨b, off + 1 + 1, none⟩ = some (.string ⟨y.toArray⟩)) := Lib.hid (fun W t => by
    obtain ⟨b', off', e, -, -, h⟩ := HALB.out W t
    injection e with e
    injection e with e1 e2
    subst e1 e2
    exact ⟨(h W (Touch.refl _ _)).2 0 x rfl, (h W (Touch.refl _ _)).2 1 y rfl⟩)
   have HWX := Lib.hid (HBW.out x (by simp))
   have HWY := Lib.hid (HBW.out y (by simp))
   have HNX := Lib.hid (numbers_any 64 numO x w7 HWX.out.1 HWX.out.2 (fun _ _ => by kernel_rfl) (fun W s t hs => number_any s W hs (HMN.out W (HW7.out.t.then0 t)).1) (fun _ _ h => numO_fits h))
   obtain ⟨qx, -⟩ := HCX.out w7 (HP2.out.t.then0 HW7.out.t)
   clear HX0' HALB HBW HMB hb2
   cases hnx : numsO numO x with
   | none =>
    have HF : Hid (fin = none) := Lib.hid (HX1.out.trans (by rw [hnx]; rfl))
    rw [hnx] at HNX
    clear hnx HX1
    go_wp2_with fail
    refine (must_true _).mono ?_
    rintro r w8 ⟨rfl, rfl⟩
    go_wp2_with fail
    with_reducible refine HNX.out.mono ?_
    rintro r w9 ⟨ht9, rfl⟩
    unfold unread
    go_wp2_with fail
    have HPF := Lib.hid (HP2.out.quiet (HW7.out.t.then0 ht9))
    exact pfail HPF.out HF.out rfl rfl
   | some ns =>
    rw [hnx] at HNX
    rw [hnx, Option.bind_some] at HX1
    clear hnx
    go_wp2_with fail
    refine (must_true _).mono ?_
    rintro r w8 ⟨rfl, rfl⟩
    go_wp2_with fail
    with_reducible refine HNX.out.mono ?_
    rintro r w9 ⟨ht9, u9, rfl, hrow9, hfit9, hfr9, -⟩
    have HW9 := Lib.hid (HW7.out.quiet ht9)
    have HS9 : Hid (OwnS w9 (.slice (some ⟨g5, 0, none⟩) 2 cap5) [z, q]) := Lib.hid (HS7.out.touch0 ht9)
    have hdis : ∀ g ∈ rb u9, g ∉ blkS st7 out7 := fun g hg hm => by
     have h1 := hfr9 g (rb_sub _ g hg)
     have h2 := HW7.out.lt g hm
     omega
    have HI9 := Lib.hid (wa_ints (RowI.intsP hrow9 hfit9) hdis HW9.out)
    obtain ⟨A9, c9, rfl⟩ := Own.form hrow9
    clear hrow9 hfit9 hfr9 ht9 hdis HW7 HS7 HNX qx
    dsimp only
    go_wp2_with fail
    with_reducible refine HI9.out.mono ?_
    rintro r w10 ⟨rfl, out10, ha10, ht10, hf10⟩
    have HW10 := Lib.hid ha10
    have HS10 := Lib.hid (HS9.out.keep (HW9.out.keepS ht10))
    clear ha10 ht10 hf10 HI9 HS9 HW9
    have HNY := Lib.hid (numbers_any 65 parseP y w10 HWY.out.1 HWY.out.2 (fun _ _ => by kernel_rfl) (fun W s t hs => rmoney_any s W hs (HMN.out W (HW10.out.t.then0 t)).1) (fun _ _ h => parseP_fits h))
    obtain ⟨-, qy⟩ := HCX.out w10 (HP2.out.t.then0 HW10.out.t)
    generalize wInts st7 ns = st10 at *
    cases hny : numsO parseP y with
    | none =>
     have HF : Hid (fin = none) := Lib.hid (HX1.out.trans (by rw [hny]; rfl))
     rw [hny] at HNY
     clear hny HX1
     go_wp2_with fail
     with_reducible refine HNY.out.mono ?_
     rintro r w11 ⟨ht11, rfl⟩
     unfold unread
     go_wp2_with fail
     have HPF := Lib.hid (HP2.out.quiet (HW10.out.t.then0 ht11))
     exact pfail HPF.out HF.out rfl rfl
    | some ms =>
     have HX2 : Hid (fin = tailP xs (wInts st10 ms) q) := Lib.hid (HX1.out.trans (by rw [hny]; rfl))
     rw [hny] at HNY
     clear hny HX1
     go_wp2_with fail
     with_reducible refine HNY.out.mono ?_
     rintro r w11 ⟨ht11, u11, rfl, hrow11, hfit11, hfr11, -⟩
     have HW11 := Lib.hid (HW10.out.quiet ht11)
     have HS11 : Hid (OwnS w11 (.slice (some ⟨g5, 0, none⟩) 2 cap5) [z, q]) := Lib.hid (HS10.out.touch0 ht11)
     have hdis : ∀ g ∈ rb u11, g ∉ blkS st10 out10 := fun g hg hm => by
      have h1 := hfr11 g (rb_sub _ g hg)
      have h2 := HW10.out.lt g hm
      omega
     have HI11 := Lib.hid (wa_ints (RowI.intsP hrow11 hfit11) hdis HW11.out)
     obtain ⟨A11, c11, rfl⟩ := Own.form hrow11
     clear hrow11 hfit11 hfr11 ht11 hdis HW10 HS10 HNY qy
     dsimp only
     go_wp2_with fail
     with_reducible refine HI11.out.mono ?_
     rintro r w12 ⟨rfl, out12, ha12, ht12, hf12⟩
     have hk12 := HW11.out.keepS ht12
     clear HI11 ht12 hf12
     go_wp2_with fail
     go_meet
     exact ⟨out12, _, ha12, HS11.out.keep hk12, HX2⟩
  ·have hi2 : (((i : Int) + 1) == 1) = false := by rw [beq_eq_false_iff_ne]; omega
   have hi3 : (((i : Int) + 1) == 2) = false := by rw [beq_eq_false_iff_ne]; omega
   have HX1 : Hid (fin = (areasW st7 bd).bind fun st => tailP xs st q) := Lib.hid (HX0'.out.trans (by
    unfold bodyW
    rw [if_neg (by omega), if_neg (by omega)]))
   have HC := Lib.hid (writeAreas_any bd _ w2q w7 p out7 st7 (HMB.out w2q HP2.out.t) HW7.out HMN.out (by have := HBL.out; omega) HBW.out)
   cases hw : areasW st7 bd with
   | none =>
    have HF : Hid (fin = none) := Lib.hid (HX1.out.trans (by rw [hw]; rfl))
    rw [hw] at HC
    clear hw HX1 HX0' hi0 hi1
    go_wp2_with fail
    with_reducible refine HC.out.mono ?_
    rintro r w8 ⟨rfl, ht8⟩
    unfold unread
    go_wp2_with fail
    have HPF := Lib.hid (HP2.out.quiet ht8)
    exact pfail HPF.out HF.out rfl rfl
   | some st8 =>
    have HX2 : Hid (fin = tailP xs st8 q) := Lib.hid (HX1.out.trans (by rw [hw]; rfl))
    rw [hw] at HC
    clear hw HX1 HX0' hi0 hi1
    go_wp2_with fail
    with_reducible refine HC.out.mono ?_
    rintro r w8 ⟨rfl, out8, ha8, hk8⟩
    go_wp2_with fail
    go_meet
    exact ⟨out8, st8, ha8, HS7.out.keep hk8, HX2⟩
 case rest =>
  obtain ⟨out, st, hwa, hs, HX⟩ := hcut
  have HWA := Lib.hid hwa
  have HSC := Lib.hid hs
  have q1 := hs.at_ (i := 1) (y := q) rfl
  have HPH := Lib.hid (phaseOf_any q wc (HMN.out wc hwa.t).2)
  clear hwa hs HX0' HMB HBL HBW HW7 HS7
  unfold tailP at HX
  cases hj : idxO phasesN q with
  | none =>
   have HF : Hid (fin = none) := Lib.hid (HX.out.trans (by rw [hj]; rfl))
   rw [hj] at HPH
   clear hj HX
   go_wp2_with fail
   with_reducible refine HPH.out.mono ?_
   rintro r w8 ⟨ht8, rfl⟩
   unfold unread
   go_wp2_with fail
   have HPF := Lib.hid (HP2.out.quiet (HWA.out.t.then0 ht8))
   exact pfail HPF.out HF.out rfl rfl
  | some j =>
   have hj5 := idxO_lt hj
   simp [phasesN] at hj5
   rw [hj, Option.bind_some] at HX
   rw [hj] at HPH
   clear hj
   go_wp2_with fail
   with_reducible refine HPH.out.mono ?_
   rintro r w8 ⟨ht8, rfl⟩
   have HW8 := Lib.hid (HWA.out.quiet ht8)
   clear ht8 HPH q1 HWA HSC
   dsimp only
   go_wp2_with fail
   with_reducible refine (wa_uint ((j : Int) + 1) (by omega) HW8.out).mono ?_
   rintro r w9 ⟨rfl, out9, ha9, ht9, hf9⟩
   have HW9 := Lib.hid ha9
   clear ha9 ht9 hf9 HW8
   generalize wUint st ((j : Int) + 1) = s9 at *
   obtain ⟨e9, b9⟩ := s9
   dsimp only at HX
   by_cases he9 : e9 = 0
   rotate_left
   ·have HF : Hid (fin = none) := Lib.hid (HX.out.trans (if_neg (fun h => he9 h.1)))
    have he9' : (e9 == 0) = false := by rw [beq_eq_false_iff_ne]; exact he9
    have HED := Lib.hid (wr_end p out9 (e9, b9) w9 HW9.out.wr)
    unfold EndDone at HED
    dsimp only at HED
    rw [if_neg he9] at HED
    go_wp2_with fail
    with_reducible refine HED.out.mono ?_
    rintro r w10 ⟨v10, rfl, hrow10, ht10, hfr10⟩
    obtain ⟨A10, c10, e10⟩ := Own.form hrow10
    have hp10 := HP2.out.quiet (HW9.out.t.then0 ht10)
    have HP10 := Lib.hid hp10
    have HROW := Lib.hid hrow10
    have HFR := Lib.hid hfr10
    have HZ9 := Lib.hid (show w.heap.size + 2 ≤ w9.heap.size by
     have := HP2.out.c.lt
     have := HW9.out.t.size
     omega)
    replace e10 : v10 = .slice A10 0 c10 := e10
    subst e10
    dsimp only
    obtain ⟨cl, fl, cc, fc⟩ := hp10.cells
    have hfc : (w10.setCell ⟨w.heap.size, 0, none⟩ (.slice A10 0 c10)).frozen? ⟨w.heap.size + 1, 0, none⟩ = false := (hp10.c.far (p := ⟨w.heap.size, 0, none⟩) (by show w.heap.size + 1 ≠ w.heap.size; omega) _).frozen 0
    have hcc : (w10.setCell ⟨w.heap.size, 0, none⟩ (.slice A10 0 c10)).cell? ⟨w.heap.size + 1, 0, none⟩ = some (.int .i64 0) := ((hp10.c.far (p := ⟨w.heap.size, 0, none⟩) (by show w.heap.size + 1 ≠ w.heap.size; omega) _).cell 0).trans rfl
    obtain ⟨-, -, hp11, ht11⟩ := HP10.out.put (.slice A10 0 c10) (.int .i64 e9)
    clear hrow10 ht10 hfr10 hp10
    go_upto_region 18 with fail
    generalize ((w10.setCell ⟨w.heap.size, 0, none⟩ (.slice A10 0 c10)).setCell ⟨w.heap.size + 1, 0, none⟩ (.int .i64 e9)) = w11 at *
    clear cl fl cc fc hfc hcc
    have HP11 := Lib.hid hp11
    obtain ⟨cl, fl, cc, fc⟩ := hp11.cells
    have HT11 := Lib.hid ht11
    clear hp11 ht11
    clear he9
    go_wp2_with fail
    refine (must_false _).mono ?_
    rintro r wf ⟨rfl, rfl⟩
    unfold unread
    go_wp2_with fail
    exact pfail HP11.out HF.out rfl rfl
   subst he9
   have HED := Lib.hid (wr_end p out9 (0, b9) w9 HW9.out.wr)
   unfold EndDone at HED
   dsimp only at HED
   rw [if_pos rfl] at HED
   go_wp2_with fail
   with_reducible refine HED.out.mono ?_
   rintro r w10 ⟨v10, rfl, hrow10, ht10, hfr10⟩
   obtain ⟨A10, c10, e10⟩ := Own.form hrow10
   have hp10 := HP2.out.quiet (HW9.out.t.then0 ht10)
   have HP10 := Lib.hid hp10
   have HROW := Lib.hid hrow10
   have HFR := Lib.hid hfr10
   have HZ9 := Lib.hid (show w.heap.size + 2 ≤ w9.heap.size by
    have := HP2.out.c.lt
    have := HW9.out.t.size
    omega)
   subst e10
   dsimp only
   obtain ⟨cl, fl, cc, fc⟩ := hp10.cells
   have hfc : (w10.setCell ⟨w.heap.size, 0, none⟩ (.slice A10 (b9 : List UInt8).length c10)).frozen? ⟨w.heap.size + 1, 0, none⟩ = false := (hp10.c.far (p := ⟨w.heap.size, 0, none⟩) (by show w.heap.size + 1 ≠ w.heap.size; omega) _).frozen 0
   have hcc : (w10.setCell ⟨w.heap.size, 0, none⟩ (.slice A10 (b9 : List UInt8).length c10)).cell? ⟨w.heap.size + 1, 0, none⟩ = some (.int .i64 0) := ((hp10.c.far (p := ⟨w.heap.size, 0, none⟩) (by show w.heap.size + 1 ≠ w.heap.size; omega) _).cell 0).trans rfl
   obtain ⟨-, -, hp11, ht11⟩ := HP10.out.put (.slice A10 (b9 : List UInt8).length c10) (.int .i64 0)
   clear hrow10 ht10 hfr10 hp10
   go_upto_region 18 with fail
   generalize hbn : (b9 : List UInt8).length = bn at *
   generalize ((w10.setCell ⟨w.heap.size, 0, none⟩ (.slice A10 bn c10)).setCell ⟨w.heap.size + 1, 0, none⟩ (.int .i64 0)) = w11 at *
   clear cl fl cc fc hfc hcc
   have HP11 := Lib.hid hp11
   obtain ⟨cl, fl, cc, fc⟩ := hp11.cells
   have HT11 := Lib.hid ht11
   clear hp11 ht11
   have HB11 : Hid (Bytes w11 (.slice A10 bn c10) b9) := Lib.hid (by
    refine Reads.touch (Row.bytes HROW.out) HT11.out (fun g hg hm => ?_)
    have h2 := HFR.out g (rb_sub _ g hg)
    have h3 := HZ9.out
    simp at hm
    omega)
   have HBL9 := Lib.hid ((HW9.out.wr.2 rfl).2)
   clear HROW HFR HZ9 HT11 HW9 HP10
   go_wp2_with fail
   refine (must_true _).mono ?_
   rintro r w12 ⟨rfl, rfl⟩
   obtain ⟨mx, hmx⟩ := (HM.out _ HP11.out.t).mf.max
   have HRS := Lib.hid (result_any b9 (.slice A10 bn c10) _ mx HB11.out (HM.out _ HP11.out.t).rn (HM.out _ HP11.out.t).big hmx HBL9.out)
   clear hmx
   go_wp2_with fail
   with_reducible refine HRS.out.mono ?_
   rintro r w13 ⟨u13, rfl, hs13, ht13⟩
   have hp13 := HP11.out.quiet ht13
   have HB13 : Hid (Bytes w13 (.slice A10 bn c10) b9) := Lib.hid (HB11.out.touch0 ht13)
   have HP13 := Lib.hid hp13
   have HS13 := Lib.hid hs13
   obtain ⟨A13, c13, e13, -⟩ := hs13.form
   subst e13
   clear cl fl cc fc HRS HB11 HP11 hs13 ht13
   obtain ⟨cl, fl, cc, fc⟩ := hp13.cells
   obtain ⟨hp14, ht14⟩ := hp13.putC (.int .i64 (resE (resL b9)))
   clear hp13
   dsimp only
   go_upto_region 20 with fail
   generalize (w13.setCell ⟨w.heap.size + 1, 0, none⟩ (.int .i64 (resE (resL b9)))) = w14 at *
   have HT14 := Lib.hid ht14
   clear cl fl cc fc ht14
   cases hr : resL b9 with
   | none =>
    rw [hr] at hp14 HX HS13
    have HF : Hid (fin = none) := Lib.hid (HX.out.trans (if_neg (fun h => by cases h.2)))
    replace hp14 : Pc w w14 (.slice A10 bn c10) (.int .i64 6) := hp14
    have HP14 := Lib.hid hp14
    obtain ⟨cl, fl, cc, fc⟩ := hp14.cells
    clear hp14 hr HX
    go_wp2_with fail
    refine (must_false _).mono ?_
    rintro r wf ⟨rfl, rfl⟩
    unfold unread
    go_wp2_with fail
    exact pfail HP14.out HF.out rfl rfl
   | some ys =>
    rw [hr] at hp14 HX HS13
    (try simp only [Option.getD_some])
    replace hp14 : Pc w w14 (.slice A10 bn c10) (.int .i64 0) := hp14
    replace HS13 : Hid (StrsAt w13 (.slice A13 ys.length c13) ys) := HS13
    have HC13 := Lib.hid HP13.out.c
    have HS14 : Hid (StrsAt w14 (.slice A13 ys.length c13) ys) := Lib.hid (HS13.out.touch HT14.out (fun g hg hm => by
     rw [List.mem_singleton] at hm
     subst hm
     exact HS13.out.notInt HC13.out hg))
    have HB14 : Hid (Bytes w14 (.slice A10 bn c10) b9) := Lib.hid (HB13.out.touch HT14.out (fun g hg hm => by
     rw [List.mem_singleton] at hm
     subst hm
     exact bytes_notErr HB13.out HC13.out hg))
    have HEQ := Lib.hid (equal_any _ _ ys xs w14 HS14.out (by have := HV.out.stay hp14.t; rwa [show M + 1 = M + 1 from rfl] at this))
    have HP14 := Lib.hid hp14
    obtain ⟨cl, fl, cc, fc⟩ := hp14.cells
    clear hp14 hr HS13 HC13 HB13 HP13 HT14
    go_wp2_with fail
    with_reducible refine HEQ.out.mono ?_
    rintro r w15 ⟨rfl, ht15⟩
    have hp15 := HP14.out.quiet ht15
    have HB15 : Hid (Bytes w15 (.slice A10 bn c10) b9) := Lib.hid (HB14.out.touch0 ht15)
    have HP15 := Lib.hid hp15
    clear cl fl cc fc HEQ HS14 HB14 ht15
    obtain ⟨cl, fl, cc, fc⟩ := hp15.cells
    clear hp15
    by_cases he : ys = xs
    rotate_left
    ·have HF : Hid (fin = none) := Lib.hid (HX.out.trans (if_neg (fun h => he (Option.some.inj h.2))))
     rw [decide_eq_false he]
     clear he HX
     go_wp2_with fail
     refine (must_false _).mono ?_
     rintro r wf ⟨rfl, rfl⟩
     unfold unread
     go_wp2_with fail
     exact pfail HP15.out HF.out rfl rfl
    have HF : Hid (fin = some b9) := Lib.hid (HX.out.trans (if_pos ⟨trivial, congrArg some he⟩))
    rw [decide_eq_true he]
    clear he HX
    go_wp2_with fail
    refine (must_true _).mono ?_
    rintro r w16 ⟨rfl, rfl⟩
    have hcl := HP15.out.c.lt
    go_wp2_with fail
    obtain ⟨k1, k2, kp, kt⟩ := HP15.out.put (.slice A10 bn c10) (.int .i64 0)
    have HKT := Lib.hid kp.t
    have HBZ := Lib.hid (HB15.out.touch kt (fun g hg hm => by
     simp at hm
     rcases hm with rfl | rfl
     ·exact bytes_notSlice HB15.out HP15.out.l hg
     ·exact bytes_notErr HB15.out HP15.out.c hg))
    clear kp kt cl fl cc fc hcl
    refine leaves_cons (f := 57) (args := #[.pointer (some ⟨w.heap.size, 0, none⟩), .pointer (some ⟨w.heap.size + 1, 0, none⟩)]) (by simp) (by simp [go_sem]) ?_
    refine (prec_none _ _ _).mono ?_
    rintro e u' w4 ⟨rfl, rfl, rfl⟩
    simp [Leaves, settle, results, Tryz.results18, go_sem, k1, k2]
    exact parse_some HF.out HBL9.out HBZ.out HKT.out
end Go.Proofs.YtedpaajpfaoffaaGreatDoor
namespace Go.Proofs.YtedpaajpfaoffaaGreatDoor
open Go.RowKit
structure LineOk (w : World) (v : Value) (xs : List (List UInt8)) : Prop where
 at_ : ∀ W, Touch [] w W → StrsAt W v xs
 n : xs.length ≤ 1000
 l : ∀ x ∈ xs, x.length ≤ 100000
theorem LineOk.of {w : World} {v : Value} {xs : List (List UInt8)} (h : StrsAt w v xs) (hn : xs.length ≤ 1000) (hl : ∀ x ∈ xs, x.length ≤ 100000) : LineOk w v xs := ⟨fun W t => h.stay t, hn, hl⟩
theorem LineOk.later {w w' : World} {v : Value} {xs : List (List UInt8)} (h : LineOk w v xs) (t : Touch [] w w') : LineOk w' v xs := ⟨fun W t' => h.at_ W (t.then0 t'), h.n, h.l⟩
def LwRel (w5 : World) (ti : Value) (wr : World) : Prop := ∃ k : Nat, k ≤ 2 ∧ ti = .int .i64 k ∧ Touch [] w5 wr
def LlRel (w : World) (l : List (List UInt8)) (ti : Value) (wr : World) : Prop := ∃ k : Nat, k ≤ l.length ∧ ti = .int .i64 k ∧ wr = w ∧ Hid (∀ j y, j < k → l[j]? = some y → y.length ≤ 200)
theorem idx_at (n : Int) (L : Nat) (h0 : 0 < L) (hL : L ≤ 1000) : ∃ j : Nat, j < L ∧ (IntKind.u64.wrap n).tmod (L : Int) = (j : Int) := by
 have h1 : 0 ≤ IntKind.u64.wrap n := by show 0 ≤ n % 18446744073709551616; omega
 refine ⟨((IntKind.u64.wrap n).tmod (L : Int)).toNat, ?_, ?_⟩
 ·have := Int.tmod_lt_of_pos (IntKind.u64.wrap n) (show (0 : Int) < L by omega)
  have := Int.tmod_nonneg (L : Int) h1
  omega
 ·have := Int.tmod_nonneg (L : Int) h1
  omega
theorem reportParses_law (l : List (List UInt8)) (b s : List UInt8) (n : Int) (vl vb : Value) (w : World) (hl : StrsAt w vl l) (hb : Bytes w vb b) (hn : Fits n) (hm : MN w) :
  Calls Tryz.prog 6 #[vl, vb, .int .i64 n, .string ⟨s.toArray⟩] w fun r w' => r = .returned (.bool true) ∧ Touch [] w w' := by
 have HK := Lib.hid (fun (W : World) (t : Touch [] w W) => known_hand W (hm.touch t))
 have HPA := Lib.hid (fun (zs : List (List UInt8)) (v : Value) (W : World) (t : Touch [] w W) (h : LineOk W v zs) => parseResult_any zs v W (h.at_ W (Touch.refl _ _)) (hm.touch t) h.n h.l)
 have HREF := Lib.hid (fun (y : List UInt8) (v : Value) (W : World) (h : Bytes W v y) (hy : y.length ≤ 65536) => refResult_any y v W h hy)
 have HREO := Lib.hid (fun (hy : b.length ≤ 65536) => refResult_own b vb w hb hy)
 have HB := Lib.hid (fun (W : World) (t : Touch [] w W) => hb.touch0 t)
 have HLL := Lib.hid (fun (W : World) (t : Touch [] w W) => hl.stay t)
 obtain ⟨Ab, capb, rfl, hcb1, hcb2, -⟩ := id hb
 obtain ⟨Al, capl, rfl, hcl1, hcl2⟩ := hl.form
 have hsz := tx_size s
 have HIX := Lib.hid (idx_at n)
 clear hm hb hl hn
 by_cases h1 : 20 < l.length
 ·have h1' : (20 : Int) < (l.length : Int) := by omega
  go_enter Tryz.func6, Tryz.ntmps6
  go_wp2_with fail
  with_reducible refine (HK.out _ (Touch.refl [] _)).mono ?_
  rintro r wk ⟨rfl, htk⟩
  dsimp only
  go_wp2_with fail
  go_ret
  exact ⟨rfl, Touch.then0 (Touch.refl [] _) htk⟩
 have h1' : ¬ (20 : Int) < (l.length : Int) := by omega
 by_cases h2 : 400 < b.length
 ·have h2' : (400 : Int) < (b.length : Int) := by omega
  go_enter Tryz.func6, Tryz.ntmps6
  go_wp2_with fail
  with_reducible refine (HK.out _ (Touch.refl [] _)).mono ?_
  rintro r wk ⟨rfl, htk⟩
  dsimp only
  go_wp2_with fail
  go_ret
  exact ⟨rfl, Touch.then0 (Touch.refl [] _) htk⟩
 have h2' : ¬ (400 : Int) < (b.length : Int) := by omega
 by_cases h3 : 200 < s.length
 ·have h3' : (200 : Int) < (s.length : Int) := by omega
  go_enter Tryz.func6, Tryz.ntmps6
  go_wp2_with fail
  with_reducible refine (HK.out _ (Touch.refl [] _)).mono ?_
  rintro r wk ⟨rfl, htk⟩
  dsimp only
  go_wp2_with fail
  go_ret
  exact ⟨rfl, Touch.then0 (Touch.refl [] _) htk⟩
 have h3' : ¬ (200 : Int) < (s.length : Int) := by omega
 have HS3 := Lib.hid h3
 go_enter Tryz.func6, Tryz.ntmps6
 go_wp2_with fail
 go_loopw [9] (fun ti wr => LlRel w l ti wr) (fun ti _ => l.length - (intOf ti).toNat)
 case atStart => exact ⟨0, by omega, rfl, rfl, Lib.hid (fun j y hj => by omega)⟩
 case round =>
  obtain ⟨k, hk, rfl, hww, HU⟩ := hrel
  have hww' := hww.symm
  subst hww'
  clear hww
  by_cases hlt : k < l.length
  ·have hlt' : (k : Int) < (l.length : Int) := by omega
   obtain ⟨b0, off, rfl, -, -, hall⟩ := (HLL.out _ (Touch.refl _ _)).all (by omega)
   have q0 := (hall _ (Touch.refl _ _)).2 k _ (List.getElem?_eq_getElem hlt)
   have HY : Hid (l[k].length ≤ 200 → ∀ j y, j < k + 1 → l[j]? = some y → y.length ≤ 200) := Lib.hid (fun hy j y hj hjy => by
    by_cases h : j < k
    ·exact HU.out j y h hjy
    ·obtain rfl : j = k := by omega
     rw [List.getElem?_eq_getElem hlt] at hjy
     injection hjy with hjy
     rw [← hjy]
     exact hy)
   clear hall HU
   generalize l[k] = y at *
   have hszy := tx_size y
   by_cases hy : 200 < y.length
   ·have hy' : (200 : Int) < (y.length : Int) := by omega
    clear HY
    go_wp2_with fail
    with_reducible refine (HK.out _ (Touch.refl [] _)).mono ?_
    rintro r wk ⟨rfl, htk⟩
    dsimp only
    go_wp2_with fail
    go_ret
    exact ⟨rfl, Touch.then0 (Touch.refl [] _) htk⟩
   ·have hy' : ¬ (200 : Int) < (y.length : Int) := by omega
    have HY2 := Lib.hid (HY.out (by omega))
    clear HY hy
    go_wp2_with fail
    go_roundw
    case rel => exact ⟨k + 1, by omega, by go_num, rfl, HY2⟩
    case measure => simp [intOf]; omega
  ·have hlt' : ¬ (k : Int) < (l.length : Int) := by omega
   have HLO : Hid (LineOk w (.slice Al l.length capl) l) := Lib.hid (LineOk.of (HLL.out _ (Touch.refl _ _)) (by omega) (fun x hx => by
    obtain ⟨j, hj⟩ := List.getElem?_of_mem hx
    have := HU.out j x (by have := (List.getElem?_eq_some_iff.1 hj).1; omega) hj
    omega))
   clear HU hk
   have HBA := Lib.hid h2
   go_wp2_with fail
   with_reducible refine (HREO.out (by have := HBA.out; omega)).mono ?_
   rintro r w3 ⟨u3, rfl, hs3, ht3, ho3⟩
   have HT3 := Lib.hid ht3
   clear ht3 HREO
   cases hr : resL b with
   | none =>
    rw [hr] at hs3
    replace hs3 : StrsAt w3 u3 [] := hs3
    obtain ⟨A3, c3, rfl, -⟩ := hs3.form
    have HLY : Hid (LineOk w3 (.slice A3 0 c3) []) := Lib.hid (LineOk.of hs3 (by simp) (by simp))
    rw [show resE none = 6 from rfl]
    clear hs3 ho3 hr
    dsimp only
    simp only [List.length_nil]
    have HLZ := Lib.hid (HLO.out.later HT3.out)
    have t5 := (Touch.refl [] w3).alloc (.cells #[.slice Al l.length capl, .slice A3 0 c3] 39)
    have hb5 : Blk (w3.alloc (.cells #[.slice Al l.length capl, .slice A3 0 c3] 39)) w3.heap.size 39 #[.slice Al l.length capl, .slice A3 0 c3] := Blk.new _ _ _
    have HT5 := Lib.hid (HT3.out.then0 t5)
    have HC5 : Hid (∀ (W' : World), Touch [] (w3.alloc (.cells #[.slice Al l.length capl, .slice A3 0 c3] 39)) W' → W'.cell? ⟨w3.heap.size, 0, none⟩ = some (.slice Al l.length capl) ∧ W'.cell? ⟨w3.heap.size, 1, none⟩ = some (.slice A3 0 c3)) := Lib.hid (fun W' t => And.intro (((hb5.touch t (by simp)).cell 0).trans rfl) (((hb5.touch t (by simp)).cell 1).trans rfl))
    have HL1 := Lib.hid (HLZ.out.later t5)
    have HL2 := Lib.hid (LineOk.later HLY.out t5)
    clear t5 hb5
    go_wp2_with fail
    generalize (w3.alloc (.cells #[.slice Al l.length capl, .slice A3 0 c3] 39)) = w5 at *
    generalize w3.heap.size = g5 at *
    go_loopw [82] (fun ti wr => LwRel w5 ti wr) (fun ti _ => 2 - (intOf ti).toNat)
    case atStart => exact ⟨0, by omega, rfl, Touch.refl _ _⟩
    case round =>
     obtain ⟨k, hk, rfl, ht⟩ := hrel
     have HTR := Lib.hid ht
     by_cases hlt : k < 2
     ·have hlt' : (k : Int) < 2 := by omega
      obtain ⟨Ax, cx, zs, hcx, HLX⟩ : ∃ Ax cx, ∃ zs : List (List UInt8), wr.cell? ⟨g5, k, none⟩ = some (.slice Ax zs.length cx) ∧ Hid (LineOk wr (.slice Ax zs.length cx) zs) := by
       have hk2 : k = 0 ∨ k = 1 := by omega
       obtain ⟨h0, h1⟩ := HC5.out wr ht
       rcases hk2 with rfl | rfl
       ·exact ⟨_, _, l, h0, Lib.hid (HL1.out.later ht)⟩
       ·first
        | exact ⟨_, _, [], h1, Lib.hid (HL2.out.later ht)⟩
        | exact ⟨_, _, [], by rw [List.length_set]; exact h1, Lib.hid (by rw [List.length_set]; exact HL2.out.later ht)⟩
      have HCP := Lib.hid (HPA.out zs _ wr (HT5.out.then0 ht) HLX.out)
      unfold ParsePost at HCP
      clear ht
      cases hp : parseL zs with
      | none =>
       rw [hp] at HCP
       clear hp
       go_wp2_with fail
       with_reducible refine HCP.out.mono ?_
       rintro r w6 ⟨ht6, rfl⟩
       dsimp only
       go_wp2_with fail
       go_roundw
       case rel => exact ⟨k + 1, by omega, by go_num, HTR.out.then0 ht6⟩
       case measure => simp [intOf]; omega
      | some y =>
       have HRY := Lib.hid (parseL_res hp)
       rw [hp] at HCP
       clear hp
       go_wp2_with fail
       with_reducible refine HCP.out.mono ?_
       rintro r w6 ⟨ht6, hyl, u6, rfl, hb6⟩
       have HR6 := Lib.hid (HREF.out y u6 w6 hb6 hyl)
       rw [HRY.out] at HR6
       obtain ⟨A6, c6, rfl, -⟩ := id hb6
       have HTQ := Lib.hid (HTR.out.then0 ht6)
       have HLQ := Lib.hid (HLX.out.later ht6)
       clear hb6 ht6 HCP
       dsimp only
       go_wp2_with fail
       with_reducible refine HR6.out.mono ?_
       rintro r w7 ⟨u7, rfl, hs7, ht7⟩
       replace hs7 : StrsAt w7 u7 zs := hs7
       obtain ⟨A7, c7, rfl, -⟩ := hs7.form
       have HS := Lib.hid (same_any _ _ zs zs w7 (HLQ.out.at_ w7 ht7) hs7)
       have HTS := Lib.hid (HTQ.out.then0 ht7)
       rw [show resE (some zs) = 0 from rfl]
       clear hs7 ht7 HR6
       dsimp only
       go_wp2_with fail
       with_reducible refine HS.out.mono ?_
       rintro r w8 ⟨rfl, ht8⟩
       (try rw [decide_eq_true (rfl : zs = zs)])
       (try simp only [decide_true])
       (try dsimp only)
       go_wp2_with fail
       go_roundw
       case rel => exact ⟨k + 1, by omega, by go_num, HTS.out.then0 ht8⟩
       case measure => simp [intOf]; omega
     ·have hlt' : ¬ (k : Int) < 2 := by omega
      have HTE := Lib.hid (HT5.out.then0 ht)
      clear ht
      go_wp2_with fail
      with_reducible refine (HK.out _ HTE.out).mono ?_
      rintro r wk ⟨rfl, htk⟩
      dsimp only
      go_wp2_with fail
      go_ret
      exact ⟨rfl, Touch.then0 HTE.out htk⟩
   | some xs =>
    obtain ⟨hox, hf3⟩ := ho3 xs hr
    clear ho3
    obtain ⟨hx2, hx3, hx4⟩ := res_long hr
    obtain ⟨A3, c3, rfl⟩ := hox.form
    have HPB := Lib.hid (parse_back (by have := HBA.out; omega) hr)
    have HLX3 : Hid (LineOk w3 (.slice A3 xs.length c3) xs) := Lib.hid (LineOk.of hox.reads hx3 hx4)
    have HCP := Lib.hid (HPA.out xs _ w3 HT3.out HLX3.out)
    unfold ParsePost at HCP
    rw [HPB.out] at HCP
    have HO3 := Lib.hid hox
    have HF3 := Lib.hid hf3
    have HX4 := Lib.hid hx4
    rw [show resE (some xs) = 0 from rfl]
    clear hs3 hox hf3 hr hx4 HPB
    dsimp only
    go_wp2_with fail
    with_reducible refine HCP.out.mono ?_
    rintro r w4 ⟨ht4, -, u4, rfl, hb4⟩
    have kb1 := run_str hb4
    have kb2 := run_str (HB.out w4 (HT3.out.then0 ht4))
    obtain ⟨A4, c4, rfl, -⟩ := id hb4
    have HO4 : Hid (OwnS w4 (.slice A3 xs.length c3) xs) := Lib.hid (HO3.out.touch0 ht4)
    have HT4 := Lib.hid (HT3.out.then0 ht4)
    clear hb4 ht4 HO3 HCP
    obtain ⟨j, hj, hrem⟩ := HIX.out xs.length (by omega) hx3
    obtain ⟨g3, rfl, -, -, -, hcj, hfj⟩ := Own.cellAt (show Own w4 9 1 (.slice A3 xs.length c3) xs.length (xs.map str) from HO4.out) (j := j) (u := str xs[j]) (by simp [hj])
    obtain ⟨g3', eg, hset⟩ := Own.setAt (show Own w4 9 1 (.slice (some ⟨g3, 0, none⟩) xs.length c3) xs.length (xs.map str) from HO4.out) (j := j) hj (.string ⟨s.toArray⟩)
    injection eg with eg
    injection eg with eg
    subst eg
    have hg3 : w.heap.size ≤ g3 := HF3.out g3 (by simp [blk])
    have HOZ : Hid (OwnS (w4.setCell ⟨g3, j, none⟩ (.string ⟨s.toArray⟩)) (.slice (some ⟨g3, 0, none⟩) (xs.set j s).length c3) (xs.set j s)) := Lib.hid (by
     unfold OwnS
     rw [List.length_set, List.map_set]
     exact hset)
    have HTZ : Hid (Touch [] w (w4.setCell ⟨g3, j, none⟩ (.string ⟨s.toArray⟩))) := Lib.hid (HT4.out.setCell (.inr hg3) _)
    have HLY : Hid (LineOk (w4.setCell ⟨g3, j, none⟩ (.string ⟨s.toArray⟩)) (.slice (some ⟨g3, 0, none⟩) xs.length c3) (xs.set j s)) := Lib.hid (by
     have h1 := HOZ.out.reads
     rw [List.length_set] at h1
     refine LineOk.of h1 (by rw [List.length_set]; exact hx3) (fun x hx => ?_)
     rcases List.mem_or_eq_of_mem_set hx with h | h
     ·exact HX4.out x h
     ·rw [h]
      have := HS3.out
      omega)
    have hw1 : IntKind.u64.wrap (xs.length : Int) = (xs.length : Int) := by show (xs.length : Int) % 18446744073709551616 = xs.length; omega
    have hw2 : IntKind.i64.wrap (j : Int) = (j : Int) := IntWalk.i64_in _ (by omega)
    have hn0 : ((xs.length : Int) == 0) = false := by rw [beq_eq_false_iff_ne]; omega
    have hj' : (j : Int) < (xs.length : Int) := by omega
    clear hset HOZ HO4 HF3 HX4 hg3 HLX3
    have hw3 : wrap64 (j : Int) = (j : Int) := by unfold wrap64; omega
    have hzz : (w4.setCell ⟨g3, j, none⟩ (.string ⟨s.toArray⟩)).heap.size = w4.heap.size := by simp [World.setCell]
    generalize str xs[j] = sj at hcj
    have HLZ := Lib.hid (HLO.out.later HTZ.out)
    have t5 := (Touch.refl [] (w4.setCell ⟨g3, j, none⟩ (.string ⟨s.toArray⟩))).alloc (.cells #[.slice Al l.length capl, .slice (some ⟨g3, 0, none⟩) xs.length c3] 39)
    have hb5 : Blk ((w4.setCell ⟨g3, j, none⟩ (.string ⟨s.toArray⟩)).alloc (.cells #[.slice Al l.length capl, .slice (some ⟨g3, 0, none⟩) xs.length c3] 39)) w4.heap.size 39 #[.slice Al l.length capl, .slice (some ⟨g3, 0, none⟩) xs.length c3] := (by have := Blk.new (w4.setCell ⟨g3, j, none⟩ (.string ⟨s.toArray⟩)) 39 #[.slice Al l.length capl, .slice (some ⟨g3, 0, none⟩) xs.length c3]; rwa [hzz] at this)
    have HT5 := Lib.hid (HTZ.out.then0 t5)
    have HC5 : Hid (∀ (W' : World), Touch [] ((w4.setCell ⟨g3, j, none⟩ (.string ⟨s.toArray⟩)).alloc (.cells #[.slice Al l.length capl, .slice (some ⟨g3, 0, none⟩) xs.length c3] 39)) W' → W'.cell? ⟨w4.heap.size, 0, none⟩ = some (.slice Al l.length capl) ∧ W'.cell? ⟨w4.heap.size, 1, none⟩ = some (.slice (some ⟨g3, 0, none⟩) xs.length c3)) := Lib.hid (fun W' t => And.intro (((hb5.touch t (by simp)).cell 0).trans rfl) (((hb5.touch t (by simp)).cell 1).trans rfl))
    have HL1 := Lib.hid (HLZ.out.later t5)
    have HL2 := Lib.hid (LineOk.later HLY.out t5)
    clear t5 hb5
    go_wp2_with fail
    generalize ((w4.setCell ⟨g3, j, none⟩ (.string ⟨s.toArray⟩)).alloc (.cells #[.slice Al l.length capl, .slice (some ⟨g3, 0, none⟩) xs.length c3] 39)) = w5 at *
    generalize w4.heap.size = g5 at *
    go_loopw [82] (fun ti wr => LwRel w5 ti wr) (fun ti _ => 2 - (intOf ti).toNat)
    case atStart => exact ⟨0, by omega, rfl, Touch.refl _ _⟩
    case round =>
     obtain ⟨k, hk, rfl, ht⟩ := hrel
     have HTR := Lib.hid ht
     by_cases hlt : k < 2
     ·have hlt' : (k : Int) < 2 := by omega
      obtain ⟨Ax, cx, zs, hcx, HLX⟩ : ∃ Ax cx, ∃ zs : List (List UInt8), wr.cell? ⟨g5, k, none⟩ = some (.slice Ax zs.length cx) ∧ Hid (LineOk wr (.slice Ax zs.length cx) zs) := by
       have hk2 : k = 0 ∨ k = 1 := by omega
       obtain ⟨h0, h1⟩ := HC5.out wr ht
       rcases hk2 with rfl | rfl
       ·exact ⟨_, _, l, h0, Lib.hid (HL1.out.later ht)⟩
       ·first
        | exact ⟨_, _, (xs.set j s), h1, Lib.hid (HL2.out.later ht)⟩
        | exact ⟨_, _, (xs.set j s), by rw [List.length_set]; exact h1, Lib.hid (by rw [List.length_set]; exact HL2.out.later ht)⟩
      have HCP := Lib.hid (HPA.out zs _ wr (HT5.out.then0 ht) HLX.out)
      unfold ParsePost at HCP
      clear ht
      cases hp : parseL zs with
      | none =>
       rw [hp] at HCP
       clear hp
       go_wp2_with fail
       with_reducible refine HCP.out.mono ?_
       rintro r w6 ⟨ht6, rfl⟩
       dsimp only
       go_wp2_with fail
       go_roundw
       case rel => exact ⟨k + 1, by omega, by go_num, HTR.out.then0 ht6⟩
       case measure => simp [intOf]; omega
      | some y =>
       have HRY := Lib.hid (parseL_res hp)
       rw [hp] at HCP
       clear hp
       go_wp2_with fail
       with_reducible refine HCP.out.mono ?_
       rintro r w6 ⟨ht6, hyl, u6, rfl, hb6⟩
       have HR6 := Lib.hid (HREF.out y u6 w6 hb6 hyl)
       rw [HRY.out] at HR6
       obtain ⟨A6, c6, rfl, -⟩ := id hb6
       have HTQ := Lib.hid (HTR.out.then0 ht6)
       have HLQ := Lib.hid (HLX.out.later ht6)
       clear hb6 ht6 HCP
       dsimp only
       go_wp2_with fail
       with_reducible refine HR6.out.mono ?_
       rintro r w7 ⟨u7, rfl, hs7, ht7⟩
       replace hs7 : StrsAt w7 u7 zs := hs7
       obtain ⟨A7, c7, rfl, -⟩ := hs7.form
       have HS := Lib.hid (same_any _ _ zs zs w7 (HLQ.out.at_ w7 ht7) hs7)
       have HTS := Lib.hid (HTQ.out.then0 ht7)
       rw [show resE (some zs) = 0 from rfl]
       clear hs7 ht7 HR6
       dsimp only
       go_wp2_with fail
       with_reducible refine HS.out.mono ?_
       rintro r w8 ⟨rfl, ht8⟩
       (try rw [decide_eq_true (rfl : zs = zs)])
       (try simp only [decide_true])
       (try dsimp only)
       go_wp2_with fail
       go_roundw
       case rel => exact ⟨k + 1, by omega, by go_num, HTS.out.then0 ht8⟩
       case measure => simp [intOf]; omega
     ·have hlt' : ¬ (k : Int) < 2 := by omega
      have HTE := Lib.hid (HT5.out.then0 ht)
      clear ht
      go_wp2_with fail
      with_reducible refine (HK.out _ HTE.out).mono ?_
      rintro r wk ⟨rfl, htk⟩
      dsimp only
      go_wp2_with fail
      go_ret
      exact ⟨rfl, Touch.then0 HTE.out htk⟩
end Go.Proofs.YtedpaajpfaoffaaGreatDoor
