/- report.Result: what it keeps while it reads; its leaving. -/
import Derived.Test.YtedpaajpfaoffaaGreatDoorSd6
import Derived.Test.YtedpaajpfaoffaaGreatDoorScA
set_option linter.all false
set_option maxHeartbeats 400000
set_option maxRecDepth 100000
namespace Go.Proofs.YtedpaajpfaoffaaGreatDoor
open Go.RowKit
structure RsAt (w W : World) (p v m : Nat) (inp : Value) (l : List UInt8) (s : Int × Nat) (xs : List (List UInt8)) (A : Option Addr) (n c : Nat) : Prop where
 rd : Rd W p inp l s.1 s.2
 lines : Blk W w.heap.size 39 #[.slice A n c]
 code : Blk W (w.heap.size + 1) 23 #[.int .i64 0]
 var : Blk W v 71 #[.pointer (some ⟨p, 0, none⟩)]
 own : Own W 9 1 (.slice A n c) n (xs.map str)
 far : ∀ g ∈ blk (.slice A n c), m ≤ g
 inl : ∀ g ∈ rb inp, w.heap.size + 2 ≤ g ∧ g < m
 ord : w.heap.size + 2 ≤ p ∧ p < v ∧ v < m ∧ m ≤ W.heap.size
 t : Touch [] w W
section
variable {w W : World} {p v m : Nat} {inp : Value} {l : List UInt8} {s : Int × Nat} {xs : List (List UInt8)} {A : Option Addr} {n c : Nat}
theorem RsAt.call {W' : World} {s' : Int × Nat} (h : RsAt w W p v m inp l s xs A n c) (t : Touch [p] W W') (hr : Rd W' p inp l s'.1 s'.2) : RsAt w W' p v m inp l s' xs A n c := by
 have ho := h.ord
 exact ⟨hr, h.lines.touch t (by simp; omega), h.code.touch t (by simp; omega), h.var.touch t (by simp; omega), h.own.touch t (fun b hb => by have := h.far b hb; simp; omega), h.far, h.inl, ⟨ho.1, ho.2.1, ho.2.2.1, Nat.le_trans ho.2.2.2 t.size⟩, h.t.step t (fun x hx => .inr (by simp at hx; omega))⟩
theorem RsAt.quiet {W' : World} (h : RsAt w W p v m inp l s xs A n c) (t : Touch [] W W') : RsAt w W' p v m inp l s xs A n c := h.call (t.mono (by simp)) (h.rd.touch t (by simp) (by simp))
theorem RsAt.cells (h : RsAt w W p v m inp l s xs A n c) : W.cell? ⟨w.heap.size, 0, none⟩ = some (.slice A n c) ∧ W.frozen? ⟨w.heap.size, 0, none⟩ = false ∧ W.cell? ⟨v, 0, none⟩ = some (.pointer (some ⟨p, 0, none⟩)) := ⟨(h.lines.cell 0).trans rfl, h.lines.frozen 0, (h.var.cell 0).trans rfl⟩
theorem RsAt.codes (h : RsAt w W p v m inp l s xs A n c) : W.cell? ⟨w.heap.size + 1, 0, none⟩ = some (.int .i64 0) ∧ W.frozen? ⟨w.heap.size + 1, 0, none⟩ = false := ⟨(h.code.cell 0).trans rfl, h.code.frozen 0⟩
theorem RsAt.mid {W1 : World} (h : RsAt w W p v m inp l s xs A n c) (t1 : Touch (blk (.slice A n c)) W W1) : W1.cell? ⟨w.heap.size, 0, none⟩ = some (.slice A n c) ∧ W1.frozen? ⟨w.heap.size, 0, none⟩ = false ∧ W1.cell? ⟨v, 0, none⟩ = some (.pointer (some ⟨p, 0, none⟩)) := by
 have ho := h.ord
 have h1 := h.lines.touch t1 (fun hm => by have := h.far _ hm; omega)
 have h2 := h.var.touch t1 (fun hm => by have := h.far _ hm; omega)
 exact ⟨(h1.cell 0).trans rfl, h1.frozen 0, (h2.cell 0).trans rfl⟩
theorem RsAt.grow {W1 : World} {xs' : List (List UInt8)} {A' : Option Addr} {n' c' : Nat} (h : RsAt w W p v m inp l s xs A n c) (ho : Own W1 9 1 (.slice A' n' c') n' (xs'.map str)) (t1 : Touch (blk (.slice A n c)) W W1) (hf : From W (.slice A n c) (.slice A' n' c')) :
  RsAt w (W1.setCell ⟨w.heap.size, 0, none⟩ (.slice A' n' c')) p v m inp l s xs' A' n' c' := by
 have hd := h.ord
 have hB : ∀ g, g < m → g ∉ blk (.slice A n c) := fun g hg hm => by have := h.far g hm; omega
 have tz : Touch [w.heap.size] W1 (W1.setCell ⟨w.heap.size, 0, none⟩ (.slice A' n' c')) := (Touch.refl _ _).setCell (.inl (by simp)) _
 have hfar : ∀ g ∈ blk (.slice A' n' c'), m ≤ g := fun g hg => by
  rcases hf g hg with h1 | h1
  ·exact h.far g h1
  ·omega
 have hr1 := h.rd.touch t1 (hB _ (by omega)) (fun b hb => hB _ (h.inl b hb).2)
 refine ⟨hr1.touch tz (by simp; omega) (fun b hb => by have := h.inl b hb; simp; omega), ?_, (h.code.touch t1 (hB _ (by omega))).touch tz (by simp), (h.var.touch t1 (hB _ (by omega))).touch tz (by simp; omega), ho.touch tz (fun b hb => by have := hfar b hb; simp; omega), hfar, h.inl, ⟨hd.1, hd.2.1, hd.2.2.1, Nat.le_trans hd.2.2.2 (Nat.le_trans t1.size tz.size)⟩, (h.t.step t1 (fun g hg => .inr (by have := h.far g hg; omega))).step tz (fun g hg => .inr (by simp at hg; omega))⟩
 have := (h.lines.touch t1 (hB _ (by omega))).set_ 0 (.slice A' n' c')
 exact this
theorem RsAt.first (h : RsAt w W p v m inp l s [] none 0 0) (y : List UInt8) : RsAt w ((W.setCell ⟨w.heap.size, 0, none⟩ (.slice (some ⟨W.heap.size, 0, none⟩) 1 1)).alloc (.cells #[.string ⟨y.toArray⟩] 9)) p v m inp l s [y] (some ⟨W.heap.size, 0, none⟩) 1 1 := by
 have hd := h.ord
 have t1 : Touch [w.heap.size] W (W.setCell ⟨w.heap.size, 0, none⟩ (.slice (some ⟨W.heap.size, 0, none⟩) 1 1)) := (Touch.refl _ _).setCell (.inl (by simp)) _
 have t2 := t1.alloc (.cells #[.string ⟨y.toArray⟩] 9)
 refine ⟨h.rd.touch t2 (by simp; omega) (fun b hb => by have := h.inl b hb; simp; omega), ?_, h.code.touch t2 (by simp), h.var.touch t2 (by simp; omega), ?_, ?_, h.inl, ⟨hd.1, hd.2.1, hd.2.2.1, Nat.le_trans hd.2.2.2 t2.size⟩, h.t.step t2 (fun g hg => .inr (by simp at hg; omega))⟩
 ·have := (h.lines.set_ 0 (.slice (some ⟨W.heap.size, 0, none⟩) 1 1)).alloc (.cells #[.string ⟨y.toArray⟩] 9)
  exact this
 ·exact ownLit _ _ (by simp [World.setCell]) 9 1 1 [.string ⟨y.toArray⟩] rfl (by simp [maxLen])
 ·intro g hg
  simp [blk] at hg
  omega
theorem RsAt.fail {W' : World} (h : RsAt w W p v m inp l s xs A n c) (t : Touch [p] W W') : ∃ x, Blk W' w.heap.size 39 #[x] ∧ Blk W' (w.heap.size + 1) 23 #[.int .i64 0] ∧
  ((W'.setCell ⟨w.heap.size, 0, none⟩ (.slice none 0 0)).setCell ⟨w.heap.size + 1, 0, none⟩ (.int .i64 6)).cell? ⟨w.heap.size, 0, none⟩ = some (.slice none 0 0) ∧
  ((W'.setCell ⟨w.heap.size, 0, none⟩ (.slice none 0 0)).setCell ⟨w.heap.size + 1, 0, none⟩ (.int .i64 6)).cell? ⟨w.heap.size + 1, 0, none⟩ = some (.int .i64 6) ∧
  Touch [] w ((W'.setCell ⟨w.heap.size, 0, none⟩ (.slice none 0 0)).setCell ⟨w.heap.size + 1, 0, none⟩ (.int .i64 6)) := by
 have hd := h.ord
 have h1 := h.lines.touch t (by simp; omega)
 have h2 := h.code.touch t (by simp; omega)
 have k1 := (h1.set_ 0 (.slice none 0 0)).far (p := ⟨w.heap.size + 1, 0, none⟩) (by show w.heap.size ≠ w.heap.size + 1; omega) (.int .i64 6)
 have k2 := (h2.far (p := ⟨w.heap.size, 0, none⟩) (by show w.heap.size + 1 ≠ w.heap.size; omega) (.slice none 0 0)).set_ 0 (.int .i64 6)
 refine ⟨_, h1, h2, (k1.cell 0).trans rfl, (k2.cell 0).trans rfl, ?_⟩
 refine (h.t.step t (fun g hg => .inr (by simp at hg; omega))).step (((Touch.refl [w.heap.size, w.heap.size + 1] W').setCell (.inl (by simp)) _).setCell (.inl (by simp)) _) (fun g hg => .inr ?_)
 simp at hg
 omega
end
theorem rec_caught (L C : Nat) (x : Value) (w : World) (hl : Blk w L 39 #[x]) (hc : Blk w C 23 #[.int .i64 0]) (hlc : L ≠ C) : CallsD Tryz.prog 38 #[.pointer (some ⟨L, 0, none⟩), .pointer (some ⟨C, 0, none⟩)] (.panicking [{ v := .iface 138 (.agg #[]), recovered := false }]) w fun e u' w' => e = .returned (.tuple #[]) ∧ u' = .panicking [{ v := .iface 138 (.agg #[]), recovered := true }] ∧ w' = (w.setCell ⟨L, 0, none⟩ (.slice none 0 0)).setCell ⟨C, 0, none⟩ (.int .i64 6) := by
 have q0 : w.cell? ⟨L, 0, none⟩ = some x := (hl.cell 0).trans rfl
 have q1 : w.frozen? ⟨L, 0, none⟩ = false := hl.frozen 0
 have hc2 := hc.far (p := ⟨L, 0, none⟩) (fun e => hlc e.symm) (.slice none 0 0)
 have q2 : (w.setCell ⟨L, 0, none⟩ (.slice none 0 0)).cell? ⟨C, 0, none⟩ = some (.int .i64 0) := (hc2.cell 0).trans rfl
 have q3 : (w.setCell ⟨L, 0, none⟩ (.slice none 0 0)).frozen? ⟨C, 0, none⟩ = false := hc2.frozen 0
 refine callsD_of_wpS Tryz.func38 rfl fun c₀ cs hu => ?_
 simp only [Tryz.ntmps38, List.size_toArray, List.length_cons, List.length_nil, Nat.reduceAdd, Nat.reduceSub, Array.replicate_succ, Array.replicate_zero, List.push_toArray, List.append_toArray, List.nil_append, List.cons_append]
 apply wpS_seq
 apply wpS_region
 simp [wpOpsS, go_sem, recoverD, hu, Exit.thenS]
 refine wpS_of_wp ?_
 go_wp2_with fail
 cases c₀
 simp_all [bodyPostS, results, Tryz.results38]
theorem rec_none (L C : Nat) (w : World) : CallsD Tryz.prog 38 #[.pointer (some ⟨L, 0, none⟩), .pointer (some ⟨C, 0, none⟩)] .returning w fun e u' w' => e = .returned (.tuple #[]) ∧ u' = .returning ∧ w' = w := by
 refine callsD_of_wpS Tryz.func38 rfl fun c₀ cs hu => ?_
 simp only [Tryz.ntmps38, List.size_toArray, List.length_cons, List.length_nil, Nat.reduceAdd, Nat.reduceSub, Array.replicate_succ, Array.replicate_zero, List.push_toArray, List.append_toArray, List.nil_append, List.cons_append]
 apply wpS_seq
 apply wpS_region
 simp [wpOpsS, go_sem, recoverD, hu, Exit.thenS]
 refine wpS_of_wp ?_
 go_wp2
 cases c₀
 simp_all [bodyPostS, results, Tryz.results38]
theorem RsAt.last {w W : World} {p v m : Nat} {inp : Value} {l : List UInt8} {s : Int × Nat} {xs : List (List UInt8)} {A : Option Addr} {n c : Nat} (h : RsAt w W p v m inp l s xs A n c) :
  ((W.setCell ⟨w.heap.size, 0, none⟩ (.slice A n c)).setCell ⟨w.heap.size + 1, 0, none⟩ (.int .i64 0)).cell? ⟨w.heap.size, 0, none⟩ = some (.slice A n c) ∧
  ((W.setCell ⟨w.heap.size, 0, none⟩ (.slice A n c)).setCell ⟨w.heap.size + 1, 0, none⟩ (.int .i64 0)).cell? ⟨w.heap.size + 1, 0, none⟩ = some (.int .i64 0) ∧
  Own ((W.setCell ⟨w.heap.size, 0, none⟩ (.slice A n c)).setCell ⟨w.heap.size + 1, 0, none⟩ (.int .i64 0)) 9 1 (.slice A n c) n (xs.map str) ∧
  Touch [] w ((W.setCell ⟨w.heap.size, 0, none⟩ (.slice A n c)).setCell ⟨w.heap.size + 1, 0, none⟩ (.int .i64 0)) := by
 have hd := h.ord
 have k1 := (h.lines.set_ 0 (.slice A n c)).far (p := ⟨w.heap.size + 1, 0, none⟩) (by show w.heap.size ≠ w.heap.size + 1; omega) (.int .i64 0)
 have k2 := (h.code.far (p := ⟨w.heap.size, 0, none⟩) (by show w.heap.size + 1 ≠ w.heap.size; omega) (.slice A n c)).set_ 0 (.int .i64 0)
 have tz : Touch [w.heap.size, w.heap.size + 1] W ((W.setCell ⟨w.heap.size, 0, none⟩ (.slice A n c)).setCell ⟨w.heap.size + 1, 0, none⟩ (.int .i64 0)) := ((Touch.refl _ W).setCell (.inl (by simp)) _).setCell (.inl (by simp)) _
 refine ⟨(k1.cell 0).trans rfl, (k2.cell 0).trans rfl, h.own.touch tz (fun b hb => by have := h.far b hb; simp; omega), h.t.step tz (fun g hg => .inr (by simp at hg; omega))⟩
theorem leaves_congr {P : Program} {fn : Func} {t t' : Array Value} {R : Ending → World → Prop} (h : results fn t = results fn t') : ∀ (ds : List Deferred) (u : FrameMode) (w : World), Leaves P fn t R ds u w → Leaves P fn t' R ds u w
 | [], .returning, w, hl => by unfold Leaves at hl ⊢; rw [← h]; exact hl
 | [], .panicking _, w, hl => hl
 | [], .run, w, hl => hl
 | d :: ds, u, w, ⟨h1, fv, cap, f, args, h2, h3, h4⟩ => ⟨h1, fv, cap, f, args, h2, h3, h4.mono fun e u' w' hl => by
   cases e with
   | returned x => exact leaves_congr h ds _ _ hl
   | panicked x => exact leaves_congr h ds _ _ hl
   | outgrown => exact hl⟩
theorem put_getD {d : Option Tmp} {x : Value} {a : Act} {i : Nat} (h : d ≠ some i) : (a.put d x).tmps[i]?.getD undef = a.tmps[i]?.getD undef := by
 cases d with
 | none => rfl
 | some k =>
  have hk : k ≠ i := fun e => h (by rw [e])
  unfold Act.put
  simp [hk]
theorem leaves_put {d : Option Tmp} {x : Value} {a : Act} {R : Ending → World → Prop} {u : FrameMode} {w : World} (h2 : d ≠ some 2) (h3 : d ≠ some 3) (h : Leaves Tryz.prog Tryz.f15 (a.put d x).tmps R (a.put d x).defers u w) : Leaves Tryz.prog Tryz.f15 a.tmps R a.defers u w := by
 have e : results Tryz.f15 (a.put d x).tmps = results Tryz.f15 a.tmps := by
  unfold results
  rw [Tryz.results15]
  simp [put_getD h2, put_getD h3]
 have hd : (a.put d x).defers = a.defers := by cases d <;> rfl
 rw [hd] at h
 exact leaves_congr e _ _ _ h
end Go.Proofs.YtedpaajpfaoffaaGreatDoor
