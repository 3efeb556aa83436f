/- bandplanref52.events. -/
import Derived.Test.YtedpaajpfaoffaaGreatDoorSdA
import Derived.Deep.RegionHeld3
set_option linter.all false
set_option maxHeartbeats 8000000
set_option maxRecDepth 100000
namespace Go.Proofs.YtedpaajpfaoffaaGreatDoor
open Go.RowKit
theorem read_ok {α : Type} {z : α} {f : Nat → Except Int (α × Nat)} {e : Int} {a : Nat} {v : α} {b : Nat} (h : rRead z f (e, a) = (v, (0, b))) : e = 0 := by
 unfold rRead at h
 split at h
 ·rename_i h0; exact h0
 ·rename_i h0
  injection h with _ h
  injection h
theorem limO_of {l : List UInt8} {low lim : Int} {s : Int × Nat} {v : Int} {b : Nat} (h : rRead 0 (pUint l) s = (v, (0, b))) (h1 : low ≤ v) (h2 : v ≤ lim) : limO l low lim s = some (v, b) := by
 cases hx : limO l low lim s with
 | some x =>
  obtain ⟨h3, -⟩ := limO_some hx
  rw [h] at h3
  injection h3 with h3 h4
  injection h4 with _ h4
  rw [h3, h4]
 | none =>
  have := limO_none hx
  rw [h] at this
  exact absurd ⟨rfl, h1, h2⟩ this
theorem rUint_in {l : List UInt8} {s : Int × Nat} {v : Int} {t : Int × Nat} (h : rRead 0 (pUint l) s = (v, t)) : 0 ≤ v ∧ v ≤ 9223372036854775807 := by
 unfold rRead at h
 split at h
 ·cases hp : pUint l s.2 with
  | error k =>
   rw [hp] at h
   injection h with h1 _
   omega
  | ok x =>
   rw [hp] at h
   have := pUint_in hp
   injection h with h1 _
   rw [← h1]
   exact ⟨this.1, this.2.1⟩
 ·injection h with h1 _
  omega
theorem count_lim {l : List UInt8} {lim : Int} {a : Nat} (h0 : 0 ≤ lim) : (∀ x, limO l 0 lim (0, a) = some x → pCount l lim a = .ok x) ∧ (limO l 0 lim (0, a) = none → ∃ k, pCount l lim a = .error k) := by
 unfold limO pCount pUint
 simp only [if_true]
 cases hg : pGroup l 9 0 0 a with
 | error k => exact ⟨fun x h => (by cases h), fun _ => ⟨k, rfl⟩⟩
 | ok y =>
  simp only [Except.map]
  by_cases hl : (y.1 : Int) ≤ lim
  ·have e1 : (if (0 : Int) ≤ (y.1 : Int) ∧ (y.1 : Int) ≤ lim then some ((y.1 : Int), y.2) else none) = some ((y.1 : Int), y.2) := if_pos ⟨by omega, hl⟩
   rw [e1, if_neg (show ¬ lim < 0 by omega), if_neg (show ¬ lim < (y.1 : Int) by omega)]
   exact ⟨fun x h => (by cases h; rfl), fun h => (by cases h)⟩
  ·have e1 : (if (0 : Int) ≤ (y.1 : Int) ∧ (y.1 : Int) ≤ lim then some ((y.1 : Int), y.2) else none) = none := if_neg (fun h => hl h.2)
   rw [e1, if_neg (show ¬ lim < 0 by omega), if_pos (show lim < (y.1 : Int) by omega)]
   exact ⟨fun x h => (by cases h), fun _ => ⟨_, rfl⟩⟩
theorem maxI_eq : maxI = 9223372036854775807 := rfl
theorem evStep_some {l : List UInt8} {acc : List (List UInt8)} {a : Nat} {sv kv ov pv se ke oe : Int} {sa ka oa pa : Nat} (hs : rRead 0 (pUint l) (0, a) = (sv, (se, sa))) (hk : rRead 0 (pUint l) (se, sa) = (kv, (ke, ka))) (ho : rRead 0 (pUint l) (ke, ka) = (ov, (oe, oa))) (hp : rRead 0 (pUint l) (oe, oa) = (pv, (0, pa)))
  (h1 : 1 ≤ kv) (h2 : kv ≤ 4) (h3 : ov ≤ 3) : evStep l acc a = some (acc ++ [evLine sv kv ov pv], pa) := by
 obtain rfl := read_ok hp
 obtain rfl := read_ok ho
 obtain rfl := read_ok hk
 have b1 := rUint_in hs
 have b2 := rUint_in ho
 have b3 := rUint_in hp
 unfold evStep
 rw [limO_of hs b1.1 (by rw [maxI_eq]; exact b1.2)]
 simp only [Option.bind_some]
 rw [limO_of hk h1 h2]
 simp only [Option.bind_some]
 rw [limO_of ho b2.1 h3]
 simp only [Option.bind_some]
 rw [limO_of hp b3.1 (by rw [maxI_eq]; exact b3.2)]
 rfl
theorem evStep_none {l : List UInt8} {acc : List (List UInt8)} {a : Nat} {sv kv ov pv se ke oe pe : Int} {sa ka oa pa : Nat} (hs : rRead 0 (pUint l) (0, a) = (sv, (se, sa))) (hk : rRead 0 (pUint l) (se, sa) = (kv, (ke, ka))) (ho : rRead 0 (pUint l) (ke, ka) = (ov, (oe, oa))) (hp : rRead 0 (pUint l) (oe, oa) = (pv, (pe, pa)))
  (hb : ¬ (pe = 0 ∧ 1 ≤ kv ∧ kv ≤ 4 ∧ ov ≤ 3)) : evStep l acc a = none := by
 unfold evStep
 cases h1 : limO l 0 maxI (0, a) with
 | none => rfl
 | some x =>
  obtain ⟨e1, -⟩ := limO_some h1
  rw [hs] at e1
  injection e1 with e1 e2
  injection e2 with e2 e3
  subst e2 e3
  simp only [Option.bind_some]
  cases h2 : limO l 1 4 (0, x.2) with
  | none => rfl
  | some y =>
   obtain ⟨e1, y1, y2, -⟩ := limO_some h2
   rw [hk] at e1
   injection e1 with e1 e2
   injection e2 with e2 e3
   subst e2 e3
   simp only [Option.bind_some]
   cases h3 : limO l 0 3 (0, y.2) with
   | none => rfl
   | some z =>
    obtain ⟨e4, z1, z2, -⟩ := limO_some h3
    rw [ho] at e4
    injection e4 with e4 e2
    injection e2 with e2 e3
    subst e2 e3
    simp only [Option.bind_some]
    cases h4 : limO l 0 maxI (0, z.2) with
    | none => rfl
    | some u =>
     obtain ⟨e5, -⟩ := limO_some h4
     rw [hp] at e5
     injection e5 with e5 e2
     injection e2 with e2 e3
     exact absurd ⟨e2, by omega, by omega, by omega⟩ hb
theorem Blk.put2 {w : World} {g : Nat} {t : TypeId} {x0 x1 : Value} (h : Blk w g t #[x0, x1]) (u0 u1 : Value) : Blk ((w.setCell ⟨g, 0, none⟩ u0).setCell ⟨g, 1, none⟩ u1) g t #[u0, u1] ∧ Touch [g] w ((w.setCell ⟨g, 0, none⟩ u0).setCell ⟨g, 1, none⟩ u1) := by
 refine ⟨?_, ((Touch.refl _ _).setCell (.inl (by simp)) _).setCell (.inl (by simp)) _⟩
 have := (h.set_ 0 u0).set_ 1 u1
 exact this
def Ev41 (bd : Nat) (l : List UInt8) (o : Option (List (List UInt8) × Nat)) (w : World) (r : Ending) (w' : World) : Prop := ∃ u v, r = .returned (.tuple #[u, v]) ∧ Touch [] w w' ∧ match o with
 | some x => OwnS w' u x.1 ∧ (∀ b ∈ blk u, bd ≤ b) ∧ RS w' bd l v (0, x.2)
 | none => ∃ e a, e ≠ 0 ∧ RS w' bd l v (e, a)
theorem RS.form {w : World} {bd : Nat} {l : List UInt8} {v : Value} {s : Int × Nat} (h : RS w bd l v s) : ∃ A n c, v = .agg #[.slice A n c, .int .i64 s.1] := by
 obtain ⟨A, n, c, e, -⟩ := h
 exact ⟨A, n, c, e⟩
def RC (W : World) (bd g : Nat) (l : List UInt8) (s : Int × Nat) : Prop := ∃ A n c, Blk W g 83 #[.slice A n c, .int .i64 s.1] ∧ RS W bd l (.agg #[.slice A n c, .int .i64 s.1]) s
theorem RS.touch {w w' : World} {bd : Nat} {l : List UInt8} {A : Option Addr} {n c : Nat} {e : Int} {s : Int × Nat} {g : Nat} {t : TypeId} {cs : Array Value} (h : RS w bd l (.agg #[.slice A n c, .int .i64 e]) s) (ht : Touch [g] w w') (hb : Blk w g t cs) (hc : ∀ (i : Nat) (z : Int), cs[i]? ≠ some (Value.int .u8 z)) : RS w' bd l (.agg #[.slice A n c, .int .i64 e]) s := by
 obtain ⟨A', n', c', e1, h1⟩ := h
 have e2 : Value.slice A n c = .slice A' n' c' ∧ e = s.1 := by simpa using e1
 refine ⟨A', n', c', e1, fun h0 => ⟨Reads.touch (h1 h0).1 ht (fun b hb' hm => ?_), (h1 h0).2⟩⟩
 rw [List.mem_singleton] at hm
 exact Bytes.far (h1 h0).1 hb hc b hb' hm
theorem RC.put {w w1 : World} {bd g : Nat} {l : List UInt8} {s s' : Int × Nat} {A : Option Addr} {n c : Nat} (h : RC w bd g l s) (ht : Touch [] w w1) (hr : RS w1 bd l (.agg #[.slice A n c, .int .i64 s'.1]) s') :
  RC ((w1.setCell ⟨g, 0, none⟩ (.slice A n c)).setCell ⟨g, 1, none⟩ (.int .i64 s'.1)) bd g l s' ∧ Touch [g] w ((w1.setCell ⟨g, 0, none⟩ (.slice A n c)).setCell ⟨g, 1, none⟩ (.int .i64 s'.1)) ∧ RS ((w1.setCell ⟨g, 0, none⟩ (.slice A n c)).setCell ⟨g, 1, none⟩ (.int .i64 s'.1)) bd l (.agg #[.slice A n c, .int .i64 s'.1]) s' := by
 obtain ⟨A0, n0, c0, hb, -⟩ := h
 have hb1 := hb.touch ht (by simp)
 obtain ⟨k1, k2⟩ := hb1.put2 (.slice A n c) (.int .i64 s'.1)
 exact ⟨⟨A, n, c, k1, hr.touch k2 hb1 rd_cells⟩, (ht.mono (by simp)).trans k2, hr.touch k2 hb1 rd_cells⟩
theorem RC.cells {w : World} {bd g : Nat} {l : List UInt8} {s : Int × Nat} (h : RC w bd g l s) : ∃ A n c, RS w bd l (.agg #[.slice A n c, .int .i64 s.1]) s ∧ (w.cell? ⟨g, 0, none⟩ = some (.slice A n c) ∧ w.cell? ⟨g, 1, none⟩ = some (.int .i64 s.1) ∧ w.frozen? ⟨g, 0, none⟩ = false ∧ w.frozen? ⟨g, 1, none⟩ = false) := by
 obtain ⟨A, n, c, hb, hr⟩ := h
 exact ⟨A, n, c, hr, hb.two⟩
theorem RC.touchL {w w' : World} {bd g : Nat} {l : List UInt8} {s : Int × Nat} {L : List Nat} (h : RC w bd g l s) (t : Touch L w w') (hg : g ∉ L) (hL : ∀ b ∈ L, bd ≤ b) : RC w' bd g l s := by
 obtain ⟨A, n, c, hb, A', n', c', e1, h1⟩ := h
 have e2 : Value.slice A n c = .slice A' n' c' := by simpa using e1
 refine ⟨A, n, c, hb.touch t hg, A', n', c', e1, fun h0 => ⟨Reads.touch (h1 h0).1 t (fun b hb' hm => ?_), (h1 h0).2⟩⟩
 have k1 := (h1 h0).2.2 b hb'
 have k2 := hL b hm
 omega
theorem RC.touch0 {w w' : World} {bd g : Nat} {l : List UInt8} {s : Int × Nat} (h : RC w bd g l s) (t : Touch [] w w') : RC w' bd g l s := by
 obtain ⟨A, n, c, hb, hr⟩ := h
 exact ⟨A, n, c, hb.touch t (by simp), hr.touch0 t⟩
theorem RC.lt {w : World} {bd g : Nat} {l : List UInt8} {s : Int × Nat} (h : RC w bd g l s) : g < w.heap.size := by
 obtain ⟨A, n, c, hb, -⟩ := h
 exact hb.lt
theorem RC.far {w : World} {bd g : Nat} {l : List UInt8} {s : Int × Nat} {v : Value} {n : Nat} {xs : List Value} (h : RC w bd g l s) (ho : Own w 9 1 v n xs) : g ∉ blk v := by
 obtain ⟨A, n, c, hb, -⟩ := h
 exact Own.ne_blk ho hb (of_decide_eq_true (by kernel_rfl))
theorem RC.new {w : World} {bd : Nat} {l : List UInt8} {s : Int × Nat} {A : Option Addr} {n c : Nat} (hr : RS w bd l (.agg #[.slice A n c, .int .i64 s.1]) s) : RC (w.alloc (.cells #[.slice A n c, .int .i64 s.1] 83)) bd w.heap.size l s := ⟨A, n, c, Blk.new _ _ _, hr.touch0 ((Touch.refl _ _).alloc _)⟩
theorem tx32 : ByteArray.mk #[32] = ByteArray.mk [32].toArray := rfl
def EvRel41 (w2 : World) (bd g : Nat) (l : List UInt8) (N : Nat) (res : Option (List (List UInt8) × Nat)) (tq ti : Value) (wr : World) : Prop :=
 ∃ (i : Nat) (acc : List (List UInt8)) (s : Int × Nat), i ≤ N ∧ ti = .int .i64 i ∧ acc.length = i ∧ OwnS wr tq acc ∧ (∀ b ∈ blk tq, w2.heap.size ≤ b) ∧ RC wr bd g l s ∧ Touch [g] w2 wr ∧ Hid (s.1 ≠ 0 → N = 0 ∧ res = none) ∧ Hid (s.1 = 0 → res = rowsB (evStep l) acc (N - i) s.2)
theorem refEvents_any (bd : Nat) (l : List UInt8) (v : Value) (a : Nat) (w : World) (h : RS w bd l v (0, a)) (hbd : bd ≤ w.heap.size) (hl : l.length ≤ 100000) : Calls Tryz.prog 52 #[v] w (Ev41 bd l (evL l a) w) := by
 obtain ⟨A, n, c, rfl⟩ := h.form
 have hS : ∃ (N : Nat) (s0 : Int × Nat), rRead 0 (pCount l 512) (0, a) = ((N : Int), s0) ∧ N ≤ 512 ∧ (s0.1 ≠ 0 → N = 0 ∧ evL l a = none) ∧ (s0.1 = 0 → evL l a = rowsB (evStep l) [] N s0.2) := by
  obtain ⟨h1, h2⟩ := count_lim (l := l) (lim := 512) (a := a) (by omega)
  unfold rRead evL
  simp only [if_true]
  cases hx : limO l 0 512 (0, a) with
  | none =>
   obtain ⟨k, hk⟩ := h2 hx
   rw [hk]
   exact ⟨0, (k, a), rfl, by omega, fun _ => ⟨rfl, rfl⟩, fun h => absurd h (pCount_err hk)⟩
  | some x =>
   obtain ⟨x, b⟩ := x
   obtain ⟨-, x0, x1, -⟩ := limO_some hx
   simp only at x0 x1
   rw [h1 _ hx]
   exact ⟨x.toNat, (0, b), by rw [Int.toNat_of_nonneg x0], by omega, fun h => absurd rfl h, fun _ => rfl⟩
 generalize evL l a = res at *
 obtain ⟨N, s0, e1, hN, hbad, hgood⟩ := hS
 obtain ⟨ht0, hcc⟩ := boxr w (.slice A n c) 0
 unfold WR at ht0 hcc
 have HC := Lib.hid hcc
 obtain ⟨q0, q1, -⟩ := (hcc _ (Touch.refl _ _)).1.two
 have HU := Lib.hid (fun W (t : Touch [] w W) => count41_any bd l (.agg #[.slice A n c, .int .i64 0]) (0, a) 512 W (h.touch0 t) hl)
 have HUI := Lib.hid (fun (u : Value) (s : Int × Nat) W (hr : RS W bd l u s) => uint41_any bd l u s W hr hl)
 rw [e1] at HU
 have HBAD := Lib.hid hbad
 have HGOOD := Lib.hid hgood
 clear hbad hgood hcc h e1
 go_enter Tryz.func52, Tryz.ntmps52
 go_wp2_with fail
 generalize ((w.alloc (.cells #[.slice A n c, .int .i64 0] 83)).alloc (.cells #[.slice none 0 0, .int .i64 0] 83)) = w0 at *
 have HT0 := Lib.hid ht0
 clear ht0 q0 q1
 refine (HU.out w0 HT0.out).mono ?_
 rintro r w1 ⟨u, v1, rfl, rfl, hr1, ht1⟩
 obtain ⟨A1, n1, c1, rfl⟩ := hr1.form
 dsimp only at hr1 ⊢
 unfold iv
 go_wp2_with fail
 have hrc := RC.new hr1
 have HT1 : Hid (Touch [] w (w1.alloc (.cells #[.slice A1 n1 c1, .int .i64 s0.1] 83))) := Lib.hid ((HT0.out.then0 ht1).alloc _)
 have HG3 : Hid (Blk (w1.alloc (.cells #[.slice A1 n1 c1, .int .i64 s0.1] 83)) (w.heap.size + 1) 83 #[.slice none 0 0, .int .i64 0]) := Lib.hid (((HC.out _ ht1).2).alloc _)
 have hg : w.heap.size + 1 < w1.heap.size := (HC.out _ ht1).2.lt
 generalize (w1.alloc (.cells #[.slice A1 n1 c1, .int .i64 s0.1] 83)) = w2 at *
 generalize w1.heap.size = g at *
 clear ht1 hr1
 have hst : EvRel41 w2 bd g l N res (.slice none 0 0) (.int .i64 0) w2 := ⟨0, [], s0, by omega, rfl, rfl, OwnS.nil _, (fun b hb => by cases hb), hrc, Touch.refl _ _, HBAD, Lib.hid (by simpa using HGOOD.out)⟩
 clear hrc
 go_loopw [6, 7] (fun tq ti wr => EvRel41 w2 bd g l N res tq ti wr) (fun _ ti _ => N - (intOf ti).toNat)
 case atStart => exact hst
 case round =>
  clear hst
  obtain ⟨i, acc, s, hi, rfl, hal, ho, hf, hrc, ht, HB1, HG1⟩ := hrel
  obtain ⟨Aq, cq, rfl⟩ := ho.form
  have HAL := Lib.hid hal
  have HF := Lib.hid hf
  clear hal hf
  by_cases hlt : i < N
  ·have hlt' : (i : Int) < (N : Int) := by omega
   have hs0 : s.1 = 0 := by
    by_cases h0 : s.1 = 0
    ·exact h0
    ·have := (HB1.out h0).1; omega
   obtain ⟨e, a2⟩ := s
   obtain rfl : e = 0 := hs0
   have HS1 : Hid (res = (evStep l acc a2).bind fun x => rowsB (evStep l) x.1 (N - (i + 1)) x.2) := Lib.hid (by rw [HG1.out rfl, show N - i = (N - (i + 1)) + 1 by omega]; rfl)
   clear HB1 HG1
   generalize hR1 : rRead 0 (pUint l) (0, a2) = x1
   obtain ⟨sv, se, sa⟩ := x1
   generalize hR2 : rRead 0 (pUint l) (se, sa) = x2
   obtain ⟨kv, ke, ka⟩ := x2
   generalize hR3 : rRead 0 (pUint l) (ke, ka) = x3
   obtain ⟨ov, oe, oa⟩ := x3
   generalize hR4 : rRead 0 (pUint l) (oe, oa) = x4
   obtain ⟨pv, pe, pa⟩ := x4
   have HR1 := Lib.hid hR1
   have HR2 := Lib.hid hR2
   have HR3 := Lib.hid hR3
   have HR4 := Lib.hid hR4
   clear hR1 hR2 hR3 hR4
   have HO := Lib.hid ho
   have HTR := Lib.hid ht
   clear ho ht
   obtain ⟨A0, n0, c0, hr0, q0, q1, f0, f1⟩ := hrc.cells
   have HRC := Lib.hid hrc
   clear hrc
   dsimp only at hr0 q0 q1
   go_wp2_with fail
   refine (HUI.out _ (0, a2) _ hr0).mono ?_
   clear q0 q1 f0 f1 hr0
   rintro r w5 ⟨u, v5, rfl, rfl, hr5, ht5⟩
   rw [HR1.out] at hr5 ⊢
   obtain ⟨A5, n5, c5, rfl⟩ := hr5.form
   dsimp only at hr5 ⊢
   unfold iv
   obtain ⟨A0, n0, c0, -, q0, q1, f0, f1⟩ := (HRC.out.touch0 ht5).cells
   obtain ⟨hrc, htk, hr9⟩ := HRC.out.put (s' := (se, sa)) ht5 hr5
   have HO2 := Lib.hid (HO.out.touch htk (fun b hb hm => by rw [List.mem_singleton] at hm; subst hm; exact HRC.out.far HO.out hb))
   have HTR2 := Lib.hid (HTR.out.trans htk)
   clear HRC HO HTR hr5 htk ht5
   have HO := HO2
   have HTR := HTR2
   clear HO2 HTR2
   dsimp only at hrc hr9
   go_wp2_with fail
   have HRC := Lib.hid hrc
   have hr0 := hr9
   clear hrc hr9
   generalize World.setCell (World.setCell w5 ⟨g, 0, none⟩ _) ⟨g, 1, none⟩ _ = w6 at *
   clear q0 q1 f0 f1
   refine (HUI.out _ (se, sa) _ hr0).mono ?_
   clear hr0
   rintro r w5 ⟨u, v5, rfl, rfl, hr5, ht5⟩
   rw [HR2.out] at hr5 ⊢
   obtain ⟨A5, n5, c5, rfl⟩ := hr5.form
   dsimp only at hr5 ⊢
   unfold iv
   obtain ⟨A0, n0, c0, -, q0, q1, f0, f1⟩ := (HRC.out.touch0 ht5).cells
   obtain ⟨hrc, htk, hr9⟩ := HRC.out.put (s' := (ke, ka)) ht5 hr5
   have HO2 := Lib.hid (HO.out.touch htk (fun b hb hm => by rw [List.mem_singleton] at hm; subst hm; exact HRC.out.far HO.out hb))
   have HTR2 := Lib.hid (HTR.out.trans htk)
   clear HRC HO HTR hr5 htk ht5
   have HO := HO2
   have HTR := HTR2
   clear HO2 HTR2
   dsimp only at hrc hr9
   go_wp2_with fail
   have HRC := Lib.hid hrc
   have hr0 := hr9
   clear hrc hr9
   generalize World.setCell (World.setCell w5 ⟨g, 0, none⟩ _) ⟨g, 1, none⟩ _ = w6 at *
   clear q0 q1 f0 f1
   refine (HUI.out _ (ke, ka) _ hr0).mono ?_
   clear hr0
   rintro r w5 ⟨u, v5, rfl, rfl, hr5, ht5⟩
   rw [HR3.out] at hr5 ⊢
   obtain ⟨A5, n5, c5, rfl⟩ := hr5.form
   dsimp only at hr5 ⊢
   unfold iv
   obtain ⟨A0, n0, c0, -, q0, q1, f0, f1⟩ := (HRC.out.touch0 ht5).cells
   obtain ⟨hrc, htk, hr9⟩ := HRC.out.put (s' := (oe, oa)) ht5 hr5
   have HO2 := Lib.hid (HO.out.touch htk (fun b hb hm => by rw [List.mem_singleton] at hm; subst hm; exact HRC.out.far HO.out hb))
   have HTR2 := Lib.hid (HTR.out.trans htk)
   clear HRC HO HTR hr5 htk ht5
   have HO := HO2
   have HTR := HTR2
   clear HO2 HTR2
   dsimp only at hrc hr9
   go_wp2_with fail
   have HRC := Lib.hid hrc
   have hr0 := hr9
   clear hrc hr9
   generalize World.setCell (World.setCell w5 ⟨g, 0, none⟩ _) ⟨g, 1, none⟩ _ = w6 at *
   clear q0 q1 f0 f1
   refine (HUI.out _ (oe, oa) _ hr0).mono ?_
   clear hr0
   rintro r w5 ⟨u, v5, rfl, rfl, hr5, ht5⟩
   rw [HR4.out] at hr5 ⊢
   obtain ⟨A5, n5, c5, rfl⟩ := hr5.form
   dsimp only at hr5 ⊢
   unfold iv
   obtain ⟨A0, n0, c0, -, q0, q1, f0, f1⟩ := (HRC.out.touch0 ht5).cells
   obtain ⟨hrc, htk, hr9⟩ := HRC.out.put (s' := (pe, pa)) ht5 hr5
   have HO2 := Lib.hid (HO.out.touch htk (fun b hb hm => by rw [List.mem_singleton] at hm; subst hm; exact HRC.out.far HO.out hb))
   have HTR2 := Lib.hid (HTR.out.trans htk)
   have HG5 := Lib.hid (HG3.out.touch (HTR.out.then0 ht5) (by simp; omega))
   obtain ⟨p0, p1, pf0, pf1⟩ := HG5.out.two
   clear HRC HO HTR hr5 htk ht5
   have HO := HO2
   have HTR := HTR2
   clear HO2 HTR2
   dsimp only at hrc hr9
   by_cases hok : pe = 0 ∧ 1 ≤ kv ∧ kv ≤ 4 ∧ ov ≤ 3
   ·obtain ⟨rfl, hk1, hk2, ho3⟩ := hok
    have b1 := rUint_in HR1.out
    have b3 := rUint_in HR3.out
    have b4 := rUint_in HR4.out
    have HS2 : Hid (res = rowsB (evStep l) (acc ++ [evLine sv kv ov pv]) (N - (i + 1)) pa) := Lib.hid (by rw [HS1.out, evStep_some HR1.out HR2.out HR3.out HR4.out hk1 hk2 ho3]; rfl)
    obtain ⟨m, rfl⟩ : ∃ m : Nat, kv = (m : Int) := ⟨kv.toNat, by omega⟩
    obtain ⟨q, rfl⟩ : ∃ q : Nat, ov = (q : Int) := ⟨ov.toNat, by omega⟩
    have HV := Lib.hid (And.intro b1 b4)
    clear HS1 HR1 HR2 HR3 HR4 b1 b3 b4 p0 p1 pf0 pf1 HG5
    go_wp2_with fail
    generalize World.setCell (World.setCell w5 ⟨g, 0, none⟩ (.slice A5 n5 c5)) ⟨g, 1, none⟩ (.int .i64 0) = w7 at *
    clear q0 q1 f0 f1 hr9
    have hm1 : 1 ≤ m := by omega
    have hm4 : m ≤ 4 := by omega
    have hq3 : q ≤ 3 := by omega
    have l1 := itoa_le sv HV.out.1.1 HV.out.1.2
    have l2 := kind_le (m : Int)
    have l3 := opt_le (q : Int)
    have l4 := money_le pv (by have := HV.out; omega) HV.out.2.2
    have HP := Lib.hid (fun W => plain_any sv W (by have := HV.out; omega) HV.out.1.2)
    have HMO := Lib.hid (fun W => refMoney_any pv W (by have := HV.out; omega) HV.out.2.2)
    have HKD : Hid (∀ W, Calls Tryz.prog 104 #[] W fun r w' => ∃ b cs, r = .returned (.slice (some ⟨b, 0, none⟩) 5 5) ∧ W.heap.size ≤ b ∧ Blk w' b 9 cs ∧ cs[m]? = some (.string ⟨(kindL (m : Int)).toArray⟩) ∧ Touch [] W w') := Lib.hid (fun W => (kinds_any W).mono fun r w' h => by
     obtain ⟨b, cs, h1, h2, h3, h4, h5⟩ := h
     exact ⟨b, cs, h1, h2, h3, h4 m hm1 hm4, h5⟩)
    have HOP : Hid (∀ W, Calls Tryz.prog 105 #[] W fun r w' => ∃ b cs, r = .returned (.slice (some ⟨b, 0, none⟩) 4 4) ∧ W.heap.size ≤ b ∧ Blk w' b 9 cs ∧ cs[q]? = some (.string ⟨(optL (q : Int)).toArray⟩) ∧ Touch [] W w') := Lib.hid (fun W => (options_any W).mono fun r w' h => by
     obtain ⟨b, cs, h1, h2, h3, h4, h5⟩ := h
     exact ⟨b, cs, h1, h2, h3, h4 q (by omega) hq3, h5⟩)
    have hLN : Lib.itoa sv ++ [32] ++ kindL (m : Int) ++ [32] ++ optL (q : Int) ++ [32] ++ moneyL pv = evLine sv (m : Int) (q : Int) pv := by
     unfold evLine
     rw [Lib.join_cons]
     simp [Lib.joinTail]
    generalize evLine sv (m : Int) (q : Int) pv = ln at *
    generalize Lib.itoa sv = x1 at *
    generalize kindL (m : Int) = x2 at *
    generalize optL (q : Int) = x3 at *
    generalize moneyL pv = x4 at *
    have hmI : (m : Int) < 5 := by omega
    have hqI : (q : Int) < 4 := by omega
    have hs1 : ¬ 9223372036854775807 < x1.length + 1 := by omega
    have hs2 : ¬ 9223372036854775807 < x1.length + 1 + x2.length := by omega
    have hs3 : ¬ 9223372036854775807 < x1.length + 1 + x2.length + 1 := by omega
    have hs4 : ¬ 9223372036854775807 < x1.length + 1 + x2.length + 1 + x3.length := by omega
    have hs5 : ¬ 9223372036854775807 < x1.length + 1 + x2.length + 1 + x3.length + 1 := by omega
    have hs6 : ¬ 9223372036854775807 < x1.length + 1 + x2.length + 1 + x3.length + 1 + x4.length := by omega
    have HO7 := HO
    have hacc : acc.length ≤ 512 := by have := HAL.out; omega
    have hZ := (Touch.refl [] w7).drew
    clear HO
    refine wp_region_held_drew (S := fun W => Touch (blk (Value.slice Aq acc.length cq)) w7 W) (by kernel_rfl) (Touch.refl _ _).drew (fun hS => ?_)
    refine wpAnyH_take (i := 0) (v := ?_) rfl (by kernel_rfl) (by kernel_rfl) (by kernel_rfl) (fun _ _ _ h => h) (Or.inl ⟨by rfl, ?_⟩) hS ?_
    rotate_left
    ·(intro W hSW; go_simp <;> with_reducible rfl)
    simp only [nz]
    refine wpAnyH_take (i := 1) (v := ?_) rfl (by kernel_rfl) (by kernel_rfl) (by kernel_rfl) (fun _ _ _ h => h) (Or.inl ⟨by rfl, ?_⟩) hS ?_
    rotate_left
    ·(intro W hSW; go_simp <;> with_reducible rfl)
    simp only [nz]
    refine wpAnyH_take (i := 5) (v := ?_) rfl (by kernel_rfl) (by kernel_rfl) (by kernel_rfl) (fun _ _ _ h => h) (Or.inl ⟨by rfl, ?_⟩) hS ?_
    rotate_left
    ·(intro W hSW; go_simp <;> with_reducible rfl)
    simp only [nz]
    refine wpAnyH_take (i := 11) (v := ?_) rfl (by kernel_rfl) (by kernel_rfl) (by kernel_rfl) (fun _ _ _ h => h) (Or.inl ⟨by rfl, ?_⟩) hS ?_
    rotate_left
    ·(intro W hSW; go_simp <;> with_reducible rfl)
    simp only [nz]
    refine wpAnyH_take (i := 16) (v := ?_) rfl (by kernel_rfl) (by kernel_rfl) (by kernel_rfl) (fun _ _ _ h => h) (Or.inl ⟨by rfl, ?_⟩) hS ?_
    rotate_left
    ·(intro W hSW; go_simp <;> with_reducible rfl)
    simp only [nz]
    refine rdy1 2 rfl (fun K hK => ?_)
    go_simp
    refine (HP.out _).mono ?_
    rintro r w8 ⟨rfl, ht8⟩
    have hS8 := hS.then0 ht8
    have hZ8 := hZ.then0 ht8
    go_wp2_with fail
    refine hK.out _ _ hS8 (fun _ => ?_)
    clear hK K
    try simp only [nz]
    refine wpAnyH_take (i := 3) (v := ?_) rfl (by kernel_rfl) (by kernel_rfl) (by kernel_rfl) (fun _ _ _ h => h) (Or.inl ⟨by rfl, ?_⟩) hS8 ?_
    rotate_left
    ·(intro W hSW; go_simp <;> with_reducible rfl)
    simp only [nz]
    refine rdy1 4 rfl (fun K hK => ?_)
    go_simp
    refine (HKD.out _).mono ?_
    rintro r w9 ⟨b1, cs1, rfl, hb1, hB1, hc1, ht9⟩
    have hS9 := hS8.then0 ht9
    have hZ9 := hZ8.then0 ht9
    have hn1 : b1 ∉ blk (Value.slice Aq acc.length cq) := fun hm => by have h1 := HO7.out.lt b1 hm; have h2 := hZ8.size; omega
    go_wp2_with fail
    refine hK.out _ _ hS9 (fun _ => ?_)
    clear hK K
    try simp only [nz]
    refine wpAnyH_mono (S' := fun W => Touch (blk (Value.slice Aq acc.length cq)) w9 W) (fun W h => hS9.trans h) _ _ _ _ ?_
    have hT9 := Touch.refl (blk (Value.slice Aq acc.length cq)) w9
    refine wpAnyH_take (i := 6) (v := ?_) rfl (by kernel_rfl) (by kernel_rfl) (by kernel_rfl) (fun _ _ _ h => h) (Or.inl ⟨by rfl, ?_⟩) hT9 ?_
    rotate_left
    ·(intro W hSW; go_simp <;> with_reducible rfl)
    simp only [nz]
    refine wpAnyH_take (i := 7) (v := ?_) rfl (by kernel_rfl) (by kernel_rfl) (by kernel_rfl) (fun _ _ _ h => h) (Or.inl ⟨by rfl, ?_⟩) hT9 ?_
    rotate_left
    ·(intro W hSW; have e0 := ((hB1.touch hSW hn1).cell m).trans hc1; go_simp <;> with_reducible rfl)
    simp only [nz]
    refine wpAnyH_take (i := 8) (v := ?_) rfl (by kernel_rfl) (by kernel_rfl) (by kernel_rfl) (fun _ _ _ h => h) (Or.inl ⟨by rfl, ?_⟩) hT9 ?_
    rotate_left
    ·(intro W hSW; go_simp <;> with_reducible rfl)
    simp only [nz]
    refine wpAnyH_take (i := 9) (v := ?_) rfl (by kernel_rfl) (by kernel_rfl) (by kernel_rfl) (fun _ _ _ h => h) (Or.inl ⟨by rfl, ?_⟩) hT9 ?_
    rotate_left
    ·(intro W hSW; go_simp <;> with_reducible rfl)
    simp only [nz]
    refine rdy1 10 rfl (fun K hK => ?_)
    go_simp
    refine (HOP.out _).mono ?_
    rintro r w10 ⟨b2, cs2, rfl, hb2, hB2, hc2, ht10⟩
    have hT10 := hT9.then0 ht10
    have hZ10 := hZ9.then0 ht10
    have hn2 : b2 ∉ blk (Value.slice Aq acc.length cq) := fun hm => by have h1 := HO7.out.lt b2 hm; have h2 := hZ9.size; omega
    go_wp2_with fail
    refine hK.out _ _ hT10 (fun _ => ?_)
    clear hK K
    try simp only [nz]
    refine wpAnyH_mono (S' := fun W => Touch (blk (Value.slice Aq acc.length cq)) w10 W) (fun W h => hT10.trans h) _ _ _ _ ?_
    have hU10 := Touch.refl (blk (Value.slice Aq acc.length cq)) w10
    refine wpAnyH_take (i := 12) (v := ?_) rfl (by kernel_rfl) (by kernel_rfl) (by kernel_rfl) (fun _ _ _ h => h) (Or.inl ⟨by rfl, ?_⟩) hU10 ?_
    rotate_left
    ·(intro W hSW; go_simp <;> with_reducible rfl)
    simp only [nz]
    refine wpAnyH_take (i := 13) (v := ?_) rfl (by kernel_rfl) (by kernel_rfl) (by kernel_rfl) (fun _ _ _ h => h) (Or.inl ⟨by rfl, ?_⟩) hU10 ?_
    rotate_left
    ·(intro W hSW; have e0 := ((hB2.touch hSW hn2).cell q).trans hc2; go_simp <;> with_reducible rfl)
    simp only [nz]
    refine wpAnyH_take (i := 14) (v := ?_) rfl (by kernel_rfl) (by kernel_rfl) (by kernel_rfl) (fun _ _ _ h => h) (Or.inl ⟨by rfl, ?_⟩) hU10 ?_
    rotate_left
    ·(intro W hSW; go_simp <;> with_reducible rfl)
    simp only [nz]
    refine wpAnyH_take (i := 15) (v := ?_) rfl (by kernel_rfl) (by kernel_rfl) (by kernel_rfl) (fun _ _ _ h => h) (Or.inl ⟨by rfl, ?_⟩) hU10 ?_
    rotate_left
    ·(intro W hSW; go_simp <;> with_reducible rfl)
    simp only [nz]
    refine rdy1 17 rfl (fun K hK => ?_)
    go_simp
    refine (HMO.out _).mono ?_
    rintro r w11 ⟨rfl, ht11⟩
    have hU11 := hU10.then0 ht11
    have hZ11 := hZ10.then0 ht11
    go_wp2_with fail
    refine hK.out _ _ hU11 (fun _ => ?_)
    clear hK K
    try simp only [nz]
    refine wpAnyH_take (i := 18) (v := ?_) rfl (by kernel_rfl) (by kernel_rfl) (by kernel_rfl) (fun _ _ _ h => h) (Or.inl ⟨by rfl, ?_⟩) hU11 ?_
    rotate_left
    ·(intro W hSW; go_simp <;> with_reducible rfl)
    simp only [nz]
    simp only [tx32, tx_add]
    rw [hLN]
    have hOA := (HO7.out.touch0 hZ11).touch0 ((Touch.refl [] w11).alloc (.cells #[.string ⟨ln.toArray⟩] 9))
    have hrl := (ownLit w11 _ rfl 9 1 1 [.string ⟨ln.toArray⟩] rfl (by simp [maxLen])).reads
    refine rdy1 19 rfl (fun K hK => ?_)
    go_simp
    refine hK.out _ _ (hU11.alloc _) (fun _ => ?_)
    clear hK K
    try simp only [nz]
    refine rdy1 20 rfl (fun K hK => ?_)
    refine step_app_reads elem_str hOA hrl (by simp [Value.oneCell']) (by omega) (by unfold maxLen; omega) ?_
    intro v12 w12 ho12 ht12 hf12
    have HO12 := Lib.hid ho12
    have HF12 := Lib.hid hf12
    have HT12 := Lib.hid ht12
    have hU12 := (hU11.alloc (.cells #[.string ⟨ln.toArray⟩] 9)).trans ht12
    obtain ⟨A12, c12, rfl⟩ := ho12.form
    clear ho12 hf12 ht12 hrl hOA
    refine hK.out _ _ hU12 (fun _ => ?_)
    clear hK K
    try simp only [nz]
    refine rdy1 21 rfl (fun K hK => ?_)
    go_simp
    refine hK.out _ _ hU12 (fun _ => ?_)
    clear hK K
    try simp only [nz]
    refine wpAnyH_done (by kernel_rfl) ?_ _
    go_wp2_with fail
    go_roundw
    case rel =>
     have hgf : g ∉ blk (Value.slice Aq acc.length cq) := hrc.far HO7.out
     have hsz : w2.heap.size ≤ w7.heap.size := HTR.out.size
     have hsz1 := hZ11.size
     have hLb : ∀ b ∈ blk (Value.slice Aq acc.length cq), bd ≤ b := fun b hb => by
      have h1 := HF.out b hb
      have h2 := HT1.out.size
      omega
     have hZ12 := hZ11.alloc (.cells #[.string ⟨ln.toArray⟩] 9)
     refine ⟨i + 1, acc ++ [ln], (0, pa), by omega, by go_num, by have := HAL.out; simp; omega, OwnS.snoc HO12.out, fun b hb => ?_, (hrc.touch0 hZ12).touchL HT12.out hgf hLb, (HTR.out.then0 hZ12).step HT12.out (fun b hb => .inr (HF.out b hb)), Lib.hid (fun h => absurd rfl h), Lib.hid (fun _ => HS2.out)⟩
     rcases HF12.out b hb with h | h
     ·exact HF.out b h
     ·have h2 : w11.heap.size ≤ (w11.alloc (.cells #[.string ⟨ln.toArray⟩] 9)).heap.size := ((Touch.refl [] w11).alloc _).size
      omega
    case measure => simp [intOf]; omega
   ·have HNO : Hid (res = none) := Lib.hid (by rw [HS1.out, evStep_none HR1.out HR2.out HR3.out HR4.out hok]; rfl)
    clear HS1 HR1 HR2 HR3 HR4
    rcases (show pe ≠ 0 ∨ (pe = 0 ∧ kv < 1) ∨ (pe = 0 ∧ ¬ kv < 1 ∧ 4 < kv) ∨ (pe = 0 ∧ ¬ kv < 1 ∧ ¬ 4 < kv ∧ 3 < ov) by omega) with h | ⟨rfl, h⟩ | ⟨rfl, h, h2⟩ | ⟨rfl, h, h2, h3⟩
    ·have hb : (pe != 0) = true := by simpa using h
     clear h hok
     go_wp2_with fail
     have hG7 := HG3.out.touch HTR.out (by simp; omega)
     obtain ⟨k1, k2, k3⟩ := hG7.int2 (.slice none 0 0) (.int .i64 6)
     refine bodyPost_ret (v := .tuple #[.slice none 0 0, .agg #[.slice none 0 0, .int .i64 6]]) (by simp [results, Tryz.results52, go_sem, k1, k2]) rfl ⟨_, _, rfl, (HT1.out.step HTR.out (fun m hm => .inr (by rw [List.mem_singleton] at hm; omega))).step k3 (fun m hm => .inr (by rw [List.mem_singleton] at hm; omega)), ?_⟩
     rw [HNO.out]
     exact ⟨6, 0, by omega, none, 0, 0, rfl, fun h => absurd h (by omega)⟩
    ·go_wp2_with fail
     have hG7 := HG3.out.touch HTR.out (by simp; omega)
     obtain ⟨k1, k2, k3⟩ := hG7.int2 (.slice none 0 0) (.int .i64 6)
     refine bodyPost_ret (v := .tuple #[.slice none 0 0, .agg #[.slice none 0 0, .int .i64 6]]) (by simp [results, Tryz.results52, go_sem, k1, k2]) rfl ⟨_, _, rfl, (HT1.out.step HTR.out (fun m hm => .inr (by rw [List.mem_singleton] at hm; omega))).step k3 (fun m hm => .inr (by rw [List.mem_singleton] at hm; omega)), ?_⟩
     rw [HNO.out]
     exact ⟨6, 0, by omega, none, 0, 0, rfl, fun h => absurd h (by omega)⟩
    ·go_wp2_with fail
     have hG7 := HG3.out.touch HTR.out (by simp; omega)
     obtain ⟨k1, k2, k3⟩ := hG7.int2 (.slice none 0 0) (.int .i64 6)
     refine bodyPost_ret (v := .tuple #[.slice none 0 0, .agg #[.slice none 0 0, .int .i64 6]]) (by simp [results, Tryz.results52, go_sem, k1, k2]) rfl ⟨_, _, rfl, (HT1.out.step HTR.out (fun m hm => .inr (by rw [List.mem_singleton] at hm; omega))).step k3 (fun m hm => .inr (by rw [List.mem_singleton] at hm; omega)), ?_⟩
     rw [HNO.out]
     exact ⟨6, 0, by omega, none, 0, 0, rfl, fun h => absurd h (by omega)⟩
    ·go_wp2_with fail
     have hG7 := HG3.out.touch HTR.out (by simp; omega)
     obtain ⟨k1, k2, k3⟩ := hG7.int2 (.slice none 0 0) (.int .i64 6)
     refine bodyPost_ret (v := .tuple #[.slice none 0 0, .agg #[.slice none 0 0, .int .i64 6]]) (by simp [results, Tryz.results52, go_sem, k1, k2]) rfl ⟨_, _, rfl, (HT1.out.step HTR.out (fun m hm => .inr (by rw [List.mem_singleton] at hm; omega))).step k3 (fun m hm => .inr (by rw [List.mem_singleton] at hm; omega)), ?_⟩
     rw [HNO.out]
     exact ⟨6, 0, by omega, none, 0, 0, rfl, fun h => absurd h (by omega)⟩
  ·have hlt' : ¬ (i : Int) < (N : Int) := by omega
   have HI := Lib.hid (show i = N by omega)
   obtain ⟨A0, n0, c0, hr0, q0, q1, f0, f1⟩ := hrc.cells
   have HR0 := Lib.hid hr0
   have HGG := Lib.hid (HG3.out.touch ht (by simp; omega))
   obtain ⟨p0, p1, pf0, pf1⟩ := HGG.out.two
   have HO := Lib.hid ho
   have HTR := Lib.hid ht
   obtain ⟨se, sa⟩ := s
   dsimp only at HR0 q0 q1 HB1 HG1
   clear hr0 ho ht hi hlt hrc
   go_wp2_with fail
   go_region_with (fail)
   all_goals
    go_wp2_with fail
    obtain ⟨k1, k2, k3⟩ := HGG.out.int2 (.slice A0 n0 c0) (.int .i64 se)
    have k0 := HGG.out.one (.slice A0 n0 c0)
    have k4 := ((HT1.out.step HTR.out (fun m hm => .inr (by rw [List.mem_singleton] at hm; omega))).step k3 (fun m hm => .inr (by rw [List.mem_singleton] at hm; omega))).drew
    have k5 := (OwnS.touch HO.out k3 (fun b hb hm => by rw [List.mem_singleton] at hm; have h1 := HF.out b hb; have h2 := HG3.out.lt; omega)).touch0 ((Touch.refl [] _).drew)
    have k6 := (HR0.out.touch k3 HGG.out rd_cells).touch0 ((Touch.refl [] _).drew)
    refine bodyPost_ret (v := .tuple #[.slice Aq acc.length cq, .agg #[.slice A0 n0 c0, .int .i64 se]]) (by simp [results, Tryz.results52, go_sem, k0, k1, k2]) rfl ⟨_, _, rfl, k4, ?_⟩
    by_cases h0 : se = 0
    ·have e9 : res = some (acc, sa) := by rw [HG1.out h0, HI.out, Nat.sub_self]; rfl
     rw [e9]
     subst h0
     exact ⟨k5, fun b hb => by have h1 := HF.out b hb; have h2 := HT1.out.size; omega, k6⟩
    ·rw [(HB1.out h0).2]
     exact ⟨se, sa, h0, k6⟩
end Go.Proofs.YtedpaajpfaoffaaGreatDoor
namespace Go.Proofs.YtedpaajpfaoffaaGreatDoor
open Go.RowKit
def slotLine (x y z : Int) (p : List UInt8) : List UInt8 := Lib.join [Lib.itoa x, Lib.itoa y, Lib.itoa z, p] [32]
def areaLine (n : Int) : List UInt8 := Lib.join [areaB, Lib.itoa n] [32]
theorem part_ok {l : List UInt8} {lim : Int} {a : Nat} {v : List UInt8} {b : Nat} (h : rRead [] (pPart l lim) (0, a) = (v, (0, b))) : pPart l lim a = .ok (v, b) ∨ ∃ k, pPart l lim a = .error k ∧ k = 0 := by
 unfold rRead at h
 simp only [if_true] at h
 cases hp : pPart l lim a with
 | ok x =>
  rw [hp] at h
  injection h with h1 h2
  injection h2 with _ h3
  left
  rw [← h1, ← h3]
 | error k =>
  rw [hp] at h
  injection h with h1 h2
  injection h2 with h2 _
  exact .inr ⟨k, rfl, h2⟩
theorem slotStep_some {l : List UInt8} {acc : List (List UInt8)} {a : Nat} {xv yv zv xe ye ze : Int} {xa ya za pa : Nat} {pv : List UInt8} (hx : rRead 0 (pUint l) (0, a) = (xv, (xe, xa))) (hy : rRead 0 (pUint l) (xe, xa) = (yv, (ye, ya))) (hz : rRead 0 (pUint l) (ye, ya) = (zv, (ze, za))) (hp : rRead [] (pPart l 65536) (ze, za) = (pv, (0, pa)))
  (hpe : ∀ k, pPart l 65536 za = .error k → k ≠ 0) (hr : ratOK pv = true) : slotStep l acc a = some (acc ++ [slotLine xv yv zv pv], pa) := by
 obtain rfl := read_ok hp
 obtain rfl := read_ok hz
 obtain rfl := read_ok hy
 have b1 := rUint_in hx
 have b2 := rUint_in hy
 have b3 := rUint_in hz
 unfold slotStep
 rw [limO_of hx b1.1 (by rw [maxI_eq]; exact b1.2)]
 simp only [Option.bind_some]
 rw [limO_of hy b2.1 (by rw [maxI_eq]; exact b2.2)]
 simp only [Option.bind_some]
 rw [limO_of hz b3.1 (by rw [maxI_eq]; exact b3.2)]
 simp only [Option.bind_some]
 rcases part_ok hp with h | ⟨k, h, h0⟩
 ·rw [h]
  simp only
  rw [if_pos hr]
  rfl
 ·exact absurd h0 (hpe k h)
theorem slotStep_none {l : List UInt8} {acc : List (List UInt8)} {a : Nat} {xv yv zv xe ye ze pe : Int} {xa ya za pa : Nat} {pv : List UInt8} (hx : rRead 0 (pUint l) (0, a) = (xv, (xe, xa))) (hy : rRead 0 (pUint l) (xe, xa) = (yv, (ye, ya))) (hz : rRead 0 (pUint l) (ye, ya) = (zv, (ze, za))) (hp : rRead [] (pPart l 65536) (ze, za) = (pv, (pe, pa)))
  (hb : ¬ (pe = 0 ∧ ratOK pv = true)) : slotStep l acc a = none := by
 unfold slotStep
 cases h1 : limO l 0 maxI (0, a) with
 | none => rfl
 | some x =>
  obtain ⟨e1, -⟩ := limO_some h1
  rw [hx] at e1
  injection e1 with e1 e2
  injection e2 with e2 e3
  subst e2 e3
  simp only [Option.bind_some]
  cases h2 : limO l 0 maxI (0, x.2) with
  | none => rfl
  | some y =>
   obtain ⟨e1, -⟩ := limO_some h2
   rw [hy] at e1
   injection e1 with e1 e2
   injection e2 with e2 e3
   subst e2 e3
   simp only [Option.bind_some]
   cases h3 : limO l 0 maxI (0, y.2) with
   | none => rfl
   | some z =>
    obtain ⟨e4, -⟩ := limO_some h3
    rw [hz] at e4
    injection e4 with e4 e2
    injection e2 with e2 e3
    subst e2 e3
    simp only [Option.bind_some]
    cases h4 : pPart l 65536 z.2 with
    | error k => rfl
    | ok u =>
     unfold rRead at hp
     simp only [if_true] at hp
     rw [h4] at hp
     injection hp with p1 p2
     injection p2 with p2 p3
     simp only
     rw [if_neg (fun h => hb ⟨p2.symm, by rw [← p1]; exact h⟩)]
theorem areaStep_good {l : List UInt8} {acc : List (List UInt8)} {a : Nat} {av mv ae : Int} {aa ma : Nat} (hx : rRead 0 (pUint l) (0, a) = (av, (ae, aa))) (hm : rRead 0 (pCount l 6) (ae, aa) = (mv, (0, ma))) : areaStep l acc a = rowsB (slotStep l) (acc ++ [areaLine av]) mv.toNat ma ∧ 0 ≤ mv ∧ mv ≤ 6 := by
 obtain rfl := read_ok hm
 have b1 := rUint_in hx
 obtain ⟨h1, h2⟩ := count_lim (l := l) (lim := 6) (a := aa) (by omega)
 unfold areaStep
 rw [limO_of hx b1.1 (by rw [maxI_eq]; exact b1.2)]
 simp only [Option.bind_some]
 unfold rRead at hm
 simp only [if_true] at hm
 cases hc : limO l 0 6 (0, aa) with
 | none =>
  obtain ⟨k, hk⟩ := h2 hc
  rw [hk] at hm
  injection hm with _ hm
  injection hm with hm _
  exact absurd hm (pCount_err hk)
 | some x =>
  rw [h1 _ hc] at hm
  injection hm with m1 m2
  injection m2 with _ m2
  obtain ⟨-, x0, x1, -⟩ := limO_some hc
  simp only [Option.bind_some]
  rw [m1, m2]
  exact ⟨rfl, by omega, by omega⟩
theorem areaStep_bad {l : List UInt8} {acc : List (List UInt8)} {a : Nat} {av mv ae me : Int} {aa ma : Nat} (hx : rRead 0 (pUint l) (0, a) = (av, (ae, aa))) (hm : rRead 0 (pCount l 6) (ae, aa) = (mv, (me, ma))) (hb : me ≠ 0) : areaStep l acc a = none ∧ mv = 0 := by
 obtain ⟨h1, h2⟩ := count_lim (l := l) (lim := 6) (a := aa) (by omega)
 unfold areaStep
 by_cases h0 : ae = 0
 ·subst h0
  have b1 := rUint_in hx
  rw [limO_of hx b1.1 (by rw [maxI_eq]; exact b1.2)]
  simp only [Option.bind_some]
  unfold rRead at hm
  simp only [if_true] at hm
  cases hc : limO l 0 6 (0, aa) with
  | none =>
   obtain ⟨k, hk⟩ := h2 hc
   rw [hk] at hm
   injection hm with hm _
   exact ⟨rfl, hm.symm⟩
  | some x =>
   rw [h1 _ hc] at hm
   injection hm with _ m2
   injection m2 with m2 _
   exact absurd m2.symm hb
 ·have hm0 : mv = 0 := by
   unfold rRead at hm
   rw [if_neg h0] at hm
   injection hm with hm _
   exact hm.symm
  refine ⟨?_, hm0⟩
  cases h3 : limO l 0 maxI (0, a) with
  | none => rfl
  | some x =>
   obtain ⟨e1, -⟩ := limO_some h3
   rw [hx] at e1
   injection e1 with _ e2
   injection e2 with e2 _
   exact absurd e2 h0
theorem area_round {l : List UInt8} {acc : List (List UInt8)} {s : Int × Nat} {av mv ae me : Int} {aa ma N i : Nat} {res : Option (List (List UInt8) × Nat)} (hB : s.1 ≠ 0 → res = none) (hG : s.1 = 0 → res = rowsB (areaStep l) acc (N - i) s.2) (hi : i < N) (hx : rRead 0 (pUint l) s = (av, (ae, aa))) (hm : rRead 0 (pCount l 6) (ae, aa) = (mv, (me, ma))) :
  (me ≠ 0 → res = none ∧ mv = 0) ∧ (me = 0 → 0 ≤ mv ∧ mv ≤ 6 ∧ res = (rowsB (slotStep l) (acc ++ [areaLine av]) mv.toNat ma).bind fun x => rowsB (areaStep l) x.1 (N - (i + 1)) x.2) := by
 obtain ⟨e, a⟩ := s
 have hN : N - i = (N - (i + 1)) + 1 := by omega
 by_cases h0 : e = 0
 ·subst h0
  have hG' := hG rfl
  rw [hN, rowsB_succ] at hG'
  refine ⟨fun h => ?_, fun h => ?_⟩
  ·obtain ⟨h1, h2⟩ := areaStep_bad (acc := acc) hx hm h
   exact ⟨by rw [hG', h1]; rfl, h2⟩
  ·subst h
   obtain ⟨h1, h2, h3⟩ := areaStep_good (acc := acc) hx hm
   exact ⟨h2, h3, by rw [hG', h1]⟩
 ·have ha : ae ≠ 0 := fun h => h0 (by subst h; exact read_ok hx)
  have hme : me ≠ 0 := fun h => ha (by subst h; exact read_ok hm)
  refine ⟨fun _ => ⟨hB h0, ?_⟩, fun h => absurd h hme⟩
  unfold rRead at hm
  rw [if_neg ha] at hm
  injection hm with hm _
  exact hm.symm
theorem count_in {l : List UInt8} {lim : Int} (h0 : 0 ≤ lim) {s t : Int × Nat} {v : Int} (h : rRead 0 (pCount l lim) s = (v, t)) : 0 ≤ v ∧ v ≤ lim := by
 unfold rRead at h
 split at h
 ·obtain ⟨h1, h2⟩ := count_lim (l := l) (lim := lim) (a := s.2) h0
  cases hc : limO l 0 lim (0, s.2) with
  | none =>
   obtain ⟨k, hk⟩ := h2 hc
   rw [hk] at h
   injection h with h _
   omega
  | some x =>
   rw [h1 _ hc] at h
   injection h with h _
   obtain ⟨-, x0, x1, -⟩ := limO_some hc
   omega
 ·injection h with h _
  omega
theorem slot_round {l : List UInt8} {acc : List (List UInt8)} {a M j : Nat} {xv yv zv xe ye ze pe : Int} {xa ya za pa : Nat} {pv : List UInt8} {res : Option (List (List UInt8) × Nat)} {K : List (List UInt8) × Nat → Option (List (List UInt8) × Nat)} (hG : res = (rowsB (slotStep l) acc (M - j) a).bind K) (hj : j < M)
  (hx : rRead 0 (pUint l) (0, a) = (xv, (xe, xa))) (hy : rRead 0 (pUint l) (xe, xa) = (yv, (ye, ya))) (hz : rRead 0 (pUint l) (ye, ya) = (zv, (ze, za))) (hp : rRead [] (pPart l 65536) (ze, za) = (pv, (pe, pa))) :
  (¬ (pe = 0 ∧ ratOK pv = true) → res = none) ∧ (pe = 0 → ratOK pv = true → res = (rowsB (slotStep l) (acc ++ [slotLine xv yv zv pv]) (M - (j + 1)) pa).bind K) := by
 rw [show M - j = (M - (j + 1)) + 1 by omega, rowsB_succ] at hG
 refine ⟨fun h => ?_, fun h hr => ?_⟩
 ·rw [hG, slotStep_none hx hy hz hp h]; rfl
 ·subst h
  rw [hG, slotStep_some hx hy hz hp (fun k hk => pPart_err hk) hr]
  rfl
end Go.Proofs.YtedpaajpfaoffaaGreatDoor
