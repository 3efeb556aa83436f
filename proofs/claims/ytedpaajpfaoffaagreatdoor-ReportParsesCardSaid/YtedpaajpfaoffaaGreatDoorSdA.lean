/- The order of a region, by hand: the condition on the worlds may be made stronger on the way. No program in sight. -/
import Derived.Test.YtedpaajpfaoffaaGreatDoorBase
import Derived.Deep.DeepCutAuto
import Derived.Test.YtedpaajpfaoffaaGreatDoorSaA
import Derived.Test.YtedpaajpfaoffaaGreatDoorRdC
import Derived.Test.YtedpaajpfaoffaaGreatDoorQvA
import Derived.Test.YtedpaajpfaoffaaGreatDoorSc1
set_option linter.all false
set_option maxHeartbeats 4000000
set_option maxRecDepth 100000
namespace Go.Proofs.YtedpaajpfaoffaaGreatDoor
open Go.RowKit
theorem wpAnyH_mono {P : Program} {ops : Array Oper} {Q : Exit → Act → World → Prop} {md : Region.Mode} {S S' : World → Prop} (hS : ∀ w, S' w → S w) :
  ∀ (fuel : Nat) (listed : Array Bool) (a : Act) (w : World), wpAnyH P md ops Q S' fuel listed a w → wpAnyH P md ops Q S fuel listed a w
 | 0, _, _, _, h => h
 | fuel + 1, _, _, _, h => ⟨h.1, fun i hi => wpOp_mono (fun a' w' h' => ⟨hS w' h'.1, wpAnyH_mono hS fuel _ a' w' h'.2⟩) (h.2 i hi)⟩
end Go.Proofs.YtedpaajpfaoffaaGreatDoor
namespace Go.Proofs.YtedpaajpfaoffaaGreatDoor
open Go.RowKit
section
variable {l : List UInt8} {e : Int}
theorem pInt_err {a : Nat} (h : pInt l a = .error e) : e ≠ 0 := by
 unfold pInt at h
 cases hg : pGroup l 10 0 0 a with
 | error k => rw [hg] at h; cases h; exact pGroup_err l _ _ _ _ _ hg
 | ok x => rw [hg] at h; cases h
theorem pList_err : ∀ (n a : Nat), pList l n a = .error e → e ≠ 0
 | 0, a, h => by unfold pList at h; cases h
 | n + 1, a, h => by
  unfold pList at h
  cases hi : pInt l a with
  | error k => rw [hi] at h; cases h; exact pInt_err hi
  | ok x =>
   rw [hi] at h
   simp only at h
   cases hl : pList l n x.2 with
   | error k => rw [hl] at h; cases h; exact pList_err n _ hl
   | ok ys => rw [hl] at h; cases h
theorem pInts_err {limit : Int} {a : Nat} (h : pInts l limit a = .error e) : e ≠ 0 := by
 unfold pInts at h
 cases hg : pCount l limit a with
 | error k => rw [hg] at h; cases h; exact pCount_err hg
 | ok y =>
  rw [hg] at h
  exact pList_err _ _ h
end
theorem pInt_in {l : List UInt8} {a : Nat} {x : Int} {a' : Nat} (h : pInt l a = .ok (x, a')) : Fits x ∧ a < a' ∧ a' ≤ l.length := by
 unfold pInt at h
 cases hg : pGroup l 10 0 0 a with
 | error k => rw [hg] at h; cases h
 | ok y =>
  rw [hg] at h
  have := pGroup10 hg
  cases h
  refine ⟨?_, this.2⟩
  unfold Fits unfold'
  split <;> omega
theorem pList_in {l : List UInt8} : ∀ (n a : Nat) (x : List Int) (a' : Nat), a ≤ l.length → pList l n a = .ok (x, a') → (∀ m ∈ x, Fits m) ∧ x.length = n ∧ a ≤ a' ∧ a' ≤ l.length
 | 0, a, x, a', ha, h => by
  unfold pList at h
  cases h
  simp
  omega
 | n + 1, a, x, a', ha, h => by
  unfold pList at h
  cases hi : pInt l a with
  | error k => rw [hi] at h; cases h
  | ok y =>
   rw [hi] at h
   obtain ⟨y, b⟩ := y
   obtain ⟨h1, h2, h3⟩ := pInt_in hi
   simp only at h
   cases hl : pList l n b with
   | error k => rw [hl] at h; cases h
   | ok ys =>
    rw [hl] at h
    obtain ⟨ys, b2⟩ := ys
    cases h
    obtain ⟨k1, k2, k3, k4⟩ := pList_in n b ys _ h3 hl
    refine ⟨fun m hm => ?_, by simp [k2], by omega, k4⟩
    rcases List.mem_cons.1 hm with rfl | hm
    ·exact h1
    ·exact k1 m hm
theorem pInts_in {l : List UInt8} {limit : Int} {a : Nat} {x : List Int} {a' : Nat} (h : pInts l limit a = .ok (x, a')) : (∀ m ∈ x, Fits m) ∧ (x.length : Int) ≤ limit ∧ a ≤ a' ∧ a' ≤ l.length := by
 unfold pInts at h
 cases hg : pCount l limit a with
 | error k => rw [hg] at h; cases h
 | ok y =>
  rw [hg] at h
  obtain ⟨h0, h1, h2, h3, h4⟩ := pCount_ok hg
  obtain ⟨k1, k2, k3, k4⟩ := pList_in _ _ _ _ h4 h
  exact ⟨k1, by omega, by omega, k4⟩
theorem rInts_in (l : List UInt8) (limit : Int) (s : Int × Nat) (hl : 0 ≤ limit) (hs : s.2 ≤ l.length) : (∀ m ∈ (rRead [] (pInts l limit) s).1, Fits m) ∧ ((rRead [] (pInts l limit) s).1.length : Int) ≤ limit ∧ (rRead [] (pInts l limit) s).2.2 ≤ l.length := by
 unfold rRead
 split
 ·cases h : pInts l limit s.2 with
  | error k => exact ⟨by simp, by simpa using hl, hs⟩
  | ok x =>
   obtain ⟨h1, h2, h3, h4⟩ := pInts_in h
   exact ⟨h1, h2, h4⟩
 ·exact ⟨by simp, by simpa using hl, hs⟩
theorem Bytes.far {w : World} {v : Value} {l : List UInt8} {g : Nat} {t : TypeId} {cs : Array Value} (h : Bytes w v l) (hb : Blk w g t cs) (hc : ∀ (i : Nat) (z : Int), cs[i]? ≠ some (Value.int .u8 z)) : ∀ m ∈ rb v, m ≠ g := by
 obtain ⟨A, cap, rfl, h1, h2, h3, h4⟩ := h
 intro m hm e
 subst e
 have hp : 0 < l.length := by
  rcases Nat.eq_zero_or_pos l.length with h0 | h0
  ·rw [h0] at hm
   cases A <;> simp [rb] at hm
  ·exact h0
 obtain ⟨b, off, rfl, hlt, hcell⟩ := h4 hp
 have hbm : m = b := by
  obtain ⟨k, hk⟩ : ∃ k, l.length = k + 1 := ⟨l.length - 1, by omega⟩
  rw [hk] at hm
  simpa [rb] using hm
 subst hbm
 have := hcell 0 (B l[0]) (by simp [hp])
 rw [hb.cell] at this
 exact hc _ _ this
theorem rd_cells {A : Option Addr} {n c : Nat} {e : Int} : ∀ (i : Nat) (z : Int), (#[Value.slice A n c, .int .i64 e] : Array Value)[i]? ≠ some (.int .u8 z) := by
 intro i z
 match i with
 | 0 => simp
 | 1 => simp
 | i + 2 => simp
end Go.Proofs.YtedpaajpfaoffaaGreatDoor
namespace Go.Proofs.YtedpaajpfaoffaaGreatDoor
open Go.RowKit
def RS (w : World) (bd : Nat) (l : List UInt8) (v : Value) (s : Int × Nat) : Prop := ∃ A n c, v = .agg #[.slice A n c, .int .i64 s.1] ∧ (s.1 = 0 → Bytes w (.slice A n c) (l.drop s.2) ∧ s.2 ≤ l.length ∧ ∀ b ∈ rb (.slice A n c), b < bd)
theorem RS.touch0 {w w' : World} {bd : Nat} {l : List UInt8} {v : Value} {s : Int × Nat} (h : RS w bd l v s) (t : Touch [] w w') : RS w' bd l v s := by
 obtain ⟨A, n, c, e, hb⟩ := h
 exact ⟨A, n, c, e, fun h0 => ⟨Reads.touch0 (hb h0).1 t, (hb h0).2⟩⟩
abbrev WR (w : World) (v : Value) (e : Int) : World := (w.alloc (.cells #[v, .int .i64 e] 83)).alloc (.cells #[.slice none 0 0, .int .i64 0] 83)
theorem boxr (w : World) (v : Value) (e : Int) : Touch [] w (WR w v e) ∧ ∀ W, Touch [] (WR w v e) W → Blk W w.heap.size 83 #[v, .int .i64 e] ∧ Blk W (w.heap.size + 1) 83 #[.slice none 0 0, .int .i64 0] := by
 refine ⟨((Touch.refl _ _).alloc _).alloc _, fun W t => ⟨((Blk.new _ _ _).alloc _).touch t (by simp), ?_⟩⟩
 have := Blk.new (w.alloc (.cells #[v, .int .i64 e] 83)) 83 #[.slice none 0 0, .int .i64 0]
 exact (show Blk (WR w v e) (w.heap.size + 1) _ _ by simpa using this).touch t (by simp)
def R41 {α : Type} (K : World → Value → α → Prop) (bd : Nat) (l : List UInt8) (x : α × (Int × Nat)) (w : World) (r : Ending) (w' : World) : Prop := ∃ u v, r = .returned (.tuple #[u, v]) ∧ K w' u x.1 ∧ RS w' bd l v x.2 ∧ Touch [] w w'
theorem run_slice_b41 (w : World) (A : Option Addr) (len cap a : Nat) (h : a ≤ len) : (Instr.slice 30 (.slice A len cap) (some (.int .i64 (a : Int))) none none).run Tryz.prog w = .ok (sliced A a len cap 1) w := by
 rw [run_slice_l (P := Tryz.prog) w 30 A len cap (by kernel_rfl) .i64 (a : Int) (by omega) (by omega)]
 have e : (sizeOf (Tryz.prog.elem 30)).run Tryz.prog w = .ok 1 w := by kernel_rfl
 rw [e]
 rfl
theorem sliced_form (A : Option Addr) (lo hi cap size : Nat) : ∃ A' n c, sliced A lo hi cap size = .slice A' n c := by unfold sliced; exact ⟨_, _, _, rfl⟩
theorem bytes_drop {w : World} {A : Option Addr} {n c : Nat} {l : List UInt8} {a m : Nat} (h : Bytes w (.slice A n c) (l.drop a)) (hm : m ≤ (l.drop a).length) : n = (l.drop a).length ∧ Bytes w (sliced A m (l.drop a).length c 1) (l.drop (a + m)) := by
 have h' := h
 obtain ⟨A', cap', e, h1, h2, h3, h4⟩ := h'
 injection e with e1 e2 e3
 subst e1 e2 e3
 refine ⟨rfl, ?_⟩
 have hp := Reads.part h m (l.drop a).length hm (Nat.le_refl _)
 unfold Bytes
 have e5 : (l.drop (a + m)).length = (l.drop a).length - m := by simp; omega
 have e6 : ((l.drop a).map B).drop m = (l.drop (a + m)).map B := by rw [← List.map_drop, List.drop_drop]
 rw [e6, List.take_of_length_le (by rw [List.length_map, e5]; exact Nat.le_refl _)] at hp
 rw [e5]
 exact hp
theorem Blk.two {w : World} {g : Nat} {t : TypeId} {x0 x1 : Value} (h : Blk w g t #[x0, x1]) : w.cell? ⟨g, 0, none⟩ = some x0 ∧ w.cell? ⟨g, 1, none⟩ = some x1 ∧ w.frozen? ⟨g, 0, none⟩ = false ∧ w.frozen? ⟨g, 1, none⟩ = false := ⟨(h.cell 0).trans rfl, (h.cell 1).trans rfl, h.frozen 0, h.frozen 1⟩
theorem pPart_in {l : List UInt8} {lim : Int} {a : Nat} {x : List UInt8} {m : Nat} (h : pPart l lim a = .ok (x, m)) : m ≤ l.length := by
 unfold pPart at h
 split at h
 ·cases h
 ·rename_i y hy
  have := pCount_ok hy
  split at h
  ·cases h
  ·cases h
   omega
theorem Blk.one {w : World} {g : Nat} {t : TypeId} {x0 x1 : Value} (h : Blk w g t #[x0, x1]) (u0 : Value) : (w.setCell ⟨g, 0, none⟩ u0).cell? ⟨g, 0, none⟩ = some u0 := by
 have := (h.set_ 0 u0).cell 0
 exact this.trans rfl
theorem uint41_any (bd : Nat) (l : List UInt8) (v : Value) (s : Int × Nat) (w : World) (h : RS w bd l v s) (hl : l.length ≤ 100000) : Calls Tryz.prog 50 #[v] w (R41 (fun _ u n => u = iv n) bd l (rRead 0 (pUint l) s) w) := by
 obtain ⟨A, n, c, rfl, hb⟩ := h
 obtain ⟨e, a⟩ := s
 simp only at hb
 obtain ⟨ht0, hcc⟩ := boxr w (.slice A n c) e
 unfold WR at ht0 hcc
 by_cases he : e = 0
 ·subst he
  obtain ⟨hB, ha, hbd⟩ := hb rfl
  have hU := fun W (t : Touch [] w W) => uint6_any (.slice A n c) (l.drop a) W (Reads.touch0 hB t) (by simp; omega)
  have HB := Lib.hid hB
  cases hp : pUint (l.drop a) 0 with
  | error k =>
   have hk := pUint_err hp
   have e1 : rRead 0 (pUint l) (0, a) = (0, (k, a)) := by unfold rRead; simp only [if_true]; rw [pUint_sh, hp]; rfl
   rw [e1]
   rw [hp] at hU
   have HU := Lib.hid hU
   have hk2 : (k != 0) = true := by simpa using hk
   have HK := Lib.hid hk
   have HC := Lib.hid hcc
   clear hU hp hb hB hk e1
   obtain ⟨q0, q1, -⟩ := (hcc _ (Touch.refl _ _)).1.two
   clear hcc
   go_enter Tryz.func50, Tryz.ntmps50
   go_wp2_with fail
   generalize ((w.alloc (.cells #[.slice A n c, .int .i64 0] 83)).alloc (.cells #[.slice none 0 0, .int .i64 0] 83)) = w0 at *
   have HT0 := Lib.hid ht0
   clear ht0 q0 q1
   refine (HU.out w0 HT0.out).mono ?_
   rintro r w1 ⟨rfl, hw1⟩
   have HT1 : Hid (Touch [] w0 w1) := Lib.hid (by subst hw1; exact Touch.refl _ _)
   clear hw1
   have HB2 := Lib.hid (HC.out _ HT1.out).2
   obtain ⟨p0, p1, f0, f1⟩ := HB2.out.two
   dsimp only
   go_wp2_with fail
   obtain ⟨k1, k2, k3⟩ := HB2.out.int2 (.slice none 0 0) (.int .i64 k)
   refine bodyPost_ret (v := .tuple #[iv 0, .agg #[.slice none 0 0, .int .i64 k]]) (by simp [results, Tryz.results50, go_sem, k1, k2, iv]) rfl ⟨_, _, rfl, rfl, ⟨none, 0, 0, rfl, fun h0 => absurd h0 HK.out⟩, ((HT0.out.then0 HT1.out).step k3 (fun m hm => .inr (by rw [List.mem_singleton] at hm; omega)))⟩
  | ok x =>
   obtain ⟨x, m⟩ := x
   have hm : m ≤ (l.drop a).length := (pUint_in hp).2.2.2
   have e1 : rRead 0 (pUint l) (0, a) = (x, (0, a + m)) := by unfold rRead; simp only [if_true]; rw [pUint_sh, hp]; rfl
   rw [e1]
   rw [hp] at hU
   have HU := Lib.hid hU
   obtain ⟨hn, hB2⟩ := bytes_drop hB hm
   rw [← hn] at hB2 hm
   have hle : a + m ≤ l.length := by rw [hn] at hm; simp at hm; omega
   have hsl := fun W => run_slice_b41 W A n c m hm
   obtain ⟨A2, n2, c2, e2⟩ := sliced_form A m n c 1
   have HLT : Hid (∀ b ∈ rb (Value.slice A2 n2 c2), b < bd) := Lib.hid (fun b hb' => hbd b (rb_sliced (lo := m) (cap := c) (size := 1) (Nat.le_refl n) b (by rw [e2]; exact hb')))
   rw [e2] at hsl hB2
   have HD2 := Lib.hid hB2
   have HLE := Lib.hid hle
   have HC := Lib.hid hcc
   obtain ⟨q0, q1, -⟩ := (hcc _ (Touch.refl _ _)).1.two
   clear hU hp hb hB hB2 hn hm hle e1 e2 hcc hbd
   go_enter Tryz.func50, Tryz.ntmps50
   go_wp2_with fail
   generalize ((w.alloc (.cells #[.slice A n c, .int .i64 0] 83)).alloc (.cells #[.slice none 0 0, .int .i64 0] 83)) = w0 at *
   have HT0 := Lib.hid ht0
   clear ht0 q0 q1
   refine (HU.out w0 HT0.out).mono ?_
   rintro r w1 ⟨rfl, hw1⟩
   have HT1 : Hid (Touch [] w0 w1) := Lib.hid (by subst hw1; exact Touch.refl _ _)
   skip
   clear hw1
   have HB2 := Lib.hid (HC.out _ HT1.out).2
   obtain ⟨p0, p1, f0, f1⟩ := HB2.out.two
   obtain ⟨q0, q1, -⟩ := (HC.out _ HT1.out).1.two
   dsimp only
   go_wp2_with fail
   go_region_with (fail)
   all_goals
    go_wp2_with fail
    obtain ⟨k1, k2, k3⟩ := HB2.out.int2 (.slice A2 n2 c2) (.int .i64 0)
    have k0 := HB2.out.one (.slice A2 n2 c2)
    have k4 := ((HT0.out.then0 HT1.out).step k3 (fun m hm => .inr (by rw [List.mem_singleton] at hm; omega))).drew
    refine bodyPost_ret (v := .tuple #[iv x, .agg #[.slice A2 n2 c2, .int .i64 0]]) (by simp [results, Tryz.results50, go_sem, k0, k1, k2, iv]) rfl ⟨_, _, rfl, rfl, ⟨A2, n2, c2, rfl, fun _ => ⟨Reads.touch0 HD2.out k4, HLE.out, HLT.out⟩⟩, k4⟩
 ·have he' : (e != 0) = true := by simpa using he
  have e1 : rRead 0 (pUint l) (e, a) = (0, (e, a)) := by unfold rRead; rw [if_neg he]
  rw [e1]
  clear hb
  have HC := Lib.hid hcc
  have HE := Lib.hid he
  obtain ⟨q0, q1, -⟩ := (hcc _ (Touch.refl _ _)).1.two
  clear he e1 hcc
  go_enter Tryz.func50, Tryz.ntmps50
  go_wp2_with fail
  generalize ((w.alloc (.cells #[.slice A n c, .int .i64 e] 83)).alloc (.cells #[.slice none 0 0, .int .i64 0] 83)) = w0 at *
  have HT0 := Lib.hid ht0
  have HB2 := Lib.hid (HC.out _ (Touch.refl _ _)).2
  obtain ⟨p0, p1, f0, f1⟩ := HB2.out.two
  clear ht0
  go_region_with (fail)
  all_goals
   go_wp2_with fail
   obtain ⟨k1, k2, k3⟩ := HB2.out.int2 (.slice A n c) (.int .i64 e)
   have k0 := HB2.out.one (.slice A n c)
   refine bodyPost_ret (v := .tuple #[iv 0, .agg #[.slice A n c, .int .i64 e]]) (by simp [results, Tryz.results50, go_sem, k0, k1, k2, iv]) rfl ⟨_, _, rfl, rfl, ⟨A, n, c, rfl, fun h0 => absurd h0 HE.out⟩, ((HT0.out.step k3 (fun m hm => .inr (by rw [List.mem_singleton] at hm; omega))).drew)⟩
theorem count41_any (bd : Nat) (l : List UInt8) (v : Value) (s : Int × Nat) (lim : Int) (w : World) (h : RS w bd l v s) (hl : l.length ≤ 100000) : Calls Tryz.prog 103 #[v, .int .i64 lim] w (R41 (fun _ u n => u = iv n) bd l (rRead 0 (pCount l lim) s) w) := by
 obtain ⟨A, n, c, rfl, hb⟩ := h
 obtain ⟨e, a⟩ := s
 simp only at hb
 obtain ⟨ht0, hcc⟩ := boxr w (.slice A n c) e
 unfold WR at ht0 hcc
 by_cases he : e = 0
 ·subst he
  obtain ⟨hB, ha, hbd⟩ := hb rfl
  have hU := fun W (t : Touch [] w W) => count6_any (.slice A n c) (l.drop a) lim W (Reads.touch0 hB t) (by simp; omega)
  have HB := Lib.hid hB
  cases hp : pCount (l.drop a) lim 0 with
  | error k =>
   have hk := pCount_err hp
   have e1 : rRead 0 (pCount l lim) (0, a) = (0, (k, a)) := by unfold rRead; simp only [if_true]; rw [pCount_sh, hp]; rfl
   rw [e1]
   rw [hp] at hU
   have HU := Lib.hid hU
   have hk2 : (k != 0) = true := by simpa using hk
   have HK := Lib.hid hk
   have HC := Lib.hid hcc
   clear hU hp hb hB hk e1
   obtain ⟨q0, q1, -⟩ := (hcc _ (Touch.refl _ _)).1.two
   clear hcc
   go_enter Tryz.func103, Tryz.ntmps103
   go_wp2_with fail
   generalize ((w.alloc (.cells #[.slice A n c, .int .i64 0] 83)).alloc (.cells #[.slice none 0 0, .int .i64 0] 83)) = w0 at *
   have HT0 := Lib.hid ht0
   clear ht0 q0 q1
   refine (HU.out w0 HT0.out).mono ?_
   rintro r w1 ⟨rfl, hw1⟩
   have HT1 : Hid (Touch [] w0 w1) := Lib.hid (by subst hw1; exact Touch.refl _ _)
   clear hw1
   have HB2 := Lib.hid (HC.out _ HT1.out).2
   obtain ⟨p0, p1, f0, f1⟩ := HB2.out.two
   dsimp only
   go_wp2_with fail
   obtain ⟨k1, k2, k3⟩ := HB2.out.int2 (.slice none 0 0) (.int .i64 k)
   refine bodyPost_ret (v := .tuple #[iv 0, .agg #[.slice none 0 0, .int .i64 k]]) (by simp [results, Tryz.results103, go_sem, k1, k2, iv]) rfl ⟨_, _, rfl, rfl, ⟨none, 0, 0, rfl, fun h0 => absurd h0 HK.out⟩, ((HT0.out.then0 HT1.out).step k3 (fun m hm => .inr (by rw [List.mem_singleton] at hm; omega)))⟩
  | ok x =>
   obtain ⟨x, m⟩ := x
   have hm : m ≤ (l.drop a).length := (pCount_ok hp).2.2.2.2
   have e1 : rRead 0 (pCount l lim) (0, a) = (x, (0, a + m)) := by unfold rRead; simp only [if_true]; rw [pCount_sh, hp]; rfl
   rw [e1]
   rw [hp] at hU
   have HU := Lib.hid hU
   obtain ⟨hn, hB2⟩ := bytes_drop hB hm
   rw [← hn] at hB2 hm
   have hle : a + m ≤ l.length := by rw [hn] at hm; simp at hm; omega
   have hsl := fun W => run_slice_b41 W A n c m hm
   obtain ⟨A2, n2, c2, e2⟩ := sliced_form A m n c 1
   have HLT : Hid (∀ b ∈ rb (Value.slice A2 n2 c2), b < bd) := Lib.hid (fun b hb' => hbd b (rb_sliced (lo := m) (cap := c) (size := 1) (Nat.le_refl n) b (by rw [e2]; exact hb')))
   rw [e2] at hsl hB2
   have HD2 := Lib.hid hB2
   have HLE := Lib.hid hle
   have HC := Lib.hid hcc
   obtain ⟨q0, q1, -⟩ := (hcc _ (Touch.refl _ _)).1.two
   clear hU hp hb hB hB2 hn hm hle e1 e2 hcc hbd
   go_enter Tryz.func103, Tryz.ntmps103
   go_wp2_with fail
   generalize ((w.alloc (.cells #[.slice A n c, .int .i64 0] 83)).alloc (.cells #[.slice none 0 0, .int .i64 0] 83)) = w0 at *
   have HT0 := Lib.hid ht0
   clear ht0 q0 q1
   refine (HU.out w0 HT0.out).mono ?_
   rintro r w1 ⟨rfl, hw1⟩
   have HT1 : Hid (Touch [] w0 w1) := Lib.hid (by subst hw1; exact Touch.refl _ _)
   skip
   clear hw1
   have HB2 := Lib.hid (HC.out _ HT1.out).2
   obtain ⟨p0, p1, f0, f1⟩ := HB2.out.two
   obtain ⟨q0, q1, -⟩ := (HC.out _ HT1.out).1.two
   dsimp only
   go_wp2_with fail
   go_region_with (fail)
   all_goals
    go_wp2_with fail
    obtain ⟨k1, k2, k3⟩ := HB2.out.int2 (.slice A2 n2 c2) (.int .i64 0)
    have k0 := HB2.out.one (.slice A2 n2 c2)
    have k4 := ((HT0.out.then0 HT1.out).step k3 (fun m hm => .inr (by rw [List.mem_singleton] at hm; omega))).drew
    refine bodyPost_ret (v := .tuple #[iv x, .agg #[.slice A2 n2 c2, .int .i64 0]]) (by simp [results, Tryz.results103, go_sem, k0, k1, k2, iv]) rfl ⟨_, _, rfl, rfl, ⟨A2, n2, c2, rfl, fun _ => ⟨Reads.touch0 HD2.out k4, HLE.out, HLT.out⟩⟩, k4⟩
 ·have he' : (e != 0) = true := by simpa using he
  have e1 : rRead 0 (pCount l lim) (e, a) = (0, (e, a)) := by unfold rRead; rw [if_neg he]
  rw [e1]
  clear hb
  have HC := Lib.hid hcc
  have HE := Lib.hid he
  obtain ⟨q0, q1, -⟩ := (hcc _ (Touch.refl _ _)).1.two
  clear he e1 hcc
  go_enter Tryz.func103, Tryz.ntmps103
  go_wp2_with fail
  generalize ((w.alloc (.cells #[.slice A n c, .int .i64 e] 83)).alloc (.cells #[.slice none 0 0, .int .i64 0] 83)) = w0 at *
  have HT0 := Lib.hid ht0
  have HB2 := Lib.hid (HC.out _ (Touch.refl _ _)).2
  obtain ⟨p0, p1, f0, f1⟩ := HB2.out.two
  clear ht0
  go_region_with (fail)
  all_goals
   go_wp2_with fail
   obtain ⟨k1, k2, k3⟩ := HB2.out.int2 (.slice A n c) (.int .i64 e)
   have k0 := HB2.out.one (.slice A n c)
   refine bodyPost_ret (v := .tuple #[iv 0, .agg #[.slice A n c, .int .i64 e]]) (by simp [results, Tryz.results103, go_sem, k0, k1, k2, iv]) rfl ⟨_, _, rfl, rfl, ⟨A, n, c, rfl, fun h0 => absurd h0 HE.out⟩, ((HT0.out.step k3 (fun m hm => .inr (by rw [List.mem_singleton] at hm; omega))).drew)⟩
theorem bytes41_any (bd : Nat) (l : List UInt8) (v : Value) (s : Int × Nat) (lim : Int) (w : World) (h : RS w bd l v s) (hl : l.length ≤ 100000) : Calls Tryz.prog 107 #[v, .int .i64 lim] w (R41 (fun W u x => Bytes W u x) bd l (rRead [] (pPart l lim) s) w) := by
 obtain ⟨A, n, c, rfl, hb⟩ := h
 obtain ⟨e, a⟩ := s
 simp only at hb
 obtain ⟨ht0, hcc⟩ := boxr w (.slice A n c) e
 unfold WR at ht0 hcc
 by_cases he : e = 0
 ·subst he
  obtain ⟨hB, ha, hbd⟩ := hb rfl
  have hU := fun W (t : Touch [] w W) => bytes6_any (.slice A n c) (l.drop a) lim W (Reads.touch0 hB t) (by simp; omega)
  have HB := Lib.hid hB
  cases hp : pPart (l.drop a) lim 0 with
  | error k =>
   have hk := pPart_err hp
   have e1 : rRead [] (pPart l lim) (0, a) = ([], (k, a)) := by unfold rRead; simp only [if_true]; rw [pPart_sh, hp]; rfl
   rw [e1]
   rw [hp] at hU
   have HU := Lib.hid hU
   have hk2 : (k != 0) = true := by simpa using hk
   have HK := Lib.hid hk
   have HC := Lib.hid hcc
   clear hU hp hb hB hk e1
   obtain ⟨q0, q1, -⟩ := (hcc _ (Touch.refl _ _)).1.two
   clear hcc
   go_enter Tryz.func107, Tryz.ntmps107
   go_wp2_with fail
   generalize ((w.alloc (.cells #[.slice A n c, .int .i64 0] 83)).alloc (.cells #[.slice none 0 0, .int .i64 0] 83)) = w0 at *
   have HT0 := Lib.hid ht0
   clear ht0 q0 q1
   refine (HU.out w0 HT0.out).mono ?_
   rintro r w1 ⟨rfl, hw1⟩
   have HT1 : Hid (Touch [] w0 w1) := Lib.hid (by subst hw1; exact Touch.refl _ _)
   clear hw1
   have HB2 := Lib.hid (HC.out _ HT1.out).2
   obtain ⟨p0, p1, f0, f1⟩ := HB2.out.two
   dsimp only
   go_wp2_with fail
   obtain ⟨k1, k2, k3⟩ := HB2.out.int2 (.slice none 0 0) (.int .i64 k)
   refine bodyPost_ret (v := .tuple #[.slice none 0 0, .agg #[.slice none 0 0, .int .i64 k]]) (by simp [results, Tryz.results107, go_sem, k1, k2, iv]) rfl ⟨_, _, rfl, Reads.nil _ 1, ⟨none, 0, 0, rfl, fun h0 => absurd h0 HK.out⟩, ((HT0.out.then0 HT1.out).step k3 (fun m hm => .inr (by rw [List.mem_singleton] at hm; omega)))⟩
  | ok x =>
   obtain ⟨x, m⟩ := x
   have hm : m ≤ (l.drop a).length := (pPart_in hp)
   have e1 : rRead [] (pPart l lim) (0, a) = (x, (0, a + m)) := by unfold rRead; simp only [if_true]; rw [pPart_sh, hp]; rfl
   rw [e1]
   rw [hp] at hU
   have HU := Lib.hid hU
   obtain ⟨hn, hB2⟩ := bytes_drop hB hm
   rw [← hn] at hB2 hm
   have hle : a + m ≤ l.length := by rw [hn] at hm; simp at hm; omega
   have hsl := fun W => run_slice_b41 W A n c m hm
   obtain ⟨A2, n2, c2, e2⟩ := sliced_form A m n c 1
   have HLT : Hid (∀ b ∈ rb (Value.slice A2 n2 c2), b < bd) := Lib.hid (fun b hb' => hbd b (rb_sliced (lo := m) (cap := c) (size := 1) (Nat.le_refl n) b (by rw [e2]; exact hb')))
   rw [e2] at hsl hB2
   have HD2 := Lib.hid hB2
   have HLE := Lib.hid hle
   have HC := Lib.hid hcc
   obtain ⟨q0, q1, -⟩ := (hcc _ (Touch.refl _ _)).1.two
   clear hU hp hb hB hB2 hn hm hle e1 e2 hcc hbd
   go_enter Tryz.func107, Tryz.ntmps107
   go_wp2_with fail
   generalize ((w.alloc (.cells #[.slice A n c, .int .i64 0] 83)).alloc (.cells #[.slice none 0 0, .int .i64 0] 83)) = w0 at *
   have HT0 := Lib.hid ht0
   clear ht0 q0 q1
   refine (HU.out w0 HT0.out).mono ?_
   rintro r w1 ⟨⟨u, rfl, hu⟩, hw1⟩
   have HT1 : Hid (Touch [] w0 w1) := Lib.hid (by subst hw1; exact Touch.refl _ _)
   have HU2 : Hid (Bytes w1 u x) := Lib.hid (by subst hw1; exact hu)
   have KB : Hid (∀ W, Touch [w.heap.size + 1] w1 W → Bytes W.drew u x) := Lib.hid (fun W t => (Reads.touch HU2.out t (fun b hb hm => by rw [List.mem_singleton] at hm; exact (HU2.out.far (HC.out _ HT1.out).2 rd_cells) b hb hm)).touch0 ((Touch.refl _ _).drew))
   obtain ⟨Au, cu, eu, -⟩ := id hu
   subst eu
   clear hu
   clear hw1
   have HB2 := Lib.hid (HC.out _ HT1.out).2
   obtain ⟨p0, p1, f0, f1⟩ := HB2.out.two
   obtain ⟨q0, q1, -⟩ := (HC.out _ HT1.out).1.two
   dsimp only
   go_wp2_with fail
   go_region_with (fail)
   all_goals
    go_wp2_with fail
    obtain ⟨k1, k2, k3⟩ := HB2.out.int2 (.slice A2 n2 c2) (.int .i64 0)
    have k0 := HB2.out.one (.slice A2 n2 c2)
    have k4 := ((HT0.out.then0 HT1.out).step k3 (fun m hm => .inr (by rw [List.mem_singleton] at hm; omega))).drew
    refine bodyPost_ret (v := .tuple #[.slice Au x.length cu, .agg #[.slice A2 n2 c2, .int .i64 0]]) (by simp [results, Tryz.results107, go_sem, k0, k1, k2, iv]) rfl ⟨_, _, rfl, KB.out _ k3, ⟨A2, n2, c2, rfl, fun _ => ⟨Reads.touch0 HD2.out k4, HLE.out, HLT.out⟩⟩, k4⟩
 ·have he' : (e != 0) = true := by simpa using he
  have e1 : rRead [] (pPart l lim) (e, a) = ([], (e, a)) := by unfold rRead; rw [if_neg he]
  rw [e1]
  clear hb
  have HC := Lib.hid hcc
  have HE := Lib.hid he
  obtain ⟨q0, q1, -⟩ := (hcc _ (Touch.refl _ _)).1.two
  clear he e1 hcc
  go_enter Tryz.func107, Tryz.ntmps107
  go_wp2_with fail
  generalize ((w.alloc (.cells #[.slice A n c, .int .i64 e] 83)).alloc (.cells #[.slice none 0 0, .int .i64 0] 83)) = w0 at *
  have HT0 := Lib.hid ht0
  have HB2 := Lib.hid (HC.out _ (Touch.refl _ _)).2
  obtain ⟨p0, p1, f0, f1⟩ := HB2.out.two
  clear ht0
  go_region_with (fail)
  all_goals
   go_wp2_with fail
   obtain ⟨k1, k2, k3⟩ := HB2.out.int2 (.slice A n c) (.int .i64 e)
   have k0 := HB2.out.one (.slice A n c)
   refine bodyPost_ret (v := .tuple #[.slice none 0 0, .agg #[.slice A n c, .int .i64 e]]) (by simp [results, Tryz.results107, go_sem, k0, k1, k2, iv]) rfl ⟨_, _, rfl, Reads.nil _ 1, ⟨A, n, c, rfl, fun h0 => absurd h0 HE.out⟩, ((HT0.out.step k3 (fun m hm => .inr (by rw [List.mem_singleton] at hm; omega))).drew)⟩
theorem list41_any (bd : Nat) (l : List UInt8) (v : Value) (s : Int × Nat) (lim : Int) (w : World) (h : RS w bd l v s) (hl : l.length ≤ 100000) : Calls Tryz.prog 53 #[v, .int .i64 lim] w (R41 (fun W u x => RowI W u x) bd l (rRead [] (pInts l lim) s) w) := by
 obtain ⟨A, n, c, rfl, hb⟩ := h
 obtain ⟨e, a⟩ := s
 simp only at hb
 obtain ⟨ht0, hcc⟩ := boxr w (.slice A n c) e
 unfold WR at ht0 hcc
 by_cases he : e = 0
 ·subst he
  obtain ⟨hB, ha, hbd⟩ := hb rfl
  have hU := fun W (t : Touch [] w W) => list6_any (.slice A n c) (l.drop a) lim W (Reads.touch0 hB t) (by simp; omega)
  have HB := Lib.hid hB
  cases hp : pInts (l.drop a) lim 0 with
  | error k =>
   have hk := pInts_err hp
   have e1 : rRead [] (pInts l lim) (0, a) = ([], (k, a)) := by unfold rRead; simp only [if_true]; rw [pInts_sh, hp]; rfl
   rw [e1]
   rw [hp] at hU
   have HU := Lib.hid hU
   have hk2 : (k != 0) = true := by simpa using hk
   have HK := Lib.hid hk
   have HC := Lib.hid hcc
   clear hU hp hb hB hk e1
   obtain ⟨q0, q1, -⟩ := (hcc _ (Touch.refl _ _)).1.two
   clear hcc
   go_enter Tryz.func53, Tryz.ntmps53
   go_wp2_with fail
   generalize ((w.alloc (.cells #[.slice A n c, .int .i64 0] 83)).alloc (.cells #[.slice none 0 0, .int .i64 0] 83)) = w0 at *
   have HT0 := Lib.hid ht0
   clear ht0 q0 q1
   refine (HU.out w0 HT0.out).mono ?_
   rintro r w1 ⟨rfl, hw1⟩
   have HT1 : Hid (Touch [] w0 w1) := Lib.hid (hw1)
   clear hw1
   have HB2 := Lib.hid (HC.out _ HT1.out).2
   obtain ⟨p0, p1, f0, f1⟩ := HB2.out.two
   dsimp only
   go_wp2_with fail
   obtain ⟨k1, k2, k3⟩ := HB2.out.int2 (.slice none 0 0) (.int .i64 k)
   refine bodyPost_ret (v := .tuple #[.slice none 0 0, .agg #[.slice none 0 0, .int .i64 k]]) (by simp [results, Tryz.results53, go_sem, k1, k2, iv]) rfl ⟨_, _, rfl, Own.nil _ _ _, ⟨none, 0, 0, rfl, fun h0 => absurd h0 HK.out⟩, ((HT0.out.then0 HT1.out).step k3 (fun m hm => .inr (by rw [List.mem_singleton] at hm; omega)))⟩
  | ok x =>
   obtain ⟨x, m⟩ := x
   have hm : m ≤ (l.drop a).length := (pInts_in hp).2.2.2
   have e1 : rRead [] (pInts l lim) (0, a) = (x, (0, a + m)) := by unfold rRead; simp only [if_true]; rw [pInts_sh, hp]; rfl
   rw [e1]
   rw [hp] at hU
   have HU := Lib.hid hU
   obtain ⟨hn, hB2⟩ := bytes_drop hB hm
   rw [← hn] at hB2 hm
   have hle : a + m ≤ l.length := by rw [hn] at hm; simp at hm; omega
   have hsl := fun W => run_slice_b41 W A n c m hm
   obtain ⟨A2, n2, c2, e2⟩ := sliced_form A m n c 1
   have HLT : Hid (∀ b ∈ rb (Value.slice A2 n2 c2), b < bd) := Lib.hid (fun b hb' => hbd b (rb_sliced (lo := m) (cap := c) (size := 1) (Nat.le_refl n) b (by rw [e2]; exact hb')))
   rw [e2] at hsl hB2
   have HD2 := Lib.hid hB2
   have HLE := Lib.hid hle
   have HC := Lib.hid hcc
   obtain ⟨q0, q1, -⟩ := (hcc _ (Touch.refl _ _)).1.two
   clear hU hp hb hB hB2 hn hm hle e1 e2 hcc hbd
   go_enter Tryz.func53, Tryz.ntmps53
   go_wp2_with fail
   generalize ((w.alloc (.cells #[.slice A n c, .int .i64 0] 83)).alloc (.cells #[.slice none 0 0, .int .i64 0] 83)) = w0 at *
   have HT0 := Lib.hid ht0
   clear ht0 q0 q1
   refine (HU.out w0 HT0.out).mono ?_
   rintro r w1 ⟨⟨u, rfl, hu⟩, hw1⟩
   have HT1 : Hid (Touch [] w0 w1) := Lib.hid (hw1)
   have KB : Hid (∀ W, Touch [w.heap.size + 1] w1 W → RowI W.drew u x) := Lib.hid (fun W t => (Own.touch hu t (fun b hb hm => by rw [List.mem_singleton] at hm; subst hm; exact (Own.ne_blk hu (HC.out _ HT1.out).2 (of_decide_eq_true (by kernel_rfl))) hb)).touch0 ((Touch.refl _ _).drew))
   obtain ⟨Au, cu, eu⟩ := Own.form hu
   subst eu
   clear hu
   clear hw1
   have HB2 := Lib.hid (HC.out _ HT1.out).2
   obtain ⟨p0, p1, f0, f1⟩ := HB2.out.two
   obtain ⟨q0, q1, -⟩ := (HC.out _ HT1.out).1.two
   dsimp only
   go_wp2_with fail
   go_region_with (fail)
   all_goals
    go_wp2_with fail
    obtain ⟨k1, k2, k3⟩ := HB2.out.int2 (.slice A2 n2 c2) (.int .i64 0)
    have k0 := HB2.out.one (.slice A2 n2 c2)
    have k4 := ((HT0.out.then0 HT1.out).step k3 (fun m hm => .inr (by rw [List.mem_singleton] at hm; omega))).drew
    refine bodyPost_ret (v := .tuple #[.slice Au x.length cu, .agg #[.slice A2 n2 c2, .int .i64 0]]) (by simp [results, Tryz.results53, go_sem, k0, k1, k2, iv]) rfl ⟨_, _, rfl, KB.out _ k3, ⟨A2, n2, c2, rfl, fun _ => ⟨Reads.touch0 HD2.out k4, HLE.out, HLT.out⟩⟩, k4⟩
 ·have he' : (e != 0) = true := by simpa using he
  have e1 : rRead [] (pInts l lim) (e, a) = ([], (e, a)) := by unfold rRead; rw [if_neg he]
  rw [e1]
  clear hb
  have HC := Lib.hid hcc
  have HE := Lib.hid he
  obtain ⟨q0, q1, -⟩ := (hcc _ (Touch.refl _ _)).1.two
  clear he e1 hcc
  go_enter Tryz.func53, Tryz.ntmps53
  go_wp2_with fail
  generalize ((w.alloc (.cells #[.slice A n c, .int .i64 e] 83)).alloc (.cells #[.slice none 0 0, .int .i64 0] 83)) = w0 at *
  have HT0 := Lib.hid ht0
  have HB2 := Lib.hid (HC.out _ (Touch.refl _ _)).2
  obtain ⟨p0, p1, f0, f1⟩ := HB2.out.two
  clear ht0
  go_region_with (fail)
  all_goals
   go_wp2_with fail
   obtain ⟨k1, k2, k3⟩ := HB2.out.int2 (.slice A n c) (.int .i64 e)
   have k0 := HB2.out.one (.slice A n c)
   refine bodyPost_ret (v := .tuple #[.slice none 0 0, .agg #[.slice A n c, .int .i64 e]]) (by simp [results, Tryz.results53, go_sem, k0, k1, k2, iv]) rfl ⟨_, _, rfl, Own.nil _ _ _, ⟨A, n, c, rfl, fun h0 => absurd h0 HE.out⟩, ((HT0.out.step k3 (fun m hm => .inr (by rw [List.mem_singleton] at hm; omega))).drew)⟩
theorem end41_any (bd : Nat) (l : List UInt8) (v : Value) (s : Int × Nat) (w : World) (h : RS w bd l v s) : Calls Tryz.prog 56 #[v] w fun r w' => r = .returned (.int .i64 (rEnd l s.1 s.2)) ∧ Touch [] w w' := by
 obtain ⟨A, n, c, rfl, hb⟩ := h
 obtain ⟨e, a⟩ := s
 simp only at hb ⊢
 have ht0 : Touch [] w (w.alloc (.cells #[.slice A n c, .int .i64 e] 83)) := (Touch.refl _ _).alloc _
 have b0 : Blk (w.alloc (.cells #[.slice A n c, .int .i64 e] 83)) w.heap.size 83 #[.slice A n c, .int .i64 e] := Blk.new _ _ _
 obtain ⟨q0, q1, -⟩ := b0.two
 clear b0
 unfold rEnd
 by_cases he : e = 0
 ·subst he
  obtain ⟨hB, ha, -⟩ := hb rfl
  have hn : n = (l.drop a).length := by
   obtain ⟨A', c', e1, -⟩ := hB
   injection e1
  have hn2 : n = l.length - a := by rw [hn]; simp
  clear hB hb hn
  rw [if_pos rfl]
  by_cases h5 : a < l.length
  ·rw [if_pos h5]
   have h6 : (0 : Int) < (n : Int) := by omega
   clear hn2
   go_enter Tryz.func56, Tryz.ntmps56
   go_wp2_with fail
   go_ret
   exact ⟨rfl, ht0⟩
  ·rw [if_neg h5]
   have h6 : ¬ (0 : Int) < (n : Int) := by omega
   clear hn2
   go_enter Tryz.func56, Tryz.ntmps56
   go_wp2_with fail
   go_ret
   exact ⟨rfl, ht0⟩
 ·rw [if_neg he]
  have he' : (e == 0) = false := by simpa using he
  clear hb
  go_enter Tryz.func56, Tryz.ntmps56
  go_wp2_with fail
  go_ret
  exact ⟨rfl, ht0⟩
end Go.Proofs.YtedpaajpfaoffaaGreatDoor
namespace Go.Proofs.YtedpaajpfaoffaaGreatDoor
open Go.RowKit
def NamesPost (n lo hi : Nat) (f : Int → List UInt8) (w : World) (r : Ending) (w' : World) : Prop := ∃ b cs, r = .returned (.slice (some ⟨b, 0, none⟩) n n) ∧ w.heap.size ≤ b ∧ Blk w' b 9 cs ∧ (∀ m : Nat, lo ≤ m → m ≤ hi → cs[m]? = some (.string ⟨(f (m : Int)).toArray⟩)) ∧ Touch [] w w'
theorem phases_any (w : World) : Calls Tryz.prog 51 #[] w (NamesPost 6 1 5 phaseL w) := by
 go_enter Tryz.func51, Tryz.ntmps51
 go_wp2_with fail
 go_ret
 refine ⟨w.heap.size, _, rfl, Nat.le_refl _, Blk.new _ _ _, fun m h1 h2 => ?_, (Touch.refl _ _).alloc _⟩
 match m, h1, h2 with
 | 1, _, _ => simp [phaseL]
 | 2, _, _ => simp [phaseL]
 | 3, _, _ => simp [phaseL]
 | 4, _, _ => simp [phaseL]
 | 5, _, _ => simp [phaseL]
theorem kinds_any (w : World) : Calls Tryz.prog 104 #[] w (NamesPost 5 1 4 kindL w) := by
 go_enter Tryz.func104, Tryz.ntmps104
 go_wp2_with fail
 go_ret
 refine ⟨w.heap.size, _, rfl, Nat.le_refl _, Blk.new _ _ _, fun m h1 h2 => ?_, (Touch.refl _ _).alloc _⟩
 match m, h1, h2 with
 | 1, _, _ => simp [kindL]
 | 2, _, _ => simp [kindL]
 | 3, _, _ => simp [kindL]
 | 4, _, _ => simp [kindL]
theorem options_any (w : World) : Calls Tryz.prog 105 #[] w (NamesPost 4 0 3 optL w) := by
 go_enter Tryz.func105, Tryz.ntmps105
 go_wp2_with fail
 go_ret
 refine ⟨w.heap.size, _, rfl, Nat.le_refl _, Blk.new _ _ _, fun m h1 h2 => ?_, (Touch.refl _ _).alloc _⟩
 match m, h1, h2 with
 | 0, _, _ => simp [optL]
 | 1, _, _ => simp [optL]
 | 2, _, _ => simp [optL]
 | 3, _, _ => simp [optL]
def StrsAt (w : World) (v : Value) (xs : List (List UInt8)) : Prop := Reads w 1 v xs.length (xs.map str)
theorem OwnS.reads {w : World} {v : Value} {xs : List (List UInt8)} (h : OwnS w v xs) : StrsAt w v xs := Own.reads h
theorem StrsAt.addr {w : World} {A : Option Addr} {cap : Nat} {xs : List (List UInt8)} (h : StrsAt w (.slice A xs.length cap) xs) {k : Nat} (hk : k < xs.length) : ∃ b off, A = some ⟨b, off, none⟩ ∧ ∀ w', Touch [] w w' → w'.cell? ⟨b, off + k, none⟩ = some (.string ⟨(xs[k]).toArray⟩) := by
 obtain ⟨A', cap', e, h1, h2, h3, h4⟩ := h
 injection e with e1 e2 e3
 subst e1 e3
 obtain ⟨b, off, rfl, hb, hc⟩ := h4 (by omega)
 refine ⟨b, off, rfl, fun w' t => ?_⟩
 rw [t.cell (p := ⟨b, off + k, none⟩) hb (by simp)]
 exact hc k _ (by simp [hk, str])
theorem StrsAt.form {w : World} {v : Value} {xs : List (List UInt8)} (h : StrsAt w v xs) : ∃ A cap, v = .slice A xs.length cap ∧ xs.length ≤ cap ∧ cap ≤ 9223372036854775807 := by
 obtain ⟨A', cap', e, h1, h2, -⟩ := h
 unfold maxLen at h2
 exact ⟨A', cap', e, h1, by omega⟩
theorem same_any (v u : Value) (xs ys : List (List UInt8)) (w : World) (hv : StrsAt w v xs) (hu : StrsAt w u ys) : Calls Tryz.prog 17 #[v, u] w fun r w' => r = .returned (.bool (decide (xs = ys))) ∧ Touch [] w w' := by
 obtain ⟨A, cap, rfl, c1, c2⟩ := hv.form
 obtain ⟨A', cap', rfl, c3, c4⟩ := hu.form
 by_cases hl : xs.length = ys.length
 ·have hl' : ((xs.length : Int) != (ys.length : Int)) = false := by simp [hl]
  have HL := Lib.hid hl
  go_enter Tryz.func17, Tryz.ntmps17
  go_wp2_with fail
  go_loopw [5] (fun ti wr => ∃ k : Nat, k ≤ xs.length ∧ ti = .int .i64 k ∧ Touch [] w wr ∧ Hid (xs.take k = ys.take k)) (fun ti _ => xs.length - (intOf ti).toNat)
  case atStart => exact ⟨0, by omega, rfl, Touch.refl _ _, Lib.hid rfl⟩
  case round =>
   obtain ⟨k, hk, rfl, ht, HT⟩ := hrel
   by_cases hlt : k < xs.length
   ·have hlt' : (k : Int) < (xs.length : Int) := by omega
    have hlt2 : k < ys.length := by have := HL.out; omega
    obtain ⟨b, off, rfl, hc⟩ := hv.addr hlt
    obtain ⟨b', off', rfl, hc'⟩ := hu.addr hlt2
    have q0 := hc _ ht
    have q1 := hc' _ ht
    have HN : Hid (xs[k] = ys[k] → xs.take (k + 1) = ys.take (k + 1)) := Lib.hid (fun e => by rw [List.take_succ_eq_append_getElem hlt, List.take_succ_eq_append_getElem hlt2, HT.out, e])
    have HB : Hid (xs[k] ≠ ys[k] → ¬ xs = ys) := Lib.hid (fun e h => by subst h; exact e rfl)
    generalize xs[k] = x at *
    generalize ys[k] = y at *
    by_cases he : x = y
    ·have HN2 := Lib.hid (HN.out he)
     subst he
     clear hc hc' HN HB HT hl hl'
     go_wp2_with fail
     go_quiet (fail)
     go_wp2_with fail
     exact ⟨⟨k + 1, by omega, by go_num, ht.drewN _, HN2⟩, by simp [intOf]; omega⟩
    ·have HF := Lib.hid (HB.out he)
     have he2 : (x == y) = false := beq_false_of_ne he
     clear hc hc' HN HB HT hl hl' he
     go_wp2_with fail
     go_quiet (fail)
     go_wp2_with fail
     go_ret
     refine ⟨?_, ht.drewN _⟩
     rw [decide_eq_false HF.out]
     rfl
   ·have hlt' : ¬ (k : Int) < (xs.length : Int) := by omega
    have HF : Hid (xs = ys) := Lib.hid (by
     have h1 := HT.out
     rw [List.take_of_length_le (by omega), List.take_of_length_le (by have := HL.out; omega)] at h1
     exact h1)
    clear hk HT hl hl'
    go_wp2_with fail
    go_ret
    refine ⟨?_, ht⟩
    rw [decide_eq_true HF.out]
    rfl
 ·have hl' : ((xs.length : Int) != (ys.length : Int)) = true := by simp; omega
  have HF : Hid (¬ xs = ys) := Lib.hid (fun e => hl (by rw [e]))
  clear hl
  go_enter Tryz.func17, Tryz.ntmps17
  go_wp2_with fail
  go_ret
  refine ⟨?_, Touch.refl _ _⟩
  rw [decide_eq_false HF.out]
  rfl
def rowL (f : Int → List UInt8) (xs : List Int) : List UInt8 := if xs = [] then [32, 45] else xs.flatMap (fun n => 32 :: f n)
theorem RowI.addr {w : World} {A : Option Addr} {cap : Nat} {xs : List Int} (h : RowI w (.slice A xs.length cap) xs) {k : Nat} (hk : k < xs.length) : ∃ b off, A = some ⟨b, off, none⟩ ∧ ∀ w', Touch [] w w' → w'.cell? ⟨b, off + k, none⟩ = some (.int .i64 xs[k]) := by
 obtain ⟨A', cap', e, h1, h2, h3, h4⟩ := Own.reads h
 injection e with e1 e2 e3
 subst e1 e3
 obtain ⟨b, off, rfl, hb, hc⟩ := h4 (by omega)
 refine ⟨b, off, rfl, fun w' t => ?_⟩
 rw [t.cell (p := ⟨b, off + k, none⟩) hb (by simp)]
 exact hc k _ (by simp [hk, I])
theorem RowI.cap {w : World} {v : Value} {xs : List Int} (h : RowI w v xs) : ∃ A cap, v = .slice A xs.length cap ∧ xs.length ≤ cap ∧ cap ≤ 9223372036854775807 := by
 obtain ⟨A', cap', e, h1, h2, -⟩ := Own.reads h
 unfold maxLen at h2
 exact ⟨A', cap', e, h1, by omega⟩
theorem flat_succ {f : Int → List UInt8} {xs : List Int} {k : Nat} (hk : k < xs.length) : (xs.take (k + 1)).flatMap (fun n => 32 :: f n) = ((xs.take k).flatMap (fun n => 32 :: f n) ++ [32]) ++ f xs[k] := by
 rw [List.take_succ_eq_append_getElem hk, List.flatMap_append]
 simp
theorem flat_le {f : Int → List UInt8} {m : Nat} : ∀ (xs : List Int), (∀ n ∈ xs, (f n).length ≤ m) → (xs.flatMap (fun n => 32 :: f n)).length ≤ (m + 1) * xs.length
 | [], h => by simp
 | x :: xs, h => by
  have h1 := h x (by simp)
  have h2 := flat_le xs (fun n hn => h n (by simp [hn]))
  simp only [List.flatMap_cons, List.length_append, List.length_cons, Nat.mul_succ]
  omega
theorem rowMoney_any (v : Value) (xs : List Int) (w : World) (hv : RowI w v xs) (hf : ∀ n ∈ xs, Fits n) (hl : xs.length ≤ 1000) : Calls Tryz.prog 54 #[v, .bool true] w fun r w' => r = .returned (.string ⟨(rowL moneyL xs).toArray⟩) ∧ Touch [] w w' := by
 obtain ⟨A, cap, rfl, c1, c2⟩ := hv.cap
 by_cases hx : xs = []
 ·subst hx
  go_enter Tryz.func54, Tryz.ntmps54
  go_wp2_with fail
  go_ret
  exact ⟨rfl, Touch.refl _ _⟩
 ·have hpos : 0 < xs.length := List.length_pos_iff.2 hx
  have hne : ((xs.length : Int) == 0) = false := by rw [beq_eq_false_iff_ne]; omega
  have HX : Hid (rowL moneyL xs = xs.flatMap (fun n => 32 :: moneyL n)) := Lib.hid (by unfold rowL; rw [if_neg hx])
  have HLE := Lib.hid (fun (k : Nat) => flat_le (f := moneyL) (m := 100) (xs.take k) (fun n hn => money_le n (hf n (List.mem_of_mem_take hn)).1 (hf n (List.mem_of_mem_take hn)).2))
  clear hx
  go_enter Tryz.func54, Tryz.ntmps54
  go_wp2_with fail
  go_loopw [5, 6] (fun tq ti wr => ∃ (k : Nat) (out : List UInt8), k ≤ xs.length ∧ ti = .int .i64 k ∧ tq = .string ⟨out.toArray⟩ ∧ Hid (out = (xs.take k).flatMap (fun n => 32 :: moneyL n)) ∧ Touch [] w wr) (fun _ ti _ => xs.length - (intOf ti).toNat)
  case atStart => exact ⟨0, [], by omega, rfl, rfl, Lib.hid (by simp), Touch.refl _ _⟩
  case round =>
   obtain ⟨k, out, hk, rfl, rfl, HO, ht⟩ := hrel
   by_cases hlt : k < xs.length
   ·have hlt' : (k : Int) < (xs.length : Int) := by omega
    obtain ⟨b, off, rfl, hc⟩ := hv.addr hlt
    have q0 := hc _ ht
    have hol : out.length ≤ 101000 := by
     have h1 := HLE.out k
     rw [← HO.out] at h1
     have h2 : (xs.take k).length ≤ 1000 := by simp; omega
     have h3 : (100 + 1) * (xs.take k).length ≤ 101 * 1000 := Nat.mul_le_mul (by omega) h2
     omega
    have hs1 : ¬ 9223372036854775807 < (out.length : Int) + 1 := by omega
    have hs1' : ¬ 9223372036854775807 < out.length + 1 := by omega
    have HF := Lib.hid (hf _ (List.getElem_mem hlt))
    have HN := Lib.hid (flat_succ (f := moneyL) hlt)
    have hle : (moneyL xs[k]).length ≤ 100 := (fun n hn => money_le n (hf n (hn)).1 (hf n (hn)).2) _ (List.getElem_mem hlt)
    generalize xs[k] = x at *
    have HCON := Lib.hid (fun W => refMoney_any x W HF.out.1 HF.out.2)
    have hs2 : ¬ 9223372036854775807 < out.length + 1 + (moneyL x).length := by omega
    clear hc
    go_wp2_with fail
    refine (HCON.out _).mono ?_
    rintro r w1 ⟨rfl, ht1⟩
    go_wp2_with fail
    go_roundw
    case rel =>
     refine ⟨k + 1, out ++ [32] ++ moneyL x, by omega, by go_num, ?_, Lib.hid (by rw [HN.out, ← HO.out]), ht.then0 ht1⟩
     rw [show (ByteArray.mk #[32]) = ByteArray.mk [32].toArray from rfl, tx_add, tx_add]
    case measure => simp [intOf]; omega
   ·have hlt' : ¬ (k : Int) < (xs.length : Int) := by omega
    have HK := Lib.hid (show k = xs.length by omega)
    clear hk
    go_wp2_with fail
    go_ret
    refine ⟨?_, ht⟩
    rw [HX.out, HO.out, HK.out, List.take_length]
    rfl
theorem rowPlain_any (v : Value) (xs : List Int) (w : World) (hv : RowI w v xs) (hf : ∀ n ∈ xs, Fits n) (hl : xs.length ≤ 1000) : Calls Tryz.prog 54 #[v, .bool false] w fun r w' => r = .returned (.string ⟨(rowL Lib.itoa xs).toArray⟩) ∧ Touch [] w w' := by
 obtain ⟨A, cap, rfl, c1, c2⟩ := hv.cap
 by_cases hx : xs = []
 ·subst hx
  go_enter Tryz.func54, Tryz.ntmps54
  go_wp2_with fail
  go_ret
  exact ⟨rfl, Touch.refl _ _⟩
 ·have hpos : 0 < xs.length := List.length_pos_iff.2 hx
  have hne : ((xs.length : Int) == 0) = false := by rw [beq_eq_false_iff_ne]; omega
  have HX : Hid (rowL Lib.itoa xs = xs.flatMap (fun n => 32 :: Lib.itoa n)) := Lib.hid (by unfold rowL; rw [if_neg hx])
  have HLE := Lib.hid (fun (k : Nat) => flat_le (f := Lib.itoa) (m := 100) (xs.take k) (fun n hn => Nat.le_trans (itoa_le20 n (hf n (List.mem_of_mem_take hn)).1 (hf n (List.mem_of_mem_take hn)).2) (by omega)))
  clear hx
  go_enter Tryz.func54, Tryz.ntmps54
  go_wp2_with fail
  go_loopw [5, 6] (fun tq ti wr => ∃ (k : Nat) (out : List UInt8), k ≤ xs.length ∧ ti = .int .i64 k ∧ tq = .string ⟨out.toArray⟩ ∧ Hid (out = (xs.take k).flatMap (fun n => 32 :: Lib.itoa n)) ∧ Touch [] w wr) (fun _ ti _ => xs.length - (intOf ti).toNat)
  case atStart => exact ⟨0, [], by omega, rfl, rfl, Lib.hid (by simp), Touch.refl _ _⟩
  case round =>
   obtain ⟨k, out, hk, rfl, rfl, HO, ht⟩ := hrel
   by_cases hlt : k < xs.length
   ·have hlt' : (k : Int) < (xs.length : Int) := by omega
    obtain ⟨b, off, rfl, hc⟩ := hv.addr hlt
    have q0 := hc _ ht
    have hol : out.length ≤ 101000 := by
     have h1 := HLE.out k
     rw [← HO.out] at h1
     have h2 : (xs.take k).length ≤ 1000 := by simp; omega
     have h3 : (100 + 1) * (xs.take k).length ≤ 101 * 1000 := Nat.mul_le_mul (by omega) h2
     omega
    have hs1 : ¬ 9223372036854775807 < (out.length : Int) + 1 := by omega
    have hs1' : ¬ 9223372036854775807 < out.length + 1 := by omega
    have HF := Lib.hid (hf _ (List.getElem_mem hlt))
    have HN := Lib.hid (flat_succ (f := Lib.itoa) hlt)
    have hle : (Lib.itoa xs[k]).length ≤ 100 := (fun n hn => Nat.le_trans (itoa_le20 n (hf n (hn)).1 (hf n (hn)).2) (by omega)) _ (List.getElem_mem hlt)
    generalize xs[k] = x at *
    have HCON := Lib.hid (fun W => plain_any x W HF.out.1 HF.out.2)
    have hs2 : ¬ 9223372036854775807 < out.length + 1 + (Lib.itoa x).length := by omega
    clear hc
    go_wp2_with fail
    refine (HCON.out _).mono ?_
    rintro r w1 ⟨rfl, ht1⟩
    go_wp2_with fail
    go_roundw
    case rel =>
     refine ⟨k + 1, out ++ [32] ++ Lib.itoa x, by omega, by go_num, ?_, Lib.hid (by rw [HN.out, ← HO.out]), ht.then0 ht1⟩
     rw [show (ByteArray.mk #[32]) = ByteArray.mk [32].toArray from rfl, tx_add, tx_add]
    case measure => simp [intOf]; omega
   ·have hlt' : ¬ (k : Int) < (xs.length : Int) := by omega
    have HK := Lib.hid (show k = xs.length by omega)
    clear hk
    go_wp2_with fail
    go_ret
    refine ⟨?_, ht⟩
    rw [HX.out, HO.out, HK.out, List.take_length]
    rfl
end Go.Proofs.YtedpaajpfaoffaaGreatDoor
