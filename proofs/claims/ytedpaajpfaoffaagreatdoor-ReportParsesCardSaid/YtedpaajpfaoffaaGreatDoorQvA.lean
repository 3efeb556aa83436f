/- ratio.Valid, Sign. -/
import Derived.Test.YtedpaajpfaoffaaGreatDoorNzB
set_option linter.all false
set_option maxHeartbeats 4000000
set_option maxRecDepth 100000
namespace Go.Proofs.YtedpaajpfaoffaaGreatDoor
open Go.RowKit
theorem okI_inv {n : Bool} {ds : List Nat} (hb : Below_ 256 ds) (h : okI n ds = true) : ds = dg (dv ds) ∧ dv ds < Top ∧ (n = true → 0 < dv ds) := by
 cases ds with
 | nil =>
  refine ⟨rfl, by unfold dv Top; simp [nv], fun hn => ?_⟩
  rw [hn] at h
  cases h
 | cons d l =>
  unfold okI at h
  simp only [Bool.and_eq_true, decide_eq_true_eq] at h
  have e := dg_dv hb (fun d' l' e => by injection e with e1 e2; rw [← e1]; exact h.2)
  have h1 : dv (d :: l) < Top := by rw [← top_dg, e]; exact h.1
  refine ⟨e.symm, h1, fun _ => ?_⟩
  rw [← dg_len_pos, e]
  simp
theorem IntAt.ex {w : World} {n : Bool} {N : Nat} {x : Value} (h : IntAt w n N x) : ∃ A k c, x = .agg #[.bool n, .slice A k c] ∧ Dgs w (.slice A k c) (dg N) := h
def okQ (n1 : Bool) (ds1 : List Nat) (n2 : Bool) (ds2 : List Nat) : Bool := okI n2 ds2 && !n2 && decide (0 < ds2.length) && okI n1 ds1 && decide (Nat.gcd (dv ds1) (dv ds2) = 1)
theorem sgn_pos {n : Bool} {ds : List Nat} : sgnI n ds ≤ 0 ↔ (okI n ds && !n && decide (0 < ds.length)) = false := by
 unfold sgnI
 cases okI n ds <;> cases n <;> simp
 ·rcases Nat.eq_zero_or_pos ds.length with h | h
  ·have := List.eq_nil_of_length_eq_zero h; subst this; simp
  ·have : ds ≠ [] := fun e => by subst e; simp at h
   simp [this]
 ·split <;> simp
theorem cmp_one (G : Nat) : (cmpI G 1 == 0) = decide (G = 1) := by
 unfold cmpI
 by_cases h : G = 1
 ·subst h; rfl
 ·have : G = 0 ∨ 1 < G := by omega
  rcases this with h1 | h1
  ·subst h1; rfl
  ·rw [if_neg (by omega), if_pos h1]; simp [h]
def QCell (W : World) (g : Nat) (n1 : Bool) (d1 : Value) (n2 : Bool) (d2 : Value) : Prop := W.cell? ⟨g, 0, none⟩ = some (.bool n1) ∧ W.cell? ⟨g, 1, none⟩ = some d1 ∧ W.cell? ⟨g, 2, none⟩ = some (.bool n2) ∧ W.cell? ⟨g, 3, none⟩ = some d2
theorem Blk.qcell {w w' : World} {g : Nat} {t : TypeId} {n1 n2 : Bool} {d1 d2 : Value} (h : Blk w g t #[.bool n1, d1, .bool n2, d2]) (ht : Touch [] w w') : QCell w' g n1 d1 n2 d2 := by
 have h := h.touch ht (by simp)
 exact ⟨(h.cell 0).trans rfl, (h.cell 1).trans rfl, (h.cell 2).trans rfl, (h.cell 3).trans rfl⟩
theorem boxq (w : World) (n1 n2 : Bool) (d1 d2 : Value) : Touch [] w (w.alloc (.cells #[.bool n1, d1, .bool n2, d2] 34)) ∧ ∀ W, Touch [] (w.alloc (.cells #[.bool n1, d1, .bool n2, d2] 34)) W → QCell W w.heap.size n1 d1 n2 d2 := by
 have b1 : Blk (w.alloc (.cells #[.bool n1, d1, .bool n2, d2] 34)) w.heap.size 34 #[.bool n1, d1, .bool n2, d2] := Blk.new _ _ _
 exact ⟨(Touch.refl _ _).alloc _, fun W t => b1.qcell t⟩
theorem nGcd_bad (n1 n2 : Bool) (d1 d2 : Value) (ds1 ds2 : List Nat) (w : World) (h1 : Dgs w d1 ds1) (h2 : Dgs w d2 ds2) (hb : okI n1 ds1 = false) :
  Calls Tryz.prog 77 #[.agg #[.bool n1, d1], .agg #[.bool n2, d2]] w fun r w' => r = .returned (.tuple #[.agg #[.bool false, .slice none 0 0], .int .i64 2]) ∧ Touch [] w w' := by
 have HV1 := Lib.hid (fun W (t : Touch [] w W) => hb ▸ nValid_any n1 d1 _ W (h1.touch0 t))
 obtain ⟨A1, m1, c1, rfl⟩ := h1.form3
 obtain ⟨A2, m2, c2, rfl⟩ := h2.form3
 obtain ⟨ht0, hcc⟩ := box2r w n1 n2 (.slice A1 m1 c1) (.slice A2 m2 c2)
 unfold W2I at ht0 hcc
 have HC := Lib.hid hcc
 clear h1 h2 hb hcc
 go_enter Tryz.func77, Tryz.ntmps77
 go_wp2_with fail
 generalize (((w.alloc (.cells #[.bool n1, .slice A1 m1 c1] 32)).alloc (.cells #[.bool n2, .slice A2 m2 c2] 32)).alloc (.cells #[.bool false, .slice none 0 0] 32)) = w0 at *
 with_reducible refine (HV1.out w0 ht0).mono ?_
 rintro r w1 ⟨rfl, ht1⟩
 obtain ⟨_, _, b2⟩ := HC.out w1 ht1
 have q0 := b2.cell 0
 have q1 := b2.cell 1
 have f0 := b2.frozen 0
 have f1 := b2.frozen 1
 simp at q0 q1
 have HB2 := Lib.hid b2
 have HT := Lib.hid (ht0.then0 ht1)
 have HT0 := Lib.hid ht0
 dsimp only
 clear b2
 go_wp2_with fail
 obtain ⟨k0, k1, kt⟩ := HB2.out.int2 (.bool false) (.slice none 0 0)
 refine bodyPost_ret (v := .tuple #[.agg #[.bool false, .slice none 0 0], .int .i64 2]) (by simp [results, Tryz.results77, go_sem, k0, k1]) rfl ⟨rfl, ?_⟩
 exact HT.out.step kt (fun m hm => .inr (by rw [List.mem_singleton] at hm; have := HT0.out.size; omega))
theorem qValid_any (n1 n2 : Bool) (d1 d2 : Value) (ds1 ds2 : List Nat) (w : World) (h1 : Dgs w d1 ds1) (h2 : Dgs w d2 ds2) : Calls Tryz.prog 25 #[.agg #[.bool n1, d1, .bool n2, d2]] w fun r w' => r = .returned (.bool (okQ n1 ds1 n2 ds2)) ∧ Touch [] w w' := by
 have HS := Lib.hid (fun W (t : Touch [] w W) => nSign_any n2 d2 ds2 W (h2.touch0 t))
 have HH1 := Lib.hid h1
 have HH2 := Lib.hid h2
 have HSP := Lib.hid (sgn_pos (n := n2) (ds := ds2))
 have HOK : Hid (okQ n1 ds1 n2 ds2 = (okI n2 ds2 && !n2 && decide (0 < ds2.length) && okI n1 ds1 && decide (Nat.gcd (dv ds1) (dv ds2) = 1))) := Lib.hid rfl
 generalize okQ n1 ds1 n2 ds2 = res at *
 obtain ⟨A1, m1, c1, rfl⟩ := h1.form3
 obtain ⟨A2, m2, c2, rfl⟩ := h2.form3
 obtain ⟨ht0, hcc⟩ := boxq w n1 n2 (.slice A1 m1 c1) (.slice A2 m2 c2)
 have HC := Lib.hid hcc
 obtain ⟨p0, p1, p2, p3⟩ := hcc _ (Touch.refl _ _)
 generalize sgnI n2 ds2 = sg2 at *
 clear h1 h2 hcc
 go_enter Tryz.func25, Tryz.ntmps25
 go_wp2_with fail
 generalize (w.alloc (.cells #[.bool n1, .slice A1 m1 c1, .bool n2, .slice A2 m2 c2] 34)) = w0 at *
 with_reducible refine (HS.out w0 ht0).mono ?_
 rintro r w1 ⟨rfl, ht1⟩
 dsimp only
 clear p0 p1 p2 p3
 by_cases hs : sg2 ≤ 0
 ·go_wp2_with fail
  go_ret
  exact ⟨by rw [HOK.out, HSP.out.1 hs]; rfl, ht0.then0 ht1⟩
 ·have HB : Hid (okI n2 ds2 = true ∧ n2 = false ∧ 0 < ds2.length) := Lib.hid (by
   have h : (okI n2 ds2 && !n2 && decide (0 < ds2.length)) = true := by
    cases hh : (okI n2 ds2 && !n2 && decide (0 < ds2.length)) with
    | false => exact absurd (HSP.out.2 hh) hs
    | true => rfl
   simp only [Bool.and_eq_true, Bool.not_eq_true', decide_eq_true_eq] at h
   exact ⟨h.1.1, h.1.2, h.2⟩)
  obtain ⟨p0, p1, p2, p3⟩ := HC.out w1 ht1
  by_cases ho : okI n1 ds1 = true
  case neg =>
   have HGB := Lib.hid (nGcd_bad n1 n2 _ _ ds1 ds2 w1 (HH1.out.touch0 (ht0.then0 ht1)) (HH2.out.touch0 (ht0.then0 ht1)) (by simpa using ho))
   have HO := Lib.hid ho
   have HT := Lib.hid (ht0.then0 ht1)
   clear ho ht0 ht1
   go_wp2_with fail
   with_reducible refine HGB.out.mono ?_
   rintro r w2 ⟨rfl, ht2⟩
   dsimp only
   have HT2 := Lib.hid (HT.out.then0 ht2)
   clear ht2 p0 p1 p2 p3
   go_wp2_with fail
   go_quiet (fail)
   go_wp2_with fail
   go_ret
   refine ⟨?_, ?_⟩
   ·have h := HO.out
    rw [HOK.out]
    simp only [Bool.not_eq_true] at h
    rw [h]
    simp
   ·exact (HT2.out.alloc _).drewN _
  case pos =>
   obtain ⟨e1, a1, a2⟩ := okI_inv HH1.out.below ho
   obtain ⟨e2, b1, b2⟩ := okI_inv HH2.out.below HB.out.1
   have HG := Lib.hid (nGcd_any n1 n2 (.slice A1 m1 c1) (.slice A2 m2 c2) (dv ds1) (dv ds2) w1 (by rw [← e1]; exact HH1.out.touch0 (ht0.then0 ht1)) (by rw [← e2]; exact HH2.out.touch0 (ht0.then0 ht1)) a1 b1 a2 b2)
   have HGT : Hid (Nat.gcd (dv ds1) (dv ds2) < Top) := Lib.hid (by
    have h1 : 0 < dv ds2 := by
     rw [← dg_len_pos, ← e2]
     exact HB.out.2.2
    exact Nat.lt_of_le_of_lt (Nat.gcd_le_right _ h1) b1)
   have HR : Hid (res = true ↔ Nat.gcd (dv ds1) (dv ds2) = 1) := Lib.hid (by
    rw [HOK.out, HB.out.1, HB.out.2.1, ho]
    simp [HB.out.2.2])
   clear HOK
   generalize Nat.gcd (dv ds1) (dv ds2) = G at *
   have HO := Lib.hid ho
   have HT := Lib.hid (ht0.then0 ht1)
   clear ho ht0 ht1 e1 a1 a2 e2 b1 b2
   go_wp2_with fail
   with_reducible refine HG.out.mono ?_
   rintro r w2 ⟨x, rfl, ⟨A3, m3, c3, rfl, hd3⟩, ht2⟩
   dsimp only
   have hT2 := HT.out.then0 ht2
   have b3 : Blk (w2.alloc (.cells #[.bool false, .slice A3 m3 c3] 32)) w2.heap.size 32 #[.bool false, .slice A3 m3 c3] := Blk.new _ _ _
   have HT2 : Hid (Touch [] w (w2.alloc (.cells #[.bool false, .slice A3 m3 c3] 32))) := Lib.hid (hT2.alloc _)
   have HD : Hid (Dgs (w2.alloc (.cells #[.bool false, .slice A3 m3 c3] 32)) (.slice A3 m3 c3) (dg G)) := Lib.hid (hd3.touch0 ((Touch.refl _ _).alloc _))
   clear p0 p1 p2 p3 ht2 hT2 hd3
   go_wp2_with fail
   generalize w2.heap.size = g3 at *
   generalize (w2.alloc (.cells #[.bool false, .slice A3 m3 c3] 32)) = w3 at *
   have HC3 := Lib.hid (fun W (t : Touch [] w3 W) => b3.icell t)
   clear b3
   have hT := (Touch.refl [] w3).drew
   go_region_held3 (fun W' => W'.cell? ⟨g3, 0, none⟩ = some (.bool false) ∧ W'.cell? ⟨g3, 1, none⟩ = some (.slice A3 m3 c3)) (exact HC3.out _ hT) (first
    | (go_at_call 79; with_reducible refine (nOf1_any _).mono ?_; rintro r w6 ⟨x6, rfl, hx6, ht6⟩; obtain ⟨A6, m6, c6, e6, hd6⟩ := hx6.ex; subst e6; (try dsimp only); have HD6 := Lib.hid hd6; replace hT := hT.then0 ht6; clear ht6 hd6)
    | (go_at_call 78; with_reducible refine (nCmp_any _ _ G 1 _ (HD.out.touch0 hT) HD6.out HGT.out (show 1 < Top by unfold Top; exact Nat.one_lt_pow (by omega) (by omega))).mono ?_; rintro r w6 ⟨rfl, ht6⟩; (try dsimp only); replace hT := hT.then0 ht6; clear ht6))
   all_goals
    have HTE := Lib.hid (HT2.out.then0 hT)
    go_wp2_with fail
    go_ret
    refine ⟨?_, HTE.out⟩
    have h := HR.out
    have h2 := cmp_one G
    rw [h2]
    congr 2
    cases res with
    | true => simp at h; simp [h]
    | false => simp at h; simp [h]
theorem okQ_inv {n1 n2 : Bool} {ds1 ds2 : List Nat} (hb1 : Below_ 256 ds1) (hb2 : Below_ 256 ds2) (h : okQ n1 ds1 n2 ds2 = true) : ∃ A B, ds1 = dg A ∧ ds2 = dg B ∧ n2 = false ∧ A < Top ∧ B < Top ∧ 0 < B ∧ (n1 = true → 0 < A) ∧ Nat.gcd A B = 1 := by
 unfold okQ at h
 simp only [Bool.and_eq_true, Bool.not_eq_true', decide_eq_true_eq] at h
 obtain ⟨⟨⟨⟨h1, h2⟩, h3⟩, h4⟩, h5⟩ := h
 obtain ⟨e1, a1, a2⟩ := okI_inv hb1 h4
 obtain ⟨e2, b1, b2⟩ := okI_inv hb2 h1
 exact ⟨dv ds1, dv ds2, e1, e2, h2, a1, b1, by rw [← dg_len_pos, ← e2]; exact h3, a2, h5⟩
theorem okQ_dg {n1 : Bool} {A B : Nat} (hA : A < Top) (hB : B < Top) (hB0 : 0 < B) (s1 : n1 = true → 0 < A) (hg : Nat.gcd A B = 1) : okQ n1 (dg A) false (dg B) = true := by
 unfold okQ
 rw [okI_dg hA s1, okI_dg hB (by simp), dv_dg, dv_dg]
 simp [dg_len_pos, hB0, hg]
theorem qValid_dg (n1 : Bool) (d1 d2 : Value) (A B : Nat) (w : World) (h1 : Dgs w d1 (dg A)) (h2 : Dgs w d2 (dg B)) (hA : A < Top) (hB : B < Top) (hB0 : 0 < B) (s1 : n1 = true → 0 < A) (hg : Nat.gcd A B = 1) : Calls Tryz.prog 25 #[.agg #[.bool n1, d1, .bool false, d2]] w fun r w' => r = .returned (.bool true) ∧ Touch [] w w' := by
 have := qValid_any n1 false d1 d2 _ _ w h1 h2
 rwa [okQ_dg hA hB hB0 s1 hg] at this
theorem qSign_any (n1 : Bool) (d1 d2 : Value) (A B : Nat) (w : World) (h1 : Dgs w d1 (dg A)) (h2 : Dgs w d2 (dg B)) (hA : A < Top) (hB : B < Top) (hB0 : 0 < B) (s1 : n1 = true → 0 < A) (hg : Nat.gcd A B = 1) : Calls Tryz.prog 26 #[.agg #[.bool n1, d1, .bool false, d2]] w fun r w' => r = .returned (.int .i64 (if A = 0 then 0 else if n1 then -1 else 1)) ∧ Touch [] w w' := by
 have HV := Lib.hid (fun W (t : Touch [] w W) => qValid_dg n1 d1 d2 A B W (h1.touch0 t) (h2.touch0 t) hA hB hB0 s1 hg)
 have HS := Lib.hid (fun W (t : Touch [] w W) => nSign_any n1 d1 _ W (h1.touch0 t))
 have HE : Hid (sgnI n1 (dg A) = if A = 0 then 0 else if n1 then -1 else 1) := Lib.hid (by
  unfold sgnI
  rw [okI_dg hA s1]
  have := dg_nil_iff (N := A)
  rw [← List.length_eq_zero_iff] at this
  simp [this])
 rw [HE.out] at HS
 generalize (if A = 0 then (0 : Int) else if n1 then -1 else 1) = res at *
 obtain ⟨A1, m1, c1, rfl⟩ := h1.form3
 obtain ⟨A2, m2, c2, rfl⟩ := h2.form3
 obtain ⟨ht0, hcc⟩ := boxq w n1 false (.slice A1 m1 c1) (.slice A2 m2 c2)
 have HC := Lib.hid hcc
 clear h1 h2 hcc HE hA hB hB0 s1 hg
 go_enter Tryz.func26, Tryz.ntmps26
 go_wp2_with fail
 generalize (w.alloc (.cells #[.bool n1, .slice A1 m1 c1, .bool false, .slice A2 m2 c2] 34)) = w0 at *
 with_reducible refine (HV.out w0 ht0).mono ?_
 rintro r w1 ⟨rfl, ht1⟩
 dsimp only
 obtain ⟨p0, p1, p2, p3⟩ := HC.out w1 ht1
 go_wp2_with fail
 with_reducible refine (HS.out w1 (ht0.then0 ht1)).mono ?_
 rintro r w2 ⟨rfl, ht2⟩
 dsimp only
 go_wp2_with fail
 go_ret
 exact ⟨rfl, (ht0.then0 ht1).then0 ht2⟩
end Go.Proofs.YtedpaajpfaoffaaGreatDoor
namespace Go.Proofs.YtedpaajpfaoffaaGreatDoor
open Go.RowKit
theorem box2q (w : World) (n1 n2 : Bool) (d1 d2 : Value) : Touch [] w ((W2I w n1 d1 n2 d2).alloc (.cells #[.bool false, .slice none 0 0, .bool false, .slice none 0 0] 34)) ∧ ∀ W, Touch [] ((W2I w n1 d1 n2 d2).alloc (.cells #[.bool false, .slice none 0 0, .bool false, .slice none 0 0] 34)) W → ICell W w.heap.size n1 d1 ∧ ICell W (w.heap.size + 1) n2 d2 ∧ Blk W (w.heap.size + 1 + 1) 34 #[.bool false, .slice none 0 0, .bool false, .slice none 0 0] := by
 have b1 : Blk (W1I w n1 d1) w.heap.size 32 #[.bool n1, d1] := Blk.new _ _ _
 have b2 : Blk (W2I w n1 d1 n2 d2) (w.heap.size + 1) 32 #[.bool n2, d2] := by
  have := Blk.new (W1I w n1 d1) 32 #[.bool n2, d2]
  simpa using this
 have b3 : Blk ((W2I w n1 d1 n2 d2).alloc (.cells #[.bool false, .slice none 0 0, .bool false, .slice none 0 0] 34)) (w.heap.size + 1 + 1) 34 #[.bool false, .slice none 0 0, .bool false, .slice none 0 0] := by
  have := Blk.new (W2I w n1 d1 n2 d2) 34 #[.bool false, .slice none 0 0, .bool false, .slice none 0 0]
  simpa using this
 exact ⟨(((Touch.refl _ _).alloc _).alloc _).alloc _, fun W t => ⟨((b1.alloc _).alloc _).icell t, (b2.alloc _).icell t, b3.touch t (by simp)⟩⟩
def RatAt (w' : World) (n : Bool) (A B : Nat) (x : Value) : Prop := ∃ A1 k1 c1 A2 k2 c2, x = .agg #[.bool n, .slice A1 k1 c1, .bool false, .slice A2 k2 c2] ∧ Dgs w' (.slice A1 k1 c1) (dg A) ∧ Dgs w' (.slice A2 k2 c2) (dg B)
theorem RatAt.ex {w' : World} {n : Bool} {A B : Nat} {x : Value} (h : RatAt w' n A B x) : ∃ A1 k1 c1 A2 k2 c2, x = .agg #[.bool n, .slice A1 k1 c1, .bool false, .slice A2 k2 c2] ∧ Dgs w' (.slice A1 k1 c1) (dg A) ∧ Dgs w' (.slice A2 k2 c2) (dg B) := h
theorem Dgs.far {w : World} {v : Value} {ds : List Nat} {g : Nat} {t : TypeId} {cs : Array Value} (h : Dgs w v ds) (hb : Blk w g t cs) (hc : ∀ (i : Nat) (z : Int), cs[i]? ≠ some (Value.int .u8 z)) : ∀ m ∈ rb v, m ≠ g := by
 obtain ⟨A, cap, rfl⟩ := h.form
 intro m hm e
 subst e
 have hp : 0 < ds.length := by
  rcases Nat.eq_zero_or_pos ds.length with h0 | h0
  ·rw [h0] at hm
   cases A <;> simp [rb] at hm
  ·exact h0
 obtain ⟨b, off, rfl, _⟩ := h.addr hp
 have hbm : m = b := by
  obtain ⟨k, hk⟩ : ∃ k, ds.length = k + 1 := ⟨ds.length - 1, by omega⟩
  rw [hk] at hm
  simpa [rb] using hm
 subst hbm
 have h1 := Dgs.at_ h hp
 rw [hb.cell] at h1
 exact hc _ _ h1
theorem no_byte {x0 x2 : Bool} {A1 A3 : Option Addr} {k1 c1 k3 c3 : Nat} : ∀ (i : Nat) (z : Int), (#[Value.bool x0, .slice A1 k1 c1, .bool x2, .slice A3 k3 c3] : Array Value)[i]? ≠ some (Value.int .u8 z) := by
 intro i z h
 match i, h with
 | 0, h => cases h
 | 1, h => cases h
 | 2, h => cases h
 | 3, h => cases h
 | i + 4, h => simp at h
theorem rat_res {w w3 : World} {g A B k c k' c' : Nat} {t : TypeId} {A1 A2 : Option Addr} (n : Bool) (b : Blk w3 g t #[.bool false, .slice none 0 0, .bool false, .slice none 0 0]) (hg : w.heap.size ≤ g) (ht : Touch [] w w3) (HD : Dgs w3 (.slice A1 k c) (dg A)) (HD' : Dgs w3 (.slice A2 k' c') (dg B)) (W : World)
  (hW : W = (((w3.setCell ⟨g, 0, none⟩ (.bool n)).setCell ⟨g, 1, none⟩ (.slice A1 k c)).setCell ⟨g, 2, none⟩ (.bool false)).setCell ⟨g, 3, none⟩ (.slice A2 k' c')) :
  QCell W g n (.slice A1 k c) false (.slice A2 k' c') ∧ RatAt W n A B (.agg #[.bool n, .slice A1 k c, .bool false, .slice A2 k' c']) ∧ Touch [] w W := by
 subst hW
 have h1 := HD.far b no_byte
 have h2 := HD'.far b no_byte
 have b2 := (((b.set_ 0 (.bool n)).set_ 1 (.slice A1 k c)).set_ 2 (.bool false)).set_ 3 (.slice A2 k' c')
 have kt : Touch [g] w3 ((((w3.setCell ⟨g, 0, none⟩ (.bool n)).setCell ⟨g, 1, none⟩ (.slice A1 k c)).setCell ⟨g, 2, none⟩ (.bool false)).setCell ⟨g, 3, none⟩ (.slice A2 k' c')) := ((((Touch.refl _ _).setCell (p := ⟨g, 0, none⟩) (.inl (by simp)) _).setCell (p := ⟨g, 1, none⟩) (.inl (by simp)) _).setCell (p := ⟨g, 2, none⟩) (.inl (by simp)) _).setCell (p := ⟨g, 3, none⟩) (.inl (by simp)) _
 refine ⟨⟨(b2.cell 0).trans (by simp), (b2.cell 1).trans (by simp), (b2.cell 2).trans (by simp), (b2.cell 3).trans (by simp)⟩, ⟨A1, k, c, A2, k', c', rfl, HD.touch kt (fun m hm hm2 => h1 m hm (by simpa using hm2)), HD'.touch kt (fun m hm hm2 => h2 m hm (by simpa using hm2))⟩, ht.step kt (fun m hm => .inr (by rw [List.mem_singleton] at hm; omega))⟩
theorem sgn_dg {D : Nat} (h : 0 < D) (hD : D < Top) : sgnI false (dg D) = 1 := by
 unfold sgnI
 rw [okI_dg hD (by simp)]
 have := dg_len_pos.2 h
 rw [if_neg (by simp; intro e; rw [e] at this; simp at this)]
 rfl
theorem qMake_any (n1 : Bool) (d1 d2 : Value) (A D : Nat) (w : World) (h1 : Dgs w d1 (dg A)) (h2 : Dgs w d2 (dg D)) (hA : A < Top) (hD : D < Top) (hD0 : 0 < D) (s1 : n1 = true → 0 < A) :
  Calls Tryz.prog 81 #[.agg #[.bool n1, d1], .agg #[.bool false, d2]] w fun r w' => ∃ x, r = .returned (.tuple #[x, .int .i64 0]) ∧ RatAt w' n1 (A / Nat.gcd A D) (D / Nat.gcd A D) x ∧ Touch [] w w' := by
 have hgp : 0 < Nat.gcd A D := Nat.gcd_pos_of_pos_right _ hD0
 have hgT : Nat.gcd A D < Top := Nat.lt_of_le_of_lt (Nat.gcd_le_right _ hD0) hD
 have HV := Lib.hid (fun W (t : Touch [] w W) => okI_dg (n := n1) hA s1 ▸ nValid_any n1 d1 _ W (h1.touch0 t))
 have HS := Lib.hid (fun W (t : Touch [] w W) => sgn_dg hD0 hD ▸ nSign_any false d2 _ W (h2.touch0 t))
 have HG := Lib.hid (fun W (t : Touch [] w W) => nGcd_any n1 false d1 d2 A D W (h1.touch0 t) (h2.touch0 t) hA hD s1 (by simp))
 have HM1 := Lib.hid (fun W d (t : Touch [] w W) (hd : Dgs W d (dg (Nat.gcd A D))) => nDivMod_any n1 d1 d A (Nat.gcd A D) W (h1.touch0 t) hd hA hgT s1 hgp (fun _ => Nat.mod_eq_zero_of_dvd (Nat.gcd_dvd_left A D)))
 have HM2 := Lib.hid (fun W d (t : Touch [] w W) (hd : Dgs W d (dg (Nat.gcd A D))) => nDivMod_any false d2 d D (Nat.gcd A D) W (h2.touch0 t) hd hD hgT (by simp) hgp (by simp))
 have HSG : Hid (sg n1 (A / Nat.gcd A D) = n1) := Lib.hid (by
  cases n1 with
  | false => rfl
  | true =>
   have := Nat.div_pos (Nat.le_of_dvd (s1 rfl) (Nat.gcd_dvd_left A D)) hgp
   simp [sg, this])
 rw [HSG.out] at HM1
 rw [show sg false (D / Nat.gcd A D) = false from rfl] at HM2
 generalize Nat.gcd A D = G at *
 have HF1 := Lib.hid h1.lt
 obtain ⟨A1, m1, c1, rfl⟩ := h1.form3
 obtain ⟨A2, m2, c2, rfl⟩ := h2.form3
 obtain ⟨ht0, hcc⟩ := box2q w n1 false (.slice A1 m1 c1) (.slice A2 m2 c2)
 unfold W2I at ht0 hcc
 have HC := Lib.hid hcc
 clear h1 h2 hcc hgp hgT hA hD hD0 s1
 go_enter Tryz.func81, Tryz.ntmps81
 go_wp2_with fail
 generalize (((w.alloc (.cells #[.bool n1, .slice A1 m1 c1] 32)).alloc (.cells #[.bool false, .slice A2 m2 c2] 32)).alloc (.cells #[.bool false, .slice none 0 0, .bool false, .slice none 0 0] 34)) = w0 at *
 with_reducible refine (HV.out w0 ht0).mono ?_
 rintro r w1 ⟨rfl, ht1⟩
 dsimp only
 have HT0 := Lib.hid ht0
 clear ht0
 obtain ⟨⟨p0, p1⟩, ⟨p2, p3⟩, _⟩ := HC.out w1 ht1
 go_wp2_with fail
 with_reducible refine (HS.out w1 (HT0.out.then0 ht1)).mono ?_
 rintro r w2 ⟨rfl, ht2⟩
 dsimp only
 replace ht2 := ht1.then0 ht2
 clear p0 p1 p2 p3 ht1
 obtain ⟨⟨p0, p1⟩, ⟨p2, p3⟩, _⟩ := HC.out w2 ht2
 go_wp2_with fail
 with_reducible refine (HG.out w2 (HT0.out.then0 ht2)).mono ?_
 rintro r w3 ⟨x, rfl, ⟨A3, m3, c3, rfl, hd3⟩, ht3⟩
 dsimp only
 replace ht3 := ht2.then0 ht3
 have b6 : Blk (w3.alloc (.cells #[.bool false, .slice A3 m3 c3] 32)) w3.heap.size 32 #[.bool false, .slice A3 m3 c3] := Blk.new _ _ _
 have ht4 : Touch [] w0 (w3.alloc (.cells #[.bool false, .slice A3 m3 c3] 32)) := ht3.alloc _
 have HD3 : Hid (Dgs (w3.alloc (.cells #[.bool false, .slice A3 m3 c3] 32)) (.slice A3 m3 c3) (dg G)) := Lib.hid (hd3.touch0 ((Touch.refl _ _).alloc _))
 clear p0 p1 p2 p3 ht2 ht3 hd3
 obtain ⟨⟨p0, p1⟩, ⟨p2, p3⟩, _⟩ := HC.out _ ht4
 go_wp2_with fail
 generalize w3.heap.size = g6 at *
 generalize (w3.alloc (.cells #[.bool false, .slice A3 m3 c3] 32)) = w4 at *
 have HC6 := Lib.hid (fun W (t : Touch [] w4 W) => b6.icell t)
 clear b6 p0 p1 p2 p3
 with_reducible refine (HS.out w4 (HT0.out.then0 ht4)).mono ?_
 rintro r w5 ⟨rfl, ht5⟩
 dsimp only
 obtain ⟨⟨p0, p1⟩, ⟨p2, p3⟩, _⟩ := HC.out _ (ht4.then0 ht5)
 obtain ⟨p4, p5⟩ := HC6.out _ ht5
 have HT4 := Lib.hid ht4
 clear ht4
 go_wp2_with fail
 with_reducible refine (HM1.out w5 (.slice A3 m3 c3) ((HT0.out.then0 HT4.out).then0 ht5) (HD3.out.touch0 ht5)).mono ?_
 rintro r w6 ⟨x, y, rfl, ⟨A7, m7, c7, rfl, hd7⟩, ⟨A8, m8, c8, rfl, hd8⟩, ht6⟩
 dsimp only
 replace ht6 := ht5.then0 ht6
 have b8 : Blk ((w6.alloc (.cells #[.bool n1, .slice A7 m7 c7] 32)).alloc (.cells #[.bool false, .slice A8 m8 c8] 32)) w6.heap.size 32 #[.bool n1, .slice A7 m7 c7] := (Blk.new _ _ _).alloc _
 have hta : Touch [] w4 ((w6.alloc (.cells #[.bool n1, .slice A7 m7 c7] 32)).alloc (.cells #[.bool false, .slice A8 m8 c8] 32)) := (ht6.alloc _).alloc _
 have HD7 : Hid (Dgs ((w6.alloc (.cells #[.bool n1, .slice A7 m7 c7] 32)).alloc (.cells #[.bool false, .slice A8 m8 c8] 32)) (.slice A7 m7 c7) (dg (A / G))) := Lib.hid (hd7.touch0 (((Touch.refl _ _).alloc _).alloc _))
 clear p0 p1 p2 p3 p4 p5 ht5 hd7 hd8 ht6
 obtain ⟨⟨p0, p1⟩, ⟨p2, p3⟩, _⟩ := HC.out _ (HT4.out.then0 hta)
 obtain ⟨p4, p5⟩ := HC6.out _ hta
 go_wp2_with fail
 generalize w6.heap.size = g8 at *
 generalize ((w6.alloc (.cells #[.bool n1, .slice A7 m7 c7] 32)).alloc (.cells #[.bool false, .slice A8 m8 c8] 32)) = w7 at *
 have HC8 := Lib.hid (fun W (t : Touch [] w7 W) => b8.icell t)
 have HTA := Lib.hid hta
 clear b8 p0 p1 p2 p3 p4 p5 hta
 with_reducible refine (HM2.out w7 (.slice A3 m3 c3) ((HT0.out.then0 HT4.out).then0 HTA.out) (HD3.out.touch0 HTA.out)).mono ?_
 rintro r w8 ⟨x, y, rfl, ⟨A9, m9, c9, rfl, hd9⟩, ⟨A10, m10, c10, rfl, hd10⟩, ht8⟩
 dsimp only
 have b10 : Blk ((w8.alloc (.cells #[.bool false, .slice A9 m9 c9] 32)).alloc (.cells #[.bool false, .slice A10 m10 c10] 32)) w8.heap.size 32 #[.bool false, .slice A9 m9 c9] := (Blk.new _ _ _).alloc _
 have hta : Touch [] w7 ((w8.alloc (.cells #[.bool false, .slice A9 m9 c9] 32)).alloc (.cells #[.bool false, .slice A10 m10 c10] 32)) := (ht8.alloc _).alloc _
 have HD9 : Hid (Dgs ((w8.alloc (.cells #[.bool false, .slice A9 m9 c9] 32)).alloc (.cells #[.bool false, .slice A10 m10 c10] 32)) (.slice A9 m9 c9) (dg (D / G))) := Lib.hid (hd9.touch0 (((Touch.refl _ _).alloc _).alloc _))
 have HTE := Lib.hid ((HT4.out.then0 HTA.out).then0 hta)
 have b4 := (HC.out _ HTE.out).2.2
 obtain ⟨p4, p5⟩ := HC8.out _ hta
 have p0 := b4.cell 0
 have p1 := b4.cell 1
 have p2 := b4.cell 2
 have p3 := b4.cell 3
 have f0 := b4.frozen 0
 have f1 := b4.frozen 1
 have f2 := b4.frozen 2
 have f3 := b4.frozen 3
 have q0 := b10.cell 0
 have q1 := b10.cell 1
 simp at p0 p1 p2 p3 q0 q1
 have HB4 := Lib.hid b4
 have HD7' := Lib.hid (HD7.out.touch0 hta)
 clear b4 b10 ht8 hd9 hd10 hta
 go_wp2_with fail
 obtain ⟨k, k1, k2⟩ := rat_res n1 HB4.out (by omega) (HT0.out.then0 HTE.out) HD7'.out HD9.out _ rfl
 refine bodyPost_ret (v := .tuple #[.agg #[.bool n1, .slice A7 m7 c7, .bool false, .slice A9 m9 c9], .int .i64 0]) (by simp [results, Tryz.results81, go_sem, k.1, k.2.1, k.2.2.1, k.2.2.2]) rfl ⟨_, rfl, k1, k2⟩
end Go.Proofs.YtedpaajpfaoffaaGreatDoor
namespace Go.Proofs.YtedpaajpfaoffaaGreatDoor
open Go.RowKit
theorem boxqq (w : World) (n1 n2 : Bool) (d1 d2 : Value) : Touch [] w ((w.alloc (.cells #[.bool n1, d1, .bool n2, d2] 34)).alloc (.cells #[.bool false, .slice none 0 0, .bool false, .slice none 0 0] 34)) ∧ ∀ W, Touch [] ((w.alloc (.cells #[.bool n1, d1, .bool n2, d2] 34)).alloc (.cells #[.bool false, .slice none 0 0, .bool false, .slice none 0 0] 34)) W → QCell W w.heap.size n1 d1 n2 d2 ∧ Blk W (w.heap.size + 1) 34 #[.bool false, .slice none 0 0, .bool false, .slice none 0 0] := by
 have b1 : Blk (w.alloc (.cells #[.bool n1, d1, .bool n2, d2] 34)) w.heap.size 34 #[.bool n1, d1, .bool n2, d2] := Blk.new _ _ _
 have b2 : Blk ((w.alloc (.cells #[.bool n1, d1, .bool n2, d2] 34)).alloc (.cells #[.bool false, .slice none 0 0, .bool false, .slice none 0 0] 34)) (w.heap.size + 1) 34 #[.bool false, .slice none 0 0, .bool false, .slice none 0 0] := by
  have := Blk.new (w.alloc (.cells #[.bool n1, d1, .bool n2, d2] 34)) 34 #[.bool false, .slice none 0 0, .bool false, .slice none 0 0]
  simpa using this
 exact ⟨((Touch.refl _ _).alloc _).alloc _, fun W t => ⟨(b1.alloc _).qcell t, b2.touch t (by simp)⟩⟩
theorem boxqi (w : World) (n1 n2 : Bool) (d1 d2 : Value) : Touch [] w ((w.alloc (.cells #[.bool n1, d1, .bool n2, d2] 34)).alloc (.cells #[.bool false, .slice none 0 0] 32)) ∧ ∀ W, Touch [] ((w.alloc (.cells #[.bool n1, d1, .bool n2, d2] 34)).alloc (.cells #[.bool false, .slice none 0 0] 32)) W → QCell W w.heap.size n1 d1 n2 d2 ∧ Blk W (w.heap.size + 1) 32 #[.bool false, .slice none 0 0] := by
 have b1 : Blk (w.alloc (.cells #[.bool n1, d1, .bool n2, d2] 34)) w.heap.size 34 #[.bool n1, d1, .bool n2, d2] := Blk.new _ _ _
 have b2 : Blk ((w.alloc (.cells #[.bool n1, d1, .bool n2, d2] 34)).alloc (.cells #[.bool false, .slice none 0 0] 32)) (w.heap.size + 1) 32 #[.bool false, .slice none 0 0] := by
  have := Blk.new (w.alloc (.cells #[.bool n1, d1, .bool n2, d2] 34)) 32 #[.bool false, .slice none 0 0]
  simpa using this
 exact ⟨((Touch.refl _ _).alloc _).alloc _, fun W t => ⟨(b1.alloc _).qcell t, b2.touch t (by simp)⟩⟩
theorem boxiq (w : World) (n1 : Bool) (d1 : Value) : Touch [] w ((w.alloc (.cells #[.bool n1, d1] 32)).alloc (.cells #[.bool false, .slice none 0 0, .bool false, .slice none 0 0] 34)) ∧ ∀ W, Touch [] ((w.alloc (.cells #[.bool n1, d1] 32)).alloc (.cells #[.bool false, .slice none 0 0, .bool false, .slice none 0 0] 34)) W → (ICell W w.heap.size n1 d1 ∧ Blk W (w.heap.size + 1) 34 #[.bool false, .slice none 0 0, .bool false, .slice none 0 0]) ∧
  ∀ x y z u, ICell ((((W.setCell ⟨w.heap.size + 1, 0, none⟩ x).setCell ⟨w.heap.size + 1, 1, none⟩ y).setCell ⟨w.heap.size + 1, 2, none⟩ z).setCell ⟨w.heap.size + 1, 3, none⟩ u) w.heap.size n1 d1 := by
 have b1 : Blk (w.alloc (.cells #[.bool n1, d1] 32)) w.heap.size 32 #[.bool n1, d1] := Blk.new _ _ _
 have b2 : Blk ((w.alloc (.cells #[.bool n1, d1] 32)).alloc (.cells #[.bool false, .slice none 0 0, .bool false, .slice none 0 0] 34)) (w.heap.size + 1) 34 #[.bool false, .slice none 0 0, .bool false, .slice none 0 0] := by
  have := Blk.new (w.alloc (.cells #[.bool n1, d1] 32)) 34 #[.bool false, .slice none 0 0, .bool false, .slice none 0 0]
  simpa using this
 refine ⟨((Touch.refl _ _).alloc _).alloc _, fun W t => ⟨⟨(b1.alloc _).icell t, b2.touch t (by simp)⟩, fun x y z u => ?_⟩⟩
 have k := (((((b1.alloc _).touch t (by simp)).far (p := ⟨w.heap.size + 1, 0, none⟩) (by simp) x).far (p := ⟨w.heap.size + 1, 1, none⟩) (by simp) y).far (p := ⟨w.heap.size + 1, 2, none⟩) (by simp) z).far (p := ⟨w.heap.size + 1, 3, none⟩) (by simp) u
 exact ⟨(k.cell 0).trans rfl, (k.cell 1).trans rfl⟩
theorem qNeg_any (d1 d2 : Value) (A B : Nat) (w : World) (h1 : Dgs w d1 (dg A)) (h2 : Dgs w d2 (dg B)) (hA : A < Top) (hA0 : 0 < A) (hB : B < Top) (hB0 : 0 < B) (hg : Nat.gcd A B = 1) :
  Calls Tryz.prog 27 #[.agg #[.bool true, d1, .bool false, d2]] w fun r w' => ∃ x, r = .returned (.tuple #[x, .int .i64 0]) ∧ RatAt w' false A B x ∧ Touch [] w w' := by
 have HV := Lib.hid (fun W (t : Touch [] w W) => qValid_dg true d1 d2 A B W (h1.touch0 t) (h2.touch0 t) hA hB hB0 (fun _ => hA0) hg)
 have HN := Lib.hid (fun W (t : Touch [] w W) => nNeg_any d1 A W (h1.touch0 t) hA hA0)
 have HM := Lib.hid (fun W d (t : Touch [] w W) (hd : Dgs W d (dg A)) => qMake_any false d d2 A B W hd (h2.touch0 t) hA hB hB0 (by simp))
 rw [hg, Nat.div_one, Nat.div_one] at HM
 obtain ⟨A1, m1, c1, rfl⟩ := h1.form3
 obtain ⟨A2, m2, c2, rfl⟩ := h2.form3
 obtain ⟨ht0, hcc⟩ := boxqq w true false (.slice A1 m1 c1) (.slice A2 m2 c2)
 have HC := Lib.hid hcc
 clear h1 h2 hcc hA hA0 hB hB0 hg
 go_enter Tryz.func27, Tryz.ntmps27
 go_wp2_with fail
 generalize ((w.alloc (.cells #[.bool true, .slice A1 m1 c1, .bool false, .slice A2 m2 c2] 34)).alloc (.cells #[.bool false, .slice none 0 0, .bool false, .slice none 0 0] 34)) = w0 at *
 with_reducible refine (HV.out w0 ht0).mono ?_
 rintro r w1 ⟨rfl, ht1⟩
 dsimp only
 have HT0 := Lib.hid ht0
 clear ht0
 obtain ⟨⟨p0, p1, p2, p3⟩, _⟩ := HC.out w1 ht1
 go_wp2_with fail
 with_reducible refine (HN.out w1 (HT0.out.then0 ht1)).mono ?_
 rintro r w2 ⟨x, rfl, ⟨A3, m3, c3, rfl, hd3⟩, ht2⟩
 dsimp only
 replace ht2 := ht1.then0 ht2
 have b6 : Blk (w2.alloc (.cells #[.bool false, .slice A3 m3 c3] 32)) w2.heap.size 32 #[.bool false, .slice A3 m3 c3] := Blk.new _ _ _
 have ht4 : Touch [] w0 (w2.alloc (.cells #[.bool false, .slice A3 m3 c3] 32)) := ht2.alloc _
 have HD3 : Hid (Dgs (w2.alloc (.cells #[.bool false, .slice A3 m3 c3] 32)) (.slice A3 m3 c3) (dg A)) := Lib.hid (hd3.touch0 ((Touch.refl _ _).alloc _))
 have q0 := b6.cell 0
 have q1 := b6.cell 1
 simp at q0 q1
 clear p0 p1 p2 p3 ht1 ht2 hd3 b6
 obtain ⟨⟨p0, p1, p2, p3⟩, _⟩ := HC.out _ ht4
 go_wp2_with fail
 generalize (w2.alloc (.cells #[.bool false, .slice A3 m3 c3] 32)) = w4 at *
 with_reducible refine (HM.out w4 (.slice A3 m3 c3) (HT0.out.then0 ht4) HD3.out).mono ?_
 rintro r w5 ⟨x, rfl, ⟨A4, m4, c4, A5, m5, c5, rfl, hd4, hd5⟩, ht5⟩
 dsimp only
 have HT5 := Lib.hid (ht4.then0 ht5)
 have b4 := (HC.out _ HT5.out).2
 clear p0 p1 p2 p3 q0 q1
 have p0 := b4.cell 0
 have p1 := b4.cell 1
 have p2 := b4.cell 2
 have p3 := b4.cell 3
 have f0 := b4.frozen 0
 have f1 := b4.frozen 1
 have f2 := b4.frozen 2
 have f3 := b4.frozen 3
 simp at p0 p1 p2 p3
 have HB4 := Lib.hid b4
 have HD4 := Lib.hid hd4
 have HD5 := Lib.hid hd5
 clear b4 ht4 ht5 hd4 hd5
 go_wp2_with fail
 obtain ⟨k, k1, k2⟩ := rat_res false HB4.out (by omega) (HT0.out.then0 HT5.out) HD4.out HD5.out _ rfl
 refine bodyPost_ret (v := .tuple #[.agg #[.bool false, .slice A4 m4 c4, .bool false, .slice A5 m5 c5], .int .i64 0]) (by simp [results, Tryz.results27, go_sem, k.1, k.2.1, k.2.2.1, k.2.2.2]) rfl ⟨_, rfl, k1, k2⟩
theorem Dgs.far2 {w : World} {v : Value} {ds : List Nat} {g : Nat} {t : TypeId} {x0 : Bool} {A1 : Option Addr} {k1 c1 : Nat} (h : Dgs w v ds) (hb : Blk w g t #[.bool x0, .slice A1 k1 c1]) : ∀ m ∈ rb v, m ≠ g := h.far hb (fun i z h => by
 match i, h with
 | 0, h => cases h
 | 1, h => cases h
 | i + 2, h => simp at h)
theorem int_res' {w w3 : World} {g N n c : Nat} {t : TypeId} {A : Option Addr} (nb : Bool) (b : Blk w3 g t #[.bool false, .slice none 0 0]) (hg : w.heap.size ≤ g) (ht : Touch [] w w3) (HD : Dgs w3 (.slice A n c) (dg N)) (W : World) (hW : W = (w3.setCell ⟨g, 0, none⟩ (.bool nb)).setCell ⟨g, 1, none⟩ (.slice A n c)) :
  ICell W g nb (.slice A n c) ∧ IntAt W nb N (.agg #[.bool nb, .slice A n c]) ∧ Touch [] w W := by
 subst hW
 obtain ⟨k0, k1, kt⟩ := b.int2 (.bool nb) (.slice A n c)
 exact ⟨⟨k0, k1⟩, ⟨A, n, c, rfl, HD.touch kt (fun m hm hm2 => HD.far2 b m hm (by simpa using hm2))⟩, ht.step kt (fun m hm => .inr (by rw [List.mem_singleton] at hm; omega))⟩
theorem qFloor_any (d1 d2 : Value) (A B : Nat) (w : World) (h1 : Dgs w d1 (dg A)) (h2 : Dgs w d2 (dg B)) (hA : A < Top) (hB : B < Top) (hB0 : 0 < B) (hg : Nat.gcd A B = 1) :
  Calls Tryz.prog 28 #[.agg #[.bool false, d1, .bool false, d2]] w fun r w' => ∃ x, r = .returned (.tuple #[x, .int .i64 0]) ∧ IntAt w' false (A / B) x ∧ Touch [] w w' := by
 have HV := Lib.hid (fun W (t : Touch [] w W) => qValid_dg false d1 d2 A B W (h1.touch0 t) (h2.touch0 t) hA hB hB0 (by simp) hg)
 have HM := Lib.hid (fun W (t : Touch [] w W) => nDivMod_any false d1 d2 A B W (h1.touch0 t) (h2.touch0 t) hA hB (by simp) hB0 (by simp))
 rw [show sg false (A / B) = false from rfl] at HM
 obtain ⟨A1, m1, c1, rfl⟩ := h1.form3
 obtain ⟨A2, m2, c2, rfl⟩ := h2.form3
 obtain ⟨ht0, hcc⟩ := boxqi w false false (.slice A1 m1 c1) (.slice A2 m2 c2)
 have HC := Lib.hid hcc
 clear h1 h2 hcc hA hB hB0 hg
 go_enter Tryz.func28, Tryz.ntmps28
 go_wp2_with fail
 generalize ((w.alloc (.cells #[.bool false, .slice A1 m1 c1, .bool false, .slice A2 m2 c2] 34)).alloc (.cells #[.bool false, .slice none 0 0] 32)) = w0 at *
 with_reducible refine (HV.out w0 ht0).mono ?_
 rintro r w1 ⟨rfl, ht1⟩
 dsimp only
 have HT0 := Lib.hid ht0
 clear ht0
 obtain ⟨⟨p0, p1, p2, p3⟩, _⟩ := HC.out w1 ht1
 go_wp2_with fail
 with_reducible refine (HM.out w1 (HT0.out.then0 ht1)).mono ?_
 rintro r w2 ⟨x, y, rfl, ⟨A3, m3, c3, rfl, hd3⟩, ⟨A4, m4, c4, rfl, hd4⟩, ht2⟩
 dsimp only
 replace ht2 := ht1.then0 ht2
 have b6 : Blk ((w2.alloc (.cells #[.bool false, .slice A3 m3 c3] 32)).alloc (.cells #[.bool false, .slice A4 m4 c4] 32)) w2.heap.size 32 #[.bool false, .slice A3 m3 c3] := (Blk.new _ _ _).alloc _
 have hta : Touch [] w0 ((w2.alloc (.cells #[.bool false, .slice A3 m3 c3] 32)).alloc (.cells #[.bool false, .slice A4 m4 c4] 32)) := (ht2.alloc _).alloc _
 have HD3 : Hid (Dgs ((w2.alloc (.cells #[.bool false, .slice A3 m3 c3] 32)).alloc (.cells #[.bool false, .slice A4 m4 c4] 32)) (.slice A3 m3 c3) (dg (A / B))) := Lib.hid (hd3.touch0 (((Touch.refl _ _).alloc _).alloc _))
 have q0 := b6.cell 0
 have q1 := b6.cell 1
 simp at q0 q1
 have b4 := (HC.out _ hta).2
 clear p0 p1 p2 p3 b6
 have p0 := b4.cell 0
 have p1 := b4.cell 1
 have f0 := b4.frozen 0
 have f1 := b4.frozen 1
 simp at p0 p1
 have HB4 := Lib.hid b4
 have HTA := Lib.hid hta
 clear b4 ht1 ht2 hd3 hd4 hta
 go_wp2_with fail
 obtain ⟨k, k1, k2⟩ := int_res' false HB4.out (by omega) (HT0.out.then0 HTA.out) HD3.out _ rfl
 refine bodyPost_ret (v := .tuple #[.agg #[.bool false, .slice A3 m3 c3], .int .i64 0]) (by simp [results, Tryz.results28, go_sem, k.1, k.2]) rfl ⟨_, rfl, k1, k2⟩
theorem qFrom_any (n1 : Bool) (d1 : Value) (A : Nat) (w : World) (h1 : Dgs w d1 (dg A)) (hA : A < Top) (s1 : n1 = true → 0 < A) :
  Calls Tryz.prog 29 #[.agg #[.bool n1, d1]] w fun r w' => ∃ x, r = .returned (.tuple #[x, .int .i64 0]) ∧ RatAt w' n1 A 1 x ∧ Touch [] w w' := by
 have HM := Lib.hid (fun W d (t : Touch [] w W) (hd : Dgs W d (dg 1)) => qMake_any n1 d1 d A 1 W (h1.touch0 t) hd hA (show 1 < Top by unfold Top; exact Nat.one_lt_pow (by omega) (by omega)) (by omega) s1)
 rw [Nat.gcd_one_right, Nat.div_one, Nat.div_one] at HM
 obtain ⟨A1, m1, c1, rfl⟩ := h1.form3
 obtain ⟨ht0, hcc⟩ := boxiq w n1 (.slice A1 m1 c1)
 have HC := Lib.hid (fun W t => (hcc W t).1)
 have HCS := Lib.hid (fun W t => (hcc W t).2)
 clear h1 hcc hA s1
 go_enter Tryz.func29, Tryz.ntmps29
 go_wp2_with fail
 generalize ((w.alloc (.cells #[.bool n1, .slice A1 m1 c1] 32)).alloc (.cells #[.bool false, .slice none 0 0, .bool false, .slice none 0 0] 34)) = w0 at *
 have hT := (Touch.refl [] w0).drew
 have HT0 := Lib.hid ht0
 clear ht0
 go_region_held3 (fun W' => W'.cell? ⟨w.heap.size, 0, none⟩ = some (.bool n1) ∧ W'.cell? ⟨w.heap.size, 1, none⟩ = some (.slice A1 m1 c1)) (first | exact (HC.out _ hT).1 | exact HCS.out _ hT _ _ _ _) (first
  | (go_at_call 79; with_reducible refine (nOf1_any _).mono ?_; rintro r w6 ⟨x6, rfl, hx6, ht6⟩; obtain ⟨A6, m6, c6, e6, hd6⟩ := hx6.ex; subst e6; (try dsimp only); have HD6 := Lib.hid hd6; replace hT := hT.then0 ht6; clear ht6 hd6 hx6)
  | (go_at_call 81; with_reducible refine (HM.out _ _ (HT0.out.then0 hT) HD6.out).mono ?_; rintro r w6 ⟨x6, rfl, hx6, ht6⟩; obtain ⟨A7, m7, c7, A8, m8, c8, e6, hd7, hd8⟩ := hx6.ex; subst e6; (try dsimp only); have HD7 := Lib.hid hd7; have HD8 := Lib.hid hd8; replace hT := hT.then0 ht6; have b2 := (HC.out _ hT).2; have q0 := b2.cell 0; have q1 := b2.cell 1; have q2 := b2.cell 2; have q3 := b2.cell 3; have f0 := b2.frozen 0; have f1 := b2.frozen 1; have f2 := b2.frozen 2; have f3 := b2.frozen 3; simp at q0 q1 q2 q3; have HB2 := Lib.hid b2; clear b2 hd7 hd8 ht6 hx6))
 all_goals
  go_wp2_with fail
  obtain ⟨k, k1, k2⟩ := rat_res n1 HB2.out (by omega) (HT0.out.then0 hT) HD7.out HD8.out _ rfl
  refine bodyPost_ret (v := .tuple #[.agg #[.bool n1, .slice A7 m7 c7, .bool false, .slice A8 m8 c8], .int .i64 0]) (by simp [results, Tryz.results29, go_sem, k.1, k.2.1, k.2.2.1, k.2.2.2]) rfl ⟨_, rfl, k1, k2⟩
end Go.Proofs.YtedpaajpfaoffaaGreatDoor
namespace Go.Proofs.YtedpaajpfaoffaaGreatDoor
open Go.RowKit
def ratL (n : Bool) (A B : Nat) : List UInt8 := if B = 1 then textL n A else textL n A ++ 47 :: Lib.decDigits B
theorem qText_any (n1 : Bool) (d1 d2 : Value) (A B : Nat) (w : World) (h1 : Dgs w d1 (dg A)) (h2 : Dgs w d2 (dg B)) (hA : A < Top) (hB : B < Top) (hB0 : 0 < B) (s1 : n1 = true → 0 < A) (hg : Nat.gcd A B = 1) :
  Calls Tryz.prog 31 #[.agg #[.bool n1, d1, .bool false, d2]] w fun r w' => r = .returned (.string ⟨(ratL n1 A B).toArray⟩) ∧ Touch [] w w' := by
 have HV := Lib.hid (fun W (t : Touch [] w W) => qValid_dg n1 d1 d2 A B W (h1.touch0 t) (h2.touch0 t) hA hB hB0 s1 hg)
 have HT1 := Lib.hid (fun W (t : Touch [] w W) => nText_any n1 d1 A W (h1.touch0 t) hA s1)
 have HT2 := Lib.hid (fun W (t : Touch [] w W) => nText_any false d2 B W (h2.touch0 t) hB (by simp))
 have HCM := Lib.hid (fun W d (t : Touch [] w W) (hd : Dgs W d (dg 1)) => nCmp_any d2 d B 1 W (h2.touch0 t) hd hB (show 1 < Top by unfold Top; exact Nat.one_lt_pow (by omega) (by omega)))
 have hla : (textL n1 A).length ≤ 194 := by
  have := dec_len_top hA
  unfold textL
  split
  ·simp; omega
  ·omega
 have hlb : (textL false B).length ≤ 194 := by
  have := dec_len_top hB
  simp [textL]; omega
 have HR : Hid (ratL n1 A B = if B = 1 then textL n1 A else textL n1 A ++ 47 :: textL false B) := Lib.hid rfl
 have HC1 := Lib.hid (cmp_one B)
 generalize ratL n1 A B = res at *
 generalize textL n1 A = ta at *
 generalize textL false B = tb at *
 generalize cmpI B 1 = cm at *
 obtain ⟨A1, m1, c1, rfl⟩ := h1.form3
 obtain ⟨A2, m2, c2, rfl⟩ := h2.form3
 obtain ⟨ht0, hcc⟩ := boxq w n1 false (.slice A1 m1 c1) (.slice A2 m2 c2)
 have HC := Lib.hid hcc
 clear h1 h2 hcc hA hB hB0 s1 hg
 go_enter Tryz.func31, Tryz.ntmps31
 go_wp2_with fail
 generalize (w.alloc (.cells #[.bool n1, .slice A1 m1 c1, .bool false, .slice A2 m2 c2] 34)) = w0 at *
 with_reducible refine (HV.out w0 ht0).mono ?_
 rintro r w1 ⟨rfl, ht1⟩
 dsimp only
 have HT0 := Lib.hid ht0
 clear ht0
 obtain ⟨p0, p1, p2, p3⟩ := HC.out w1 ht1
 go_wp2_with fail
 have hT := ht1.drew
 clear p0 p1 p2 p3 ht1
 go_region_held3 (fun W' => W'.cell? ⟨w.heap.size, 2, none⟩ = some (.bool false) ∧ W'.cell? ⟨w.heap.size, 3, none⟩ = some (.slice A2 m2 c2)) (exact (HC.out _ hT).2.2) (first
  | (go_at_call 79; with_reducible refine (nOf1_any _).mono ?_; rintro r w6 ⟨x6, rfl, hx6, ht6⟩; obtain ⟨A6, m6, c6, e6, hd6⟩ := hx6.ex; subst e6; (try dsimp only); have HD6 := Lib.hid hd6; replace hT := hT.then0 ht6; clear ht6 hd6 hx6)
  | (go_at_call 78; with_reducible refine (HCM.out _ _ (HT0.out.then0 hT) HD6.out).mono ?_; rintro r w6 ⟨rfl, ht6⟩; (try dsimp only); replace hT := hT.then0 ht6; clear ht6))
 all_goals
  obtain ⟨p0, p1, p2, p3⟩ := HC.out _ hT
  by_cases hb1 : B = 1
  ·have hc1 : (cm == 0) = true := by rw [HC1.out]; simp [hb1]
   have HE : Hid (res = ta) := Lib.hid (by rw [HR.out, if_pos hb1])
   clear hb1
   go_wp2_with fail
   with_reducible refine (HT1.out _ (HT0.out.then0 hT)).mono ?_
   rintro r w7 ⟨rfl, ht7⟩
   dsimp only
   go_wp2_with fail
   go_ret
   exact ⟨by rw [show res = ta from HE.out]; rfl, (HT0.out.then0 hT).then0 ht7⟩
  ·have hc1 : (cm == 0) = false := by rw [HC1.out]; simp [hb1]
   have HE : Hid (res = ta ++ 47 :: tb) := Lib.hid (by rw [HR.out, if_neg hb1])
   have hs1 : ¬ 9223372036854775807 < ta.length + 1 := by omega
   have hs2 : ¬ 9223372036854775807 < ta.length + 1 + tb.length := by omega
   clear hb1
   clear p0 p1 p2 p3
   go_wp2_with fail
   replace hT := hT.drew
   go_region_held3 (fun W' => W'.cell? ⟨w.heap.size, 0, none⟩ = some (.bool n1) ∧ W'.cell? ⟨w.heap.size, 1, none⟩ = some (.slice A1 m1 c1) ∧ W'.cell? ⟨w.heap.size, 2, none⟩ = some (.bool false) ∧ W'.cell? ⟨w.heap.size, 3, none⟩ = some (.slice A2 m2 c2)) (exact HC.out _ hT) (first
    | (go_at_call 85; (first | with_reducible refine (HT1.out _ (HT0.out.then0 hT)).mono ?_ | with_reducible refine (HT2.out _ (HT0.out.then0 hT)).mono ?_); rintro r w7 ⟨rfl, ht7⟩; (try dsimp only); replace hT := hT.then0 ht7; clear ht7))
   all_goals
    go_wp2_with fail
    go_ret
    refine ⟨?_, HT0.out.then0 hT⟩
    rw [HE.out, show (ByteArray.mk #[47]) = ByteArray.mk [47].toArray from rfl, tx_add, tx_add]
    simp
end Go.Proofs.YtedpaajpfaoffaaGreatDoor
