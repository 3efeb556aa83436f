/- The examples of the chapter. -/
import Derived.Test.YtpbknnkobhjjcaaDoorOc15
import Derived.Deep.DeepCutAuto
namespace Go.Proofs.YtpbknnkobhjjcaaDoor
open Go.RowKit
set_option linter.unusedSimpArgs false

def KRel (W : World) (cs : Array Value) (s3 s4 : Value) (wx : World) : Prop := ∃ ga gb, s3 = .pointer (some ⟨ga, 0, none⟩) ∧ s4 = .pointer (some ⟨gb, 0, none⟩) ∧ ga ≠ gb ∧ W.heap.size ≤ ga ∧ W.heap.size ≤ gb ∧ Blk wx ga 26 cs ∧ Blk wx gb 26 cs ∧ Touch [] W wx
theorem Rows_.of_blk {α : Type} {c : Nat} {f : α → List Value} {fit : α → Prop} {w : World} {g : Nat} {t : TypeId} {xs : List α} (h : Blk w g t (xs.flatMap f).toArray) (hc : (xs.flatMap f).length = xs.length * c) (hf : ∀ x ∈ xs, fit x) (hn : xs.length ≤ 1000) : Rows_ c f fit w (.slice (some ⟨g, 0, none⟩) xs.length xs.length) xs := by
  refine ⟨⟨some ⟨g, 0, none⟩, xs.length, rfl, Nat.le_refl _, by unfold maxLen; omega, hc, fun _ => ⟨g, 0, rfl, h.lt, fun j u hu => ?_⟩⟩, hf⟩
  rw [Nat.zero_add, h.cell]
  simpa using hu
def Wk : List Tx := [⟨3, 0, 70⟩, ⟨5, 1, 20⟩]
def Ak : List Cx := [⟨4, 30⟩, ⟨5, 2⟩]
def Bk : List Cx := [⟨4, 30⟩, ⟨5, 7⟩]
def Lk : List Tx := [⟨3, 3, 1000000⟩, ⟨4, 3, 1000000⟩, ⟨5, 3, 1000000⟩]
def Mk : List Tx := [⟨1, 3, 1000000⟩, ⟨2, 3, 500000⟩]
def ok0 (wv xv av : Value) : Ox := ⟨wv, xv, av, Wk, [4], Ak, 90⟩
def oka (wv xv av : Value) : Ox := ⟨wv, xv, av, Wk, [4], Ak, 91⟩
def okb (wv xv av : Value) : Ox := ⟨wv, xv, av, Wk, [4], Bk, 90⟩
theorem k_pay5 (a b c : Value) : payRes (ok0 a b c) 5 = (20, 0) := by rfl
theorem k_pay4 (a b c : Value) : payRes (ok0 a b c) 4 = (0, 9) := by rfl
theorem k_ceil : ceilRes Mk 100 = (150, 0) := by rfl
theorem k_fol1 (a b c : Value) : folRes (ok0 a b c) Lk 70 = (true, 0) := by rfl
theorem k_fol2 (a b c : Value) : folRes (ok0 a b c) Lk 69 = (false, 0) := by rfl
theorem k_val (a b c : Value) : validP (ok0 a b c) = true := by rfl
theorem k_vala (a b c : Value) : validP (oka a b c) = false := by rfl
theorem k_valb (a b c : Value) : validP (okb a b c) = false := by rfl
theorem Blk.new' {w : World} {n : Nat} (h : w.heap.size = n) (t : TypeId) (cs : Array Value) : Blk (w.alloc (.cells cs t)) n t cs := by subst h; exact Blk.new w t cs
set_option maxRecDepth 100000 in
set_option maxHeartbeats 8000000 in
theorem known_any (w : World) (hw : Worths w) : Calls Tryd.prog 8 #[] w fun r w' => r = .returned (.bool true) ∧ Touch [] w w' := by
  have K0 : Hid (Blk (((((w.alloc (.cells #[.int .i64 3, .int .i64 0, .int .i64 70, .int .i64 5, .int .i64 1, .int .i64 20] 48)).alloc (.cells #[.int .i64 4] 3)).alloc (.cells #[.int .i64 4, .int .i64 30, .int .i64 5, .int .i64 2] 50)).alloc (.cells #[.slice (some ⟨w.heap.size, 0, none⟩) 2 2, .slice (some ⟨w.heap.size + 1, 0, none⟩) 1 1, .slice (some ⟨w.heap.size + 1 + 1, 0, none⟩) 2 2, .int .i64 90] 26)).alloc (.cells #[.int .i64 3, .int .i64 3, .int .i64 1000000, .int .i64 4, .int .i64 3, .int .i64 1000000, .int .i64 5, .int .i64 3, .int .i64 1000000] 52)) (w.heap.size) _ _) := Lib.hid (((((Blk.new' rfl 48 #[.int .i64 3, .int .i64 0, .int .i64 70, .int .i64 5, .int .i64 1, .int .i64 20]).alloc _).alloc _).alloc _).alloc _)
  have K1 : Hid (Blk (((((w.alloc (.cells #[.int .i64 3, .int .i64 0, .int .i64 70, .int .i64 5, .int .i64 1, .int .i64 20] 48)).alloc (.cells #[.int .i64 4] 3)).alloc (.cells #[.int .i64 4, .int .i64 30, .int .i64 5, .int .i64 2] 50)).alloc (.cells #[.slice (some ⟨w.heap.size, 0, none⟩) 2 2, .slice (some ⟨w.heap.size + 1, 0, none⟩) 1 1, .slice (some ⟨w.heap.size + 1 + 1, 0, none⟩) 2 2, .int .i64 90] 26)).alloc (.cells #[.int .i64 3, .int .i64 3, .int .i64 1000000, .int .i64 4, .int .i64 3, .int .i64 1000000, .int .i64 5, .int .i64 3, .int .i64 1000000] 52)) (w.heap.size + 1) _ _) := Lib.hid ((((Blk.new' (w := (w.alloc (.cells #[.int .i64 3, .int .i64 0, .int .i64 70, .int .i64 5, .int .i64 1, .int .i64 20] 48))) (by simp) 3 #[.int .i64 4]).alloc _).alloc _).alloc _)
  have K2 : Hid (Blk (((((w.alloc (.cells #[.int .i64 3, .int .i64 0, .int .i64 70, .int .i64 5, .int .i64 1, .int .i64 20] 48)).alloc (.cells #[.int .i64 4] 3)).alloc (.cells #[.int .i64 4, .int .i64 30, .int .i64 5, .int .i64 2] 50)).alloc (.cells #[.slice (some ⟨w.heap.size, 0, none⟩) 2 2, .slice (some ⟨w.heap.size + 1, 0, none⟩) 1 1, .slice (some ⟨w.heap.size + 1 + 1, 0, none⟩) 2 2, .int .i64 90] 26)).alloc (.cells #[.int .i64 3, .int .i64 3, .int .i64 1000000, .int .i64 4, .int .i64 3, .int .i64 1000000, .int .i64 5, .int .i64 3, .int .i64 1000000] 52)) (w.heap.size + 1 + 1) _ _) := Lib.hid (((Blk.new' (w := ((w.alloc (.cells #[.int .i64 3, .int .i64 0, .int .i64 70, .int .i64 5, .int .i64 1, .int .i64 20] 48)).alloc (.cells #[.int .i64 4] 3))) (by simp) 50 #[.int .i64 4, .int .i64 30, .int .i64 5, .int .i64 2]).alloc _).alloc _)
  have K3 : Hid (Blk (((((w.alloc (.cells #[.int .i64 3, .int .i64 0, .int .i64 70, .int .i64 5, .int .i64 1, .int .i64 20] 48)).alloc (.cells #[.int .i64 4] 3)).alloc (.cells #[.int .i64 4, .int .i64 30, .int .i64 5, .int .i64 2] 50)).alloc (.cells #[.slice (some ⟨w.heap.size, 0, none⟩) 2 2, .slice (some ⟨w.heap.size + 1, 0, none⟩) 1 1, .slice (some ⟨w.heap.size + 1 + 1, 0, none⟩) 2 2, .int .i64 90] 26)).alloc (.cells #[.int .i64 3, .int .i64 3, .int .i64 1000000, .int .i64 4, .int .i64 3, .int .i64 1000000, .int .i64 5, .int .i64 3, .int .i64 1000000] 52)) (w.heap.size + 1 + 1 + 1) _ _) := Lib.hid ((Blk.new' (w := (((w.alloc (.cells #[.int .i64 3, .int .i64 0, .int .i64 70, .int .i64 5, .int .i64 1, .int .i64 20] 48)).alloc (.cells #[.int .i64 4] 3)).alloc (.cells #[.int .i64 4, .int .i64 30, .int .i64 5, .int .i64 2] 50))) (by simp) 26 #[.slice (some ⟨w.heap.size, 0, none⟩) 2 2, .slice (some ⟨w.heap.size + 1, 0, none⟩) 1 1, .slice (some ⟨w.heap.size + 1 + 1, 0, none⟩) 2 2, .int .i64 90]).alloc _)
  have K4 : Hid (Blk (((((w.alloc (.cells #[.int .i64 3, .int .i64 0, .int .i64 70, .int .i64 5, .int .i64 1, .int .i64 20] 48)).alloc (.cells #[.int .i64 4] 3)).alloc (.cells #[.int .i64 4, .int .i64 30, .int .i64 5, .int .i64 2] 50)).alloc (.cells #[.slice (some ⟨w.heap.size, 0, none⟩) 2 2, .slice (some ⟨w.heap.size + 1, 0, none⟩) 1 1, .slice (some ⟨w.heap.size + 1 + 1, 0, none⟩) 2 2, .int .i64 90] 26)).alloc (.cells #[.int .i64 3, .int .i64 3, .int .i64 1000000, .int .i64 4, .int .i64 3, .int .i64 1000000, .int .i64 5, .int .i64 3, .int .i64 1000000] 52)) (w.heap.size + 1 + 1 + 1 + 1) _ _) := Lib.hid (Blk.new' (w := ((((w.alloc (.cells #[.int .i64 3, .int .i64 0, .int .i64 70, .int .i64 5, .int .i64 1, .int .i64 20] 48)).alloc (.cells #[.int .i64 4] 3)).alloc (.cells #[.int .i64 4, .int .i64 30, .int .i64 5, .int .i64 2] 50)).alloc (.cells #[.slice (some ⟨w.heap.size, 0, none⟩) 2 2, .slice (some ⟨w.heap.size + 1, 0, none⟩) 1 1, .slice (some ⟨w.heap.size + 1 + 1, 0, none⟩) 2 2, .int .i64 90] 26))) (by simp) 52 #[.int .i64 3, .int .i64 3, .int .i64 1000000, .int .i64 4, .int .i64 3, .int .i64 1000000, .int .i64 5, .int .i64 3, .int .i64 1000000])
  have HT5 : Hid (Touch [] w (((((w.alloc (.cells #[.int .i64 3, .int .i64 0, .int .i64 70, .int .i64 5, .int .i64 1, .int .i64 20] 48)).alloc (.cells #[.int .i64 4] 3)).alloc (.cells #[.int .i64 4, .int .i64 30, .int .i64 5, .int .i64 2] 50)).alloc (.cells #[.slice (some ⟨w.heap.size, 0, none⟩) 2 2, .slice (some ⟨w.heap.size + 1, 0, none⟩) 1 1, .slice (some ⟨w.heap.size + 1 + 1, 0, none⟩) 2 2, .int .i64 90] 26)).alloc (.cells #[.int .i64 3, .int .i64 3, .int .i64 1000000, .int .i64 4, .int .i64 3, .int .i64 1000000, .int .i64 5, .int .i64 3, .int .i64 1000000] 52))) := Lib.hid ((((((Touch.refl [] w).alloc _).alloc _).alloc _).alloc _).alloc _)
  go_enter Tryd.func8, Tryd.ntmps8
  go_upto_region 3 with fail
  go_cut [3, 4] (fun s3 s4 wx => KRel (((((w.alloc (.cells #[.int .i64 3, .int .i64 0, .int .i64 70, .int .i64 5, .int .i64 1, .int .i64 20] 48)).alloc (.cells #[.int .i64 4] 3)).alloc (.cells #[.int .i64 4, .int .i64 30, .int .i64 5, .int .i64 2] 50)).alloc (.cells #[.slice (some ⟨w.heap.size, 0, none⟩) 2 2, .slice (some ⟨w.heap.size + 1, 0, none⟩) 1 1, .slice (some ⟨w.heap.size + 1 + 1, 0, none⟩) 2 2, .int .i64 90] 26)).alloc (.cells #[.int .i64 3, .int .i64 3, .int .i64 1000000, .int .i64 4, .int .i64 3, .int .i64 1000000, .int .i64 5, .int .i64 3, .int .i64 1000000] 52)) #[.slice (some ⟨w.heap.size, 0, none⟩) 2 2, .slice (some ⟨w.heap.size + 1, 0, none⟩) 1 1, .slice (some ⟨w.heap.size + 1 + 1, 0, none⟩) 2 2, .int .i64 90] s3 s4 wx)
  case first =>
    go_region
    all_goals (go_wp2_with fail)
    · go_meet
      exact ⟨w.heap.size + 1 + 1 + 1 + 1 + 1, w.heap.size + 1 + 1 + 1 + 1 + 1 + 1, rfl, rfl, by omega, by simp, by simp, (Blk.new' (by simp) _ _).alloc _, Blk.new' (by simp) _ _, (((Touch.refl _ _).alloc _).alloc _).drew⟩
    · go_meet
      exact ⟨w.heap.size + 1 + 1 + 1 + 1 + 1 + 1, w.heap.size + 1 + 1 + 1 + 1 + 1, rfl, rfl, by omega, by simp, by simp, Blk.new' (by simp) _ _, (Blk.new' (by simp) _ _).alloc _, (((Touch.refl _ _).alloc _).alloc _).drew⟩
  case rest =>
    obtain ⟨ga, gb, rfl, rfl, hab, hga, hgb, hka, hkb, ht⟩ := hcut
    simp at hga hgb
    have c0 := K0.out.touch ht (by simp)
    have c1 := K1.out.touch ht (by simp)
    have c2 := K2.out.touch ht (by simp)
    have c3 := K3.out.touch ht (by simp)
    have c4 := K4.out.touch ht (by simp)
    have htc := HT5.out.then0 ht
    clear K0 K1 K2 K3 K4 HT5 ht
    generalize hn0 : w.heap.size = n0 at *
    have HN0 := Lib.hid hn0
    clear hn0
    have hga' := hka.lt
    have hgb' := hkb.lt
    have hc3 := c3.lt
    have a3 := hka.cell 3
    have f3 := hka.frozen 3
    have b2 := hkb.cell 2
    have g2 := hkb.frozen 2
    have o0 := c3.cell 0
    have o1 := c3.cell 1
    have o2 := c3.cell 2
    have o3 := c3.cell 3
    simp at a3 b2 o0 o1 o2 o3
    have e1 : ¬ n0 + 1 + 1 + 1 = ga := by omega
    have e2 : ¬ n0 + 1 + 1 + 1 = gb := by omega
    have e3 : ¬ gb = ga := fun e => hab e.symm
    go_wp2_with fail
    have far : ∀ {g : Nat} {t : TypeId} {cs : Array Value} (u1 u2 : Value) (o : Obj), Blk wc g t cs → ¬ g = ga → ¬ g = gb → Blk (((wc.setCell ⟨ga, 3, none⟩ u1).setCell ⟨gb, 2, none⟩ u2).alloc o) g t cs := fun u1 u2 o h h1 h2 => ((h.far (p := ⟨ga, 3, none⟩) h1 u1).far (p := ⟨gb, 2, none⟩) h2 u2).alloc o
    have d0 := far (.int .i64 91) (.slice (some ⟨wc.heap.size, 0, none⟩) 2 2) (.cells #[.int .i64 4, .int .i64 30, .int .i64 5, .int .i64 7] 50) c0 (by omega) (by omega)
    have d1 := far (.int .i64 91) (.slice (some ⟨wc.heap.size, 0, none⟩) 2 2) (.cells #[.int .i64 4, .int .i64 30, .int .i64 5, .int .i64 7] 50) c1 (by omega) (by omega)
    have d2 := far (.int .i64 91) (.slice (some ⟨wc.heap.size, 0, none⟩) 2 2) (.cells #[.int .i64 4, .int .i64 30, .int .i64 5, .int .i64 7] 50) c2 (by omega) (by omega)
    have d3 := far (.int .i64 91) (.slice (some ⟨wc.heap.size, 0, none⟩) 2 2) (.cells #[.int .i64 4, .int .i64 30, .int .i64 5, .int .i64 7] 50) c3 (by omega) (by omega)
    have d4 := far (.int .i64 91) (.slice (some ⟨wc.heap.size, 0, none⟩) 2 2) (.cells #[.int .i64 4, .int .i64 30, .int .i64 5, .int .i64 7] 50) c4 (by omega) (by omega)
    have da := (((hka.set_ 3 (.int .i64 91)).far (p := ⟨gb, 2, none⟩) hab (.slice (some ⟨wc.heap.size, 0, none⟩) 2 2)).alloc (.cells #[.int .i64 4, .int .i64 30, .int .i64 5, .int .i64 7] 50))
    have db := (((hkb.far (p := ⟨ga, 3, none⟩) (Ne.symm hab) (.int .i64 91)).set_ 2 (.slice (some ⟨wc.heap.size, 0, none⟩) 2 2)).alloc (.cells #[.int .i64 4, .int .i64 30, .int .i64 5, .int .i64 7] 50))
    have dn : Blk (((wc.setCell ⟨ga, 3, none⟩ (.int .i64 91)).setCell ⟨gb, 2, none⟩ (.slice (some ⟨wc.heap.size, 0, none⟩) 2 2)).alloc (.cells #[.int .i64 4, .int .i64 30, .int .i64 5, .int .i64 7] 50)) wc.heap.size _ _ := Blk.new' (by simp) _ _
    have ht6 : Touch [] w (((wc.setCell ⟨ga, 3, none⟩ (.int .i64 91)).setCell ⟨gb, 2, none⟩ (.slice (some ⟨wc.heap.size, 0, none⟩) 2 2)).alloc (.cells #[.int .i64 4, .int .i64 30, .int .i64 5, .int .i64 7] 50)) := ((htc.setCell (.inr (by rw [HN0.out]; show n0 ≤ ga; omega)) _).setCell (.inr (by rw [HN0.out]; show n0 ≤ gb; omega)) _).alloc _
    simp only [List.setIfInBounds_toArray, List.set_cons_succ, List.set_cons_zero] at da db
    generalize wc.heap.size = nb at *
    generalize ((wc.setCell ⟨ga, 3, none⟩ (.int .i64 91)).setCell ⟨gb, 2, none⟩ (.slice (some ⟨nb, 0, none⟩) 2 2)).alloc (.cells #[.int .i64 4, .int .i64 30, .int .i64 5, .int .i64 7] 50) = W6 at *
    have tW : Trips W6 (.slice (some ⟨n0, 0, none⟩) 2 2) Wk := Rows_.of_blk (xs := Wk) d0 rfl (by simp [Wk, Tx.Fit, Fits]) (by decide)
    have tX : Nums W6 (.slice (some ⟨n0 + 1, 0, none⟩) 1 1) [4] := Rows_.of_blk (xs := [4]) d1 rfl (by simp [Fits]) (by decide)
    have tA : Pairs W6 (.slice (some ⟨n0 + 1 + 1, 0, none⟩) 2 2) Ak := Rows_.of_blk (xs := Ak) d2 rfl (by simp [Ak, Cx.Fit, Fits]) (by decide)
    have tB : Pairs W6 (.slice (some ⟨nb, 0, none⟩) 2 2) Bk := Rows_.of_blk (xs := Bk) dn rfl (by simp [Bk, Cx.Fit, Fits]) (by decide)
    have tL : Trips W6 (.slice (some ⟨n0 + 1 + 1 + 1 + 1, 0, none⟩) 3 3) Lk := Rows_.of_blk (xs := Lk) d4 rfl (by simp [Lk, Tx.Fit, Fits]) (by decide)
    have HO : Hid (∀ W', Touch [] W6 W' → (ok0 (.slice (some ⟨n0, 0, none⟩) 2 2) (.slice (some ⟨n0 + 1, 0, none⟩) 1 1) (.slice (some ⟨n0 + 1 + 1, 0, none⟩) 2 2)).Ok W') := Lib.hid (fun W' h => ⟨tW.touch0 h, tX.touch0 h, tA.touch0 h, by simp [Fits, ok0]⟩)
    have HA : Hid (∀ W', Touch [] W6 W' → (oka (.slice (some ⟨n0, 0, none⟩) 2 2) (.slice (some ⟨n0 + 1, 0, none⟩) 1 1) (.slice (some ⟨n0 + 1 + 1, 0, none⟩) 2 2)).Ok W') := Lib.hid (fun W' h => ⟨tW.touch0 h, tX.touch0 h, tA.touch0 h, by simp [Fits, oka]⟩)
    have HBB : Hid (∀ W', Touch [] W6 W' → (okb (.slice (some ⟨n0, 0, none⟩) 2 2) (.slice (some ⟨n0 + 1, 0, none⟩) 1 1) (.slice (some ⟨nb, 0, none⟩) 2 2)).Ok W') := Lib.hid (fun W' h => ⟨tW.touch0 h, tX.touch0 h, tB.touch0 h, by simp [Fits, okb]⟩)
    have HL := Lib.hid (fun (W' : World) (h : Touch [] W6 W') => tL.touch0 h)
    have HK3 := Lib.hid d3
    have HKA := Lib.hid da
    have HKB := Lib.hid db
    have HS0 : Hid ((ok0 (.slice (some ⟨n0, 0, none⟩) 2 2) (.slice (some ⟨n0 + 1, 0, none⟩) 1 1) (.slice (some ⟨n0 + 1 + 1, 0, none⟩) 2 2)).small) := Lib.hid ⟨show 2 ≤ 20 by decide, show 1 ≤ 20 by decide, show 2 ≤ 40 by decide⟩
    have HSA : Hid ((oka (.slice (some ⟨n0, 0, none⟩) 2 2) (.slice (some ⟨n0 + 1, 0, none⟩) 1 1) (.slice (some ⟨n0 + 1 + 1, 0, none⟩) 2 2)).small) := Lib.hid ⟨show 2 ≤ 20 by decide, show 1 ≤ 20 by decide, show 2 ≤ 40 by decide⟩
    have HSB : Hid ((okb (.slice (some ⟨n0, 0, none⟩) 2 2) (.slice (some ⟨n0 + 1, 0, none⟩) 1 1) (.slice (some ⟨nb, 0, none⟩) 2 2)).small) := Lib.hid ⟨show 2 ≤ 20 by decide, show 1 ≤ 20 by decide, show 2 ≤ 40 by decide⟩
    have HT6 := Lib.hid ht6
    have hw6 := hw.touch ht6
    have HW6 := Lib.hid (fun (W' : World) (h : Touch [] W6 W') => hw6.touch h)
    clear far d0 d1 d2 d3 d4 da db dn ht6 tW tX tA tB tL hw hw6 c0 c1 c2 c3 c4 hka hkb htc a3 f3 b2 g2 o0 o1 o2 o3 e1 e2 e3 hga hgb hga' hgb' hc3 hab HN0
    have P1 := payment_any _ 5 W6 (HO.out W6 (Touch.refl _ _)) HS0.out
    unfold PayPost at P1
    rw [k_pay5] at P1
    simp only [ok0, Ox.val] at P1
    have HP1 := Lib.hid P1
    clear P1
    refine HP1.out.mono ?_
    rintro r w7 ⟨rfl, ht7⟩
    dsimp only
    have b7 := HK3.out.touch ht7 (by simp)
    have o0 := b7.cell 0
    have o1 := b7.cell 1
    have o2 := b7.cell 2
    have o3 := b7.cell 3
    simp at o0 o1 o2 o3
    clear b7 HP1
    go_wp2_with fail
    have P2 := payment_any _ 4 w7 (HO.out w7 ht7) HS0.out
    unfold PayPost at P2
    rw [k_pay4] at P2
    simp only [ok0, Ox.val] at P2
    refine P2.mono ?_
    clear P2
    rintro r w8 ⟨rfl, ht8'⟩
    have ht8 := ht7.then0 ht8'
    clear o0 o1 o2 o3 ht8' ht7
    dsimp only
    go_wp2_with fail
    have htm : Touch [] W6 (w8.alloc (.cells #[.int .i64 1, .int .i64 3, .int .i64 1000000, .int .i64 2, .int .i64 3, .int .i64 500000] 52)) := ht8.alloc _
    have tM : Trips (w8.alloc (.cells #[.int .i64 1, .int .i64 3, .int .i64 1000000, .int .i64 2, .int .i64 3, .int .i64 500000] 52)) (.slice (some ⟨w8.heap.size, 0, none⟩) 2 2) Mk := Rows_.of_blk (xs := Mk) (Blk.new w8 52 #[.int .i64 1, .int .i64 3, .int .i64 1000000, .int .i64 2, .int .i64 3, .int .i64 500000]) rfl (by simp [Mk, Tx.Fit, Fits]) (by decide)
    have P3 := ceiling_any _ Mk 100 _ (HW6.out _ htm) tM (by decide)
    rw [k_ceil] at P3
    refine P3.mono ?_
    clear P3 tM
    rintro r w9 ⟨rfl, ht9'⟩
    have ht9 := htm.then0 ht9'
    clear ht9' htm ht8
    dsimp only
    have b7 := HK3.out.touch ht9 (by simp)
    have o0 := b7.cell 0
    have o1 := b7.cell 1
    have o2 := b7.cell 2
    have o3 := b7.cell 3
    simp at o0 o1 o2 o3
    clear b7
    go_wp2_with fail
    have P4 := follows_any _ _ Lk 70 w9 (HW6.out _ ht9) (HO.out w9 ht9) HS0.out (HL.out w9 ht9) (by decide)
    unfold FolPost at P4
    rw [k_fol1] at P4
    simp only [ok0, Ox.val] at P4
    refine P4.mono ?_
    clear P4
    rintro r w10 ⟨rfl, ht10'⟩
    have ht10 := ht9.then0 ht10'
    clear ht10' ht9 o0 o1 o2 o3
    dsimp only
    have b7 := HK3.out.touch ht10 (by simp)
    have o0 := b7.cell 0
    have o1 := b7.cell 1
    have o2 := b7.cell 2
    have o3 := b7.cell 3
    simp at o0 o1 o2 o3
    clear b7
    go_wp2_with fail
    have P5 := follows_any _ _ Lk 69 w10 (HW6.out _ ht10) (HO.out w10 ht10) HS0.out (HL.out w10 ht10) (by decide)
    unfold FolPost at P5
    rw [k_fol2] at P5
    simp only [ok0, Ox.val] at P5
    refine P5.mono ?_
    clear P5
    rintro r w11 ⟨rfl, ht11'⟩
    have ht11 := ht10.then0 ht11'
    clear ht11' ht10 o0 o1 o2 o3
    dsimp only
    have b7 := HK3.out.touch ht11 (by simp)
    have o0 := b7.cell 0
    have o1 := b7.cell 1
    have o2 := b7.cell 2
    have o3 := b7.cell 3
    simp at o0 o1 o2 o3
    clear b7
    go_wp2_with fail
    have P6 := valid_any _ w11 (HO.out w11 ht11) HS0.out
    rw [k_val] at P6
    simp only [ok0, Ox.val] at P6
    refine P6.mono ?_
    clear P6
    rintro r w12 ⟨rfl, ht12'⟩
    have ht12 := ht11.then0 ht12'
    clear ht12' ht11 o0 o1 o2 o3
    dsimp only
    have b7 := HKA.out.touch ht12 (by simp)
    have o0 := b7.cell 0
    have o1 := b7.cell 1
    have o2 := b7.cell 2
    have o3 := b7.cell 3
    simp at o0 o1 o2 o3
    clear b7
    go_wp2_with fail
    have P7 := valid_any _ w12 (HA.out w12 ht12) HSA.out
    rw [k_vala] at P7
    simp only [oka, Ox.val] at P7
    refine P7.mono ?_
    clear P7
    rintro r w13 ⟨rfl, ht13'⟩
    have ht13 := ht12.then0 ht13'
    clear ht13' ht12 o0 o1 o2 o3
    dsimp only
    have b7 := HKB.out.touch ht13 (by simp)
    have o0 := b7.cell 0
    have o1 := b7.cell 1
    have o2 := b7.cell 2
    have o3 := b7.cell 3
    simp at o0 o1 o2 o3
    clear b7
    go_wp2_with fail
    have P8 := valid_any _ w13 (HBB.out w13 ht13) HSB.out
    rw [k_valb] at P8
    simp only [okb, Ox.val] at P8
    refine P8.mono ?_
    clear P8
    rintro r w14 ⟨rfl, ht14'⟩
    have ht14 := ht13.then0 ht14'
    clear ht14' ht13 o0 o1 o2 o3
    dsimp only
    go_wp2_with fail
    go_ret
    exact ⟨rfl, HT6.out.then0 ht14⟩
end Go.Proofs.YtpbknnkobhjjcaaDoor
