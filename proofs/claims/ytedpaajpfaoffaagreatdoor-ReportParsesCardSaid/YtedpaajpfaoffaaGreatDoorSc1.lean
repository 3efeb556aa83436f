/- report.events over any bytes. -/
import Derived.Test.YtedpaajpfaoffaaGreatDoorSaA
set_option linter.all false
set_option maxHeartbeats 8000000
set_option maxRecDepth 100000
namespace Go.Proofs.YtedpaajpfaoffaaGreatDoor
open Go.RowKit
def OwnS (w : World) (v : Value) (xs : List (List UInt8)) : Prop := Own w 9 1 v xs.length (xs.map str)
section
variable {w w' : World} {v : Value} {xs : List (List UInt8)} {L : List Nat}
theorem OwnS.nil (w : World) : OwnS w (.slice none 0 0) [] := Own.nil _ _ _
theorem OwnS.form (h : OwnS w v xs) : ∃ A cap, v = .slice A xs.length cap := Own.form h
theorem OwnS.touch (h : OwnS w v xs) (ht : Touch L w w') (hv : ∀ b ∈ blk v, b ∉ L) : OwnS w' v xs := Own.touch h ht hv
theorem OwnS.touch0 (h : OwnS w v xs) (ht : Touch [] w w') : OwnS w' v xs := Own.touch0 h ht
theorem OwnS.snoc {y : List UInt8} (h : Own w 9 1 v (xs.length + 1) (xs.map str ++ [.string ⟨y.toArray⟩])) : OwnS w v (xs ++ [y]) := by
 unfold OwnS
 rw [List.length_append, List.map_append]
 exact h
end
def EvPost (p : Nat) (inp : Value) (l : List UInt8) (o : Option (List (List UInt8) × Nat)) (w : World) (r : Ending) (w' : World) : Prop := Touch [p] w w' ∧ match o with
 | some x => ∃ u, r = .returned u ∧ OwnS w' u x.1 ∧ (∀ g ∈ blk u, w.heap.size ≤ g) ∧ Rd w' p inp l 0 x.2
 | none => r = unread
theorem RN.kind {w : World} (h : RN w) (m : Nat) (hm : m < 4) : w.cell? ⟨1, m, none⟩ = some (.string ⟨(kindL ((m : Int) + 1)).toArray⟩) := by
 rw [h.kinds.cell m]
 match m, hm with
 | 0, _ => simp [kindL]
 | 1, _ => simp [kindL]
 | 2, _ => simp [kindL]
 | 3, _ => simp [kindL]
theorem RN.option {w : World} (h : RN w) (m : Nat) (hm : m < 4) : w.cell? ⟨2, m, none⟩ = some (.string ⟨(optL (m : Int)).toArray⟩) := by
 rw [h.options.cell m]
 match m, hm with
 | 0, _ => simp [optL]
 | 1, _ => simp [optL]
 | 2, _ => simp [optL]
 | 3, _ => simp [optL]
theorem RN.phase {w : World} (h : RN w) (m : Nat) (hm : m < 5) : w.cell? ⟨0, m, none⟩ = some (.string ⟨(phaseL ((m : Int) + 1)).toArray⟩) := by
 rw [h.phases.cell m]
 match m, hm with
 | 0, _ => simp [phaseL]
 | 1, _ => simp [phaseL]
 | 2, _ => simp [phaseL]
 | 3, _ => simp [phaseL]
 | 4, _ => simp [phaseL]
theorem kind_le (k : Int) : (kindL k).length ≤ 6 := by unfold kindL; split <;> (try split) <;> (try split) <;> simp
theorem opt_le (k : Int) : (optL k).length ≤ 4 := by unfold optL; split <;> (try split) <;> (try split) <;> simp
theorem phase_le (k : Int) : (phaseL k).length ≤ 7 := by unfold phaseL; split <;> (try split) <;> (try split) <;> (try split) <;> simp
theorem money_le (n : Int) (h0 : -9223372036854775808 ≤ n) (h1 : n ≤ 9223372036854775807) : (moneyL n).length ≤ 100 := by
 unfold moneyL groupL
 split
 ·have h2 := cgrp_length (Lib.decDigits n.natAbs).length (Lib.decDigits n.natAbs) 0
  have h3 := dec_le20 n.natAbs (by omega)
  simp
  omega
 ·have h2 := cgrp_length (Lib.decDigits n.toNat).length (Lib.decDigits n.toNat) 0
  have h3 := dec_le20 n.toNat (by omega)
  omega
theorem join4_le {a b c d : List UInt8} {n : Nat} (h : a.length + b.length + c.length + d.length + 3 ≤ n) : (Lib.join [a, b, c, d] [32]).length ≤ n := by
 rw [Lib.join_length]
 simp [Lib.lens]
 omega
theorem itoa_le (n : Int) (h0 : 0 ≤ n) (h1 : n ≤ 9223372036854775807) : (Lib.itoa n).length ≤ 21 := itoa_le20 n (by omega) h1
def EvRel (w : World) (p : Nat) (inp : Value) (l : List UInt8) (N : Nat) (res : Option (List (List UInt8) × Nat)) (tl ti : Value) (wr : World) : Prop :=
 ∃ (i : Nat) (acc : List (List UInt8)) (a : Nat), i ≤ N ∧ ti = .int .i64 i ∧ acc.length = i ∧ OwnS wr tl acc ∧ (∀ g ∈ blk tl, w.heap.size ≤ g) ∧ Rd wr p inp l 0 a ∧ Touch [p] w wr ∧ Hid (res = rowsB (evStep l) acc (N - i) a)
theorem events_any (v p : Nat) (inp : Value) (l : List UInt8) (a : Nat) (w : World) (h : Rd w p inp l 0 a) (hv : Blk w v 71 #[.pointer (some ⟨p, 0, none⟩)]) (hvp : v ≠ p) (hn : RN w) (hpn : 6 ≤ p) :
  Calls Tryz.prog 44 #[.pointer (some ⟨p, 0, none⟩), limV v] w (EvPost p inp l (evL l a) w) := by
 have hmf := make_func
 unfold limV
 have HL := Lib.hid (fun (low lim : Int) (s : Int × Nat) (W : World) (t : Touch [p] w W) (hw : Rd W p inp l s.1 s.2) => limited_any low lim v p inp l s W hw (hv.touch t (by simpa using hvp)) hvp)
 have HN := Lib.hid (fun (W : World) (t : Touch [p] w W) => hn.touch t (by simpa using hpn))
 have HR := Lib.hid h
 have HE : Hid (evL l a = (limO l 0 512 (0, a)).bind fun n => rowsB (evStep l) [] n.1.toNat n.2) := Lib.hid rfl
 generalize evL l a = res at *
 have HX := Lib.hid (HL.out 0 512 (0, a) w (Touch.refl _ _) h)
 have hpl := h.1.lt
 have HIN := Lib.hid h.2.2.2.2.1
 have HFP : Hid (∀ (u : Value), (∀ g ∈ blk u, w.heap.size ≤ g) → ∀ b ∈ blk u, b ∉ [p]) := Lib.hid (fun u hu b hb hm => by rw [List.mem_singleton] at hm; have := hu b hb; omega)
 clear hn h
 cases hx : limO l 0 512 (0, a) with
 | none =>
  rw [hx] at HE HX
  obtain rfl : res = none := HE.out
  go_enter Tryz.func44, Tryz.ntmps44
  go_wp2_with fail
  refine HX.out.mono ?_
  rintro r w1 ⟨ht, rfl⟩
  unfold unread
  go_wp2_with fail
  exact ⟨rfl, ht, rfl⟩
 | some x =>
  obtain ⟨N, a1⟩ := x
  obtain ⟨-, h1, h2, h3, -⟩ := limO_some hx
  simp only at h1 h2 h3
  rw [hx] at HE HX
  obtain ⟨N, rfl⟩ : ∃ m : Nat, N = (m : Int) := ⟨N.toNat, by omega⟩
  have hN : N ≤ 512 := by omega
  clear hx h1 h2 h3
  go_enter Tryz.func44, Tryz.ntmps44
  go_wp2_with fail
  refine HX.out.mono ?_
  rintro r w1 ⟨ht1, rfl, hR1⟩
  dsimp only at hR1 ⊢
  have HR1 := Lib.hid hR1
  clear hR1
  go_wp2_with fail
  go_loopw [5, 11] (fun tl ti wr => EvRel w p inp l N res tl ti wr) (fun _ ti _ => N - (intOf ti).toNat)
  case atStart => exact ⟨0, [], a1, by omega, rfl, rfl, OwnS.nil _, (fun g hg => by cases hg), HR1.out, ht1, Lib.hid (by rw [HE.out]; simp)⟩
  case round =>
   clear ht1 HR1 HX HR HE
   obtain ⟨i, acc, a2, hi, rfl, hal, ho, hf, hR, ht, HS⟩ := hrel
   obtain ⟨A, cap, rfl⟩ := ho.form
   have HO := Lib.hid ho
   have HF := Lib.hid hf
   have HR := Lib.hid hR
   have HAL := Lib.hid hal
   clear ho hf hR hal
   by_cases hlt : i < N
   ·have hlt' : (i : Int) < (N : Int) := by omega
    have HS1 : Hid (res = (evStep l acc a2).bind fun x => rowsB (evStep l) x.1 (N - (i + 1)) x.2) := Lib.hid (by rw [HS.out, show N - i = (N - (i + 1)) + 1 by omega]; rfl)
    clear HS
    have HX1 := Lib.hid (HL.out 0 maxI (0, a2) wr ht HR.out)
    cases hs : limO l 0 maxI (0, a2) with
    | none =>
     have HS9 : Hid (res = none) := Lib.hid (by rw [HS1.out]; unfold evStep; rw [hs]; rfl)
     rw [hs] at HX1
     go_wp2_with fail
     refine HX1.out.mono ?_
     rintro r w9 ⟨ht9, rfl⟩
     unfold unread
     go_wp2_with fail
     rw [HS9.out]
     exact ⟨rfl, ht.trans ht9, rfl⟩
    | some s =>
    obtain ⟨s, a3⟩ := s
    obtain ⟨-, -, -, s0, s1, -⟩ := limO_some hs
    simp only at s0 s1
    have HS := Lib.hid (And.intro s0 s1)
    rw [hs] at HX1
    have HS2 : Hid (res = ((limO l 1 4 (0, a3)).bind fun k => (limO l 0 3 (0, k.2)).bind fun o => (limO l 0 maxI (0, o.2)).bind fun p => some (acc ++ [evLine s k.1 o.1 p.1], p.2)).bind fun x => rowsB (evStep l) x.1 (N - (i + 1)) x.2) := Lib.hid (by rw [HS1.out]; unfold evStep; rw [hs]; rfl)
    clear HS1 hs s0 s1
    go_wp2_with fail
    refine HX1.out.mono ?_
    rintro r w2 ⟨ht2, rfl, hR2⟩
    dsimp only at hR2 ⊢
    have HR2 := Lib.hid hR2
    have HO2 := Lib.hid (HO.out.touch ht2 (HFP.out _ HF.out))
    replace ht2 := ht.trans ht2
    clear hR2 HX1 HO HR ht
    go_wp2_with fail
    refine (itoa_any s w2 (by have := HS.out; omega) HS.out.2 (HN.out w2 ht2).tab).mono ?_
    rintro r w3 ⟨rfl, ht3⟩
    have HR3 := Lib.hid (HR2.out.touch ht3 (by simp) (fun _ _ => by simp))
    have HO3 := Lib.hid (HO2.out.touch0 ht3)
    replace ht3 := ht2.then0 ht3
    clear HR2 HO2 ht2
    have HX2 := Lib.hid (HL.out 1 4 (0, a3) w3 ht3 HR3.out)
    cases hs : limO l 1 4 (0, a3) with
    | none =>
     have HS9 : Hid (res = none) := Lib.hid (by rw [HS2.out, hs]; rfl)
     rw [hs] at HX2
     go_wp2_with fail
     refine HX2.out.mono ?_
     rintro r w9 ⟨ht9, rfl⟩
     unfold unread
     go_wp2_with fail
     rw [HS9.out]
     exact ⟨rfl, ht3.trans ht9, rfl⟩
    | some k =>
    obtain ⟨k, a4⟩ := k
    obtain ⟨-, k0, k1, -⟩ := limO_some hs
    simp only at k0 k1
    obtain ⟨m, rfl⟩ : ∃ m : Nat, k = (m : Int) + 1 := ⟨(k - 1).toNat, by omega⟩
    have hm : m < 4 := by omega
    have hm' : (m : Int) < 4 := by omega
    rw [hs] at HX2
    have HS3 : Hid (res = ((limO l 0 3 (0, a4)).bind fun o => (limO l 0 maxI (0, o.2)).bind fun p => some (acc ++ [evLine s ((m : Int) + 1) o.1 p.1], p.2)).bind fun x => rowsB (evStep l) x.1 (N - (i + 1)) x.2) := Lib.hid (by rw [HS2.out, hs]; rfl)
    clear HS2 hs k0 k1
    go_wp2_with fail
    refine HX2.out.mono ?_
    rintro r w4 ⟨ht4, rfl, hR4⟩
    dsimp only at hR4 ⊢
    have HR4 := Lib.hid hR4
    have HO4 := Lib.hid (HO3.out.touch ht4 (HFP.out _ HF.out))
    replace ht4 := ht3.trans ht4
    have ck := (HN.out w4 ht4).kind m hm
    clear hR4 HX2 HO3 HR3 ht3
    go_wp2_with fail
    have HX3 := Lib.hid (HL.out 0 3 (0, a4) w4 ht4 HR4.out)
    clear ck
    cases hs : limO l 0 3 (0, a4) with
    | none =>
     have HS9 : Hid (res = none) := Lib.hid (by rw [HS3.out, hs]; rfl)
     rw [hs] at HX3
     go_wp2_with fail
     refine HX3.out.mono ?_
     rintro r w9 ⟨ht9, rfl⟩
     unfold unread
     go_wp2_with fail
     rw [HS9.out]
     exact ⟨rfl, ht4.trans ht9, rfl⟩
    | some o =>
    obtain ⟨o, a5⟩ := o
    obtain ⟨-, k0, k1, -⟩ := limO_some hs
    simp only at k0 k1
    obtain ⟨q, rfl⟩ : ∃ q : Nat, o = (q : Int) := ⟨o.toNat, by omega⟩
    have hq : q < 4 := by omega
    have hq' : (q : Int) < 4 := by omega
    rw [hs] at HX3
    have HS4 : Hid (res = ((limO l 0 maxI (0, a5)).bind fun p => some (acc ++ [evLine s ((m : Int) + 1) (q : Int) p.1], p.2)).bind fun x => rowsB (evStep l) x.1 (N - (i + 1)) x.2) := Lib.hid (by rw [HS3.out, hs]; rfl)
    clear HS3 hs k0 k1
    go_wp2_with fail
    refine HX3.out.mono ?_
    rintro r w5 ⟨ht5, rfl, hR5⟩
    dsimp only at hR5 ⊢
    have HR5 := Lib.hid hR5
    have HO5 := Lib.hid (HO4.out.touch ht5 (HFP.out _ HF.out))
    replace ht5 := ht4.trans ht5
    have co := (HN.out w5 ht5).option q hq
    clear hR5 HX3 HO4 HR4 ht4
    go_wp2_with fail
    have HX4 := Lib.hid (HL.out 0 maxI (0, a5) w5 ht5 HR5.out)
    clear co
    cases hs : limO l 0 maxI (0, a5) with
    | none =>
     have HS9 : Hid (res = none) := Lib.hid (by rw [HS4.out, hs]; rfl)
     rw [hs] at HX4
     go_wp2_with fail
     refine HX4.out.mono ?_
     rintro r w9 ⟨ht9, rfl⟩
     unfold unread
     go_wp2_with fail
     rw [HS9.out]
     exact ⟨rfl, ht5.trans ht9, rfl⟩
    | some c =>
    obtain ⟨c, a6⟩ := c
    obtain ⟨-, -, -, c0, c1, -⟩ := limO_some hs
    simp only at c0 c1
    have HC := Lib.hid (And.intro c0 c1)
    rw [hs] at HX4
    have HS5 : Hid (res = rowsB (evStep l) (acc ++ [evLine s ((m : Int) + 1) (q : Int) c]) (N - (i + 1)) a6) := Lib.hid (by rw [HS4.out, hs]; rfl)
    clear HS4 hs c0 c1
    go_wp2_with fail
    refine HX4.out.mono ?_
    rintro r w6 ⟨ht6, rfl, hR6⟩
    dsimp only at hR6 ⊢
    have HR6 := Lib.hid hR6
    have HO6 := Lib.hid (HO5.out.touch ht6 (HFP.out _ HF.out))
    replace ht6 := ht5.trans ht6
    clear hR6 HX4 HO5 HR5 ht5
    go_wp2_with fail
    refine (money_any c w6 (by have := HC.out; omega) HC.out.2 (HN.out w6 ht6).tab).mono ?_
    rintro r w7 ⟨rfl, ht7⟩
    have HR7 := Lib.hid (HR6.out.touch ht7 (by simp) (fun _ _ => by simp))
    have HO7 := Lib.hid (HO6.out.touch0 ht7)
    replace ht7 := ht6.then0 ht7
    clear HR6 HO6 ht6
    go_wp2_with fail
    refine (words_any w7.heap.size 0 4 [Lib.itoa s, kindL ((m : Int) + 1), optL (q : Int), moneyL c] _ (fun j y hy => news_cell w7 9 [Lib.itoa s, kindL ((m : Int) + 1), optL (q : Int), moneyL c] j y hy) (by simp) (by simp) (by simp) (join4_le (by
     have h1 := itoa_le s HS.out.1 HS.out.2
     have h2 := kind_le ((m : Int) + 1)
     have h3 := opt_le (q : Int)
     have h4 := money_le c (by have := HC.out; omega) HC.out.2
     omega))).mono ?_
    rintro r w8 ⟨rfl, ht8⟩
    have HTN := (Touch.refl [] w7).alloc (.cells #[.string ⟨(Lib.itoa s).toArray⟩, .string ⟨(kindL ((m : Int) + 1)).toArray⟩, .string ⟨(optL (q : Int)).toArray⟩, .string ⟨(moneyL c).toArray⟩] 9)
    have HR8 := Lib.hid ((HR7.out.touch HTN (by simp) (fun _ _ => by simp)).touch ht8 (by simp) (fun _ _ => by simp))
    have HO8 := Lib.hid ((HO7.out.touch0 HTN).touch0 ht8)
    replace ht8 := (ht7.then0 HTN).then0 ht8
    have e8 : Lib.join [Lib.itoa s, kindL ((m : Int) + 1), optL (q : Int), moneyL c] [32] = evLine s ((m : Int) + 1) (q : Int) c := rfl
    rw [e8]
    clear HR7 HO7 ht7 HTN e8
    have hal2 : acc.length ≤ 512 := by have := HAL.out; omega
    generalize evLine s ((m : Int) + 1) (q : Int) c = ln at *
    go_wp2_with (at_builtin; go_must (refine app_new elem_str HO8.out [.string ⟨ln.toArray⟩] 1 1 (by omega) (by unfold maxLen; omega) ?_); intro v2 w9 ho2 ht9 hf2; obtain ⟨A2, cap2, rfl⟩ := Own.form ho2)
    go_roundw
    case rel =>
     have hB : ∀ b ∈ blk (Value.slice A acc.length cap), p ≠ b := fun b hb e => by have := HF.out b hb; omega
     refine ⟨i + 1, acc ++ [ln], a6, by omega, by go_num, by have := HAL.out; simp; omega, OwnS.snoc ho2, fun g hg => ?_, HR8.out.touch ht9 (fun hm => hB _ hm rfl) (fun b hb hm => ?_), ht8.step ht9 (fun b hb => .inr (HF.out b hb)), HS5⟩
     ·rcases hf2 g hg with h | h
      ·exact HF.out g h
      ·exact Nat.le_trans ht8.size h
     ·have h1 := HIN.out b hb
      have h2 := HF.out b hm
      omega
    case measure => simp [intOf]; omega
   ·have hlt' : ¬ (i : Int) < (N : Int) := by omega
    have HS2 : Hid (res = some (acc, a2)) := Lib.hid (by rw [HS.out, show N - i = 0 by omega]; rfl)
    clear HS
    go_wp2_with fail
    go_ret
    rw [HS2.out]
    exact ⟨ht, Value.slice A acc.length cap, rfl, HO.out, HF.out, HR.out⟩
end Go.Proofs.YtedpaajpfaoffaaGreatDoor
