/- report.list. -/
import Derived.Test.YtedpaajpfaoffaaGreatDoorSdA
import Derived.Test.YtedpaajpfaoffaaGreatDoorSb3
set_option linter.all false
set_option maxHeartbeats 16000000
set_option maxRecDepth 100000
namespace Go.Proofs.YtedpaajpfaoffaaGreatDoor
open Go.RowKit
theorem join_list_le {name : List UInt8} {f : Int → List UInt8} {xs : List Int} (hn : name.length ≤ 100) (hf : ∀ n ∈ xs, (f n).length ≤ 100) (hl : xs.length ≤ 128) : (Lib.join (name :: xs.map f) [32]).length ≤ 100000 := by
 rw [Lib.join_length]
 have : Lib.lens (xs.map f) ≤ 100 * xs.length := by
  clear hn hl
  induction xs with
  | nil => simp [Lib.lens]
  | cons x xs ih =>
   have h1 := hf x (by simp)
   have h2 := ih (fun n hn => hf n (by simp [hn]))
   simp [Lib.lens] at h2 ⊢
   omega
 simp [Lib.lens] at this ⊢
 omega
def ListRel (w : World) (name : List UInt8) (f : Int → List UInt8) (xs : List Int) (tq ti : Value) (wr : World) : Prop := ∃ k : Nat, k ≤ xs.length ∧ ti = .int .i64 k ∧ OwnS wr tq (name :: (xs.take k).map f) ∧ (∀ b ∈ blk tq, w.heap.size ≤ b) ∧ Touch [] w wr
theorem list_any (F : FuncId) (f : Int → List UInt8) (name : List UInt8) (v : Value) (xs : List Int) (w : World) (hv : RowI w v xs) (hfit : ∀ n ∈ xs, Fits n) (hl : xs.length ≤ 128) (hn : name.length ≤ 100) (hle : ∀ n ∈ xs, (f n).length ≤ 100)
  (hF : ∀ args W, (callFunc F args).run Tryz.prog W = .ok (.enter F args) W) (hcl : ∀ W n, Touch [] w W → Fits n → Calls Tryz.prog F #[.int .i64 n] W fun r w' => r = .returned (.string ⟨(f n).toArray⟩) ∧ Touch [] W w') :
  Calls Tryz.prog 45 #[.string ⟨name.toArray⟩, v, .func (.func F) #[] #[]] w fun r w' => r = .returned (.string ⟨(listLine name f xs).toArray⟩) ∧ Touch [] w w' := by
 obtain ⟨A, cap, rfl, c1, c2⟩ := hv.cap
 have HCL := Lib.hid hcl
 by_cases hx : xs = []
 ·subst hx
  have HJ := Lib.hid (words_any w.heap.size 0 2 [name, [45]] _ (fun j y hy => news_cell w 9 [name, [45]] j y hy) (by simp) (by simp) (by simp) (by rw [Lib.join_length]; simp [Lib.lens]; omega))
  have e1 : Lib.join [name, [45]] [32] = listLine name f [] := by
   rw [Lib.join_cons]
   simp [Lib.joinTail, listLine]
  rw [e1] at HJ
  clear hcl
  go_enter Tryz.func45, Tryz.ntmps45
  go_wp2_with fail
  refine HJ.out.mono ?_
  rintro r w1 ⟨rfl, ht1⟩
  go_wp2_with fail
  go_ret
  exact ⟨rfl, ((Touch.refl [] w).alloc _).then0 ht1⟩
 ·have hpos : 0 < xs.length := List.length_pos_iff.2 hx
  have hne : ((xs.length : Int) == 0) = false := by rw [beq_eq_false_iff_ne]; omega
  have HX : Hid (listLine name f xs = Lib.join (name :: xs.map f) [32]) := Lib.hid (by unfold listLine; rw [if_neg hx])
  have HJL := Lib.hid (join_list_le (name := name) hn hle hl)
  have hst : ListRel w name f xs (.slice (some ⟨w.heap.size, 0, none⟩) 1 1) (.int .i64 0) (w.alloc (.cells #[.string ⟨name.toArray⟩] 9)) := ⟨0, by omega, rfl, ownLit w _ rfl 9 1 1 [.string ⟨name.toArray⟩] rfl (by simp [maxLen]), fun b hb => by simp [blk] at hb; omega, (Touch.refl _ _).alloc _⟩
  have HV := Lib.hid hv
  have HFIT := Lib.hid hfit
  clear hx hcl hle hn hv hfit
  go_enter Tryz.func45, Tryz.ntmps45
  go_wp2_with fail
  go_loopw [7, 20] (fun tq ti wr => ListRel w name f xs tq ti wr) (fun _ ti _ => xs.length - (intOf ti).toNat)
  case atStart => exact hst
  case round =>
   clear hst
   obtain ⟨k, hk, rfl, ho, hfr, ht⟩ := hrel
   obtain ⟨Aq, cq, hq⟩ := ho.form
   subst hq
   have HO := Lib.hid ho
   have HFR := Lib.hid hfr
   have e1 : (name :: (xs.take k).map f).length = k + 1 := by simp; omega
   clear ho hfr
   by_cases hlt : k < xs.length
   ·have hlt' : (k : Int) < (xs.length : Int) := by omega
    obtain ⟨b, off, rfl, hc⟩ := HV.out.addr hlt
    have q0 := hc _ ht
    have HN : Hid ((name :: (xs.take k).map f) ++ [f xs[k]] = name :: (xs.take (k + 1)).map f) := Lib.hid (by rw [List.take_succ_eq_append_getElem hlt, List.map_append]; rfl)
    have HXF := Lib.hid (HFIT.out _ (List.getElem_mem hlt))
    generalize xs[k] = x at *
    have HC2 := Lib.hid (HCL.out wr x ht HXF.out)
    rw [e1] at HO HFR ⊢
    clear hc e1
    go_wp2_with fail
    refine HC2.out.mono ?_
    rintro r w1 ⟨rfl, ht1⟩
    have HO1 : Hid (Own w1 9 1 (.slice Aq (k + 1) cq) (k + 1) ((name :: (xs.take k).map f).map str)) := Lib.hid (by
     have := HO.out.touch0 ht1
     unfold OwnS at this
     rwa [show (name :: (xs.take k).map f).length = k + 1 by simp; omega] at this)
    generalize hfx : f x = y at *
    go_wp2_with (at_builtin; go_must (refine app_new elem_str HO1.out [.string ⟨y.toArray⟩] 1 1 (by omega) (by unfold maxLen; omega) ?_); intro v2 w9 ho2 ht9 hf2; obtain ⟨A2, cap2, rfl⟩ := Own.form ho2)
    go_roundw
    case rel =>
     refine ⟨k + 1, by omega, by go_num, ?_, fun b hb => ?_, (ht.then0 ht1).step ht9 (fun b hb => .inr (HFR.out b hb))⟩
     ·rw [← HN.out]
      refine OwnS.snoc ?_
      rw [show (name :: (xs.take k).map f).length = k + 1 by simp; omega]
      exact ho2
     ·rcases hf2 b hb with h | h
      ·exact HFR.out b h
      ·have h1 := ht.size
       have h2 := ht1.size
       omega
    case measure => simp [intOf]; omega
   ·have hlt' : ¬ (k : Int) < (xs.length : Int) := by omega
    have hkk : k = xs.length := by omega
    subst hkk
    rw [List.take_length] at HO e1
    obtain ⟨b, off, eA, hcell⟩ : ∃ b off, Aq = some ⟨b, off, none⟩ ∧ (b < wr.heap.size ∧ ∀ (j : Nat) y, (name :: xs.map f)[j]? = some y → wr.cell? ⟨b, off + j, none⟩ = some (.string ⟨y.toArray⟩)) := by
     obtain ⟨A', cap', e, h1, h2, h3, h4⟩ := HO.out.reads
     injection e with e2 e3 e4
     subst e2
     obtain ⟨b, off, rfl, hb, hc⟩ := h4 (by simp)
     exact ⟨b, off, rfl, hb, fun j y hy => hc j _ (by rw [List.getElem?_map, hy]; rfl)⟩
    subst eA
    have hcap2 : (name :: xs.map f).length ≤ cq := by
     obtain ⟨A', cap', e, h1, -⟩ := HO.out.reads
     injection e with e2 e3 e4
     subst e4
     exact h1
    have HJ := Lib.hid (words_any b off cq (name :: xs.map f) wr hcell.2 hcell.1 (by simp; omega) hcap2 HJL.out)
    have e2 : (name :: xs.map f).length = xs.length + 1 := by simp
    rw [e2] at HJ
    rw [List.take_length, e2]
    clear hcell hcap2 e1 e2 HO HFR
    go_wp2_with fail
    refine HJ.out.mono ?_
    rintro r w1 ⟨rfl, ht1⟩
    go_wp2_with fail
    go_ret
    refine ⟨?_, ht.then0 ht1⟩
    rw [HX.out]
    rfl
end Go.Proofs.YtedpaajpfaoffaaGreatDoor
namespace Go.Proofs.YtedpaajpfaoffaaGreatDoor
open Go.RowKit
def slotTail (l : List UInt8) (acc : List (List UInt8)) : List (List UInt8) → Nat → Nat → Option (List (List UInt8) × Nat)
 | parts, 0, a => match pPart l 65536 a with
  | .ok p => if ratOK p.1 = true then some (acc ++ [Lib.join (parts ++ [p.1]) [32]], p.2) else none
  | .error _ => none
 | parts, q + 1, a => (limO l 0 maxI (0, a)).bind fun x => slotTail l acc (parts ++ [Lib.itoa x.1]) q x.2
theorem slot_tail (l : List UInt8) (acc : List (List UInt8)) (a : Nat) : slotStep l acc a = slotTail l acc [] 3 a := rfl
theorem OwnS.lies {w : World} {A : Option Addr} {cap n : Nat} {xs : List (List UInt8)} (h : OwnS w (.slice A n cap) xs) (hn : n = xs.length) (hp : 0 < xs.length) : ∃ b off, A = some ⟨b, off, none⟩ ∧ b < w.heap.size ∧ (∀ (j : Nat) y, xs[j]? = some y → w.cell? ⟨b, off + j, none⟩ = some (.string ⟨y.toArray⟩)) ∧ xs.length ≤ cap := by
 subst hn
 obtain ⟨A', cap', e, h1, h2, h3, h4⟩ := h.reads
 injection e with e2 e3 e4
 subst e2 e4
 obtain ⟨b, off, rfl, hb, hc⟩ := h4 hp
 exact ⟨b, off, rfl, hb, fun j y hy => hc j _ (by rw [List.getElem?_map, hy]; rfl), h1⟩
def AreaRel (w : World) (p : Nat) (inp : Value) (l : List UInt8) (N : Nat) (res : Option (List (List UInt8) × Nat)) (tl ti : Value) (wr : World) : Prop :=
 ∃ (i : Nat) (acc : List (List UInt8)) (a : Nat), i ≤ N ∧ ti = .int .i64 i ∧ acc.length ≤ 7 * i ∧ OwnS wr tl acc ∧ (∀ g ∈ blk tl, w.heap.size ≤ g) ∧ Rd wr p inp l 0 a ∧ Touch [p] w wr ∧ Hid (res = rowsB (areaStep l) acc (N - i) a)
def SlotRel (w : World) (p : Nat) (inp : Value) (l : List UInt8) (i M : Nat) (K : List (List UInt8) × Nat → Option (List (List UInt8) × Nat)) (res : Option (List (List UInt8) × Nat)) (tl tj : Value) (wr : World) : Prop :=
 ∃ (j : Nat) (acc : List (List UInt8)) (a : Nat), j ≤ M ∧ tj = .int .i64 j ∧ acc.length ≤ 7 * i + 1 + j ∧ OwnS wr tl acc ∧ (∀ g ∈ blk tl, w.heap.size ≤ g) ∧ Rd wr p inp l 0 a ∧ Touch [p] w wr ∧ Hid (res = (rowsB (slotStep l) acc (M - j) a).bind K)
def PartRel (w wj : World) (p : Nat) (inp : Value) (l : List UInt8) (acc : List (List UInt8)) (K : List (List UInt8) × Nat → Option (List (List UInt8) × Nat)) (res : Option (List (List UInt8) × Nat)) (tp tq : Value) (wr : World) : Prop :=
 ∃ (q : Nat) (parts : List (List UInt8)) (a : Nat), q ≤ 3 ∧ tq = .int .i64 q ∧ parts.length = q ∧ (∀ y ∈ parts, y.length ≤ 21) ∧ OwnS wr tp parts ∧ (∀ g ∈ blk tp, wj.heap.size ≤ g) ∧ Rd wr p inp l 0 a ∧ Touch [p] wj wr ∧ Hid (res = (slotTail l acc parts (3 - q) a).bind K)
theorem parts_le {parts : List (List UInt8)} {y : List UInt8} (h : ∀ x ∈ parts, x.length ≤ 21) (hl : parts.length = 3) (hy : y.length ≤ 65536) : (Lib.join (parts ++ [y]) [32]).length ≤ 100000 := by
 match parts, hl with
 | [a, b, c], _ =>
  have h1 := h a (by simp)
  have h2 := h b (by simp)
  have h3 := h c (by simp)
  exact join4_le (by omega)
theorem areas_any (v p : Nat) (inp : Value) (l : List UInt8) (a : Nat) (w : World) (mx : Int) (h : Rd w p inp l 0 a) (hv : Blk w v 71 #[.pointer (some ⟨p, 0, none⟩)]) (hvp : v ≠ p) (hn : RN w) (hpn : 11 ≤ p) (hmx : w.cell? ⟨6, 0, none⟩ = some (.int .i64 mx)) (hl : l.length ≤ 65536) :
  Calls Tryz.prog 47 #[.pointer (some ⟨p, 0, none⟩), limV v] w (EvPost p inp l (areasL l a) w) := by
 have hmf := make_func
 unfold limV
 have HL := Lib.hid (fun (low lim : Int) (s : Int × Nat) (W : World) (t : Touch [p] w W) (hw : Rd W p inp l s.1 s.2) => limited_any low lim v p inp l s W hw (hv.touch t (by simpa using hvp)) hvp)
 have HN := Lib.hid (fun (W : World) (t : Touch [p] w W) => hn.touch t (fun g hg => by rw [List.mem_singleton] at hg; omega))
 have HMX : Hid (∀ W, Touch [p] w W → W.cell? ⟨6, 0, none⟩ = some (.int .i64 mx)) := Lib.hid (fun W t => by
  have hb := Lib.lt_of_cell hmx
  rw [t.cell (p := ⟨6, 0, none⟩) hb (by simp; omega)]
  exact hmx)
 have HR := Lib.hid h
 have HE : Hid (areasL l a = (limO l 0 64 (0, a)).bind fun n => rowsB (areaStep l) [] n.1.toNat n.2) := Lib.hid rfl
 generalize areasL l a = res at *
 have HX := Lib.hid (HL.out 0 64 (0, a) w (Touch.refl _ _) h)
 have hpl := h.1.lt
 have HIN := Lib.hid h.2.2.2.2.1
 have HFP : Hid (∀ (u : Value), (∀ g ∈ blk u, w.heap.size ≤ g) → ∀ b ∈ blk u, b ∉ [p]) := Lib.hid (fun u hu b hb hm => by rw [List.mem_singleton] at hm; have := hu b hb; omega)
 clear hn h hmx
 cases hx : limO l 0 64 (0, a) with
 | none =>
  rw [hx] at HE HX
  obtain rfl : res = none := HE.out
  go_enter Tryz.func47, Tryz.ntmps47
  go_wp2_with fail
  refine HX.out.mono ?_
  rintro r w1 ⟨ht, rfl⟩
  unfold unread
  go_wp2_with fail
  exact ⟨rfl, ht, rfl⟩
 | some x =>
  obtain ⟨N, a1⟩ := x
  obtain ⟨-, h1, h2, h3, -⟩ := limO_some hx
  simp only at h1 h2 h3
  rw [hx] at HE HX
  obtain ⟨N, rfl⟩ : ∃ m : Nat, N = (m : Int) := ⟨N.toNat, by omega⟩
  have hN : N ≤ 64 := by omega
  clear hx h1 h2 h3
  go_enter Tryz.func47, Tryz.ntmps47
  go_wp2_with fail
  refine HX.out.mono ?_
  rintro r w1 ⟨ht1, rfl, hR1⟩
  dsimp only at hR1 ⊢
  have HR1 := Lib.hid hR1
  clear hR1
  go_wp2_with fail
  go_loopw [5, 12] (fun tl ti wr => AreaRel w p inp l N res tl ti wr) (fun _ ti _ => N - (intOf ti).toNat)
  case atStart => exact ⟨0, [], a1, by omega, rfl, by simp, OwnS.nil _, (fun g hg => by cases hg), HR1.out, ht1, Lib.hid (by rw [HE.out]; simp)⟩
  case round =>
   clear ht1 HR1 HX HR HE
   obtain ⟨i, acc, a2, hi, rfl, hal, ho, hf, hR, ht, HS⟩ := hrel
   obtain ⟨A, cap, rfl⟩ := ho.form
   have HO := Lib.hid ho
   have HF := Lib.hid hf
   have HR := Lib.hid hR
   have HAL := Lib.hid hal
   clear ho hf hR hal
   by_cases hlt : i < N
   ·have hlt' : (i : Int) < (N : Int) := by omega
    have HS1 : Hid (res = (areaStep l acc a2).bind fun x => rowsB (areaStep l) x.1 (N - (i + 1)) x.2) := Lib.hid (by rw [HS.out, show N - i = (N - (i + 1)) + 1 by omega]; rfl)
    clear HS
    have HX1 := Lib.hid (HL.out 0 maxI (0, a2) wr ht HR.out)
    cases hs : limO l 0 maxI (0, a2) with
    | none =>
     have HS9 : Hid (res = none) := Lib.hid (by rw [HS1.out]; unfold areaStep; rw [hs]; rfl)
     rw [hs] at HX1
     go_wp2_with fail
     refine HX1.out.mono ?_
     rintro r w9 ⟨ht9, rfl⟩
     unfold unread
     go_wp2_with fail
     rw [HS9.out]
     exact ⟨rfl, ht.trans ht9, rfl⟩
    | some s =>
    obtain ⟨s, a3⟩ := s
    obtain ⟨-, -, -, s0, s1, -⟩ := limO_some hs
    simp only at s0 s1
    have HSB := Lib.hid (And.intro s0 s1)
    rw [hs] at HX1
    have HS2 : Hid (res = ((limO l 0 6 (0, a3)).bind fun m => rowsB (slotStep l) (acc ++ [Lib.join [areaB, Lib.itoa s] [32]]) m.1.toNat m.2).bind fun x => rowsB (areaStep l) x.1 (N - (i + 1)) x.2) := Lib.hid (by rw [HS1.out]; unfold areaStep; rw [hs]; rfl)
    clear HS1 hs s0 s1
    go_wp2_with fail
    refine HX1.out.mono ?_
    rintro r w2 ⟨ht2, rfl, hR2⟩
    dsimp only at hR2 ⊢
    have HR2 := Lib.hid hR2
    have HO2 := Lib.hid (HO.out.touch ht2 (HFP.out _ HF.out))
    replace ht2 := ht.trans ht2
    clear hR2 HX1 HO HR ht
    go_wp2_with fail
    refine (itoa_any s w2 (by have := HSB.out; omega) HSB.out.2 (HN.out w2 ht2).tab).mono ?_
    rintro r w3 ⟨rfl, ht3⟩
    have HR3 := Lib.hid (HR2.out.touch ht3 (by simp) (fun _ _ => by simp))
    have HO3 := Lib.hid (HO2.out.touch0 ht3)
    replace ht3 := ht2.then0 ht3
    clear HR2 HO2 ht2
    go_wp2_with fail
    refine (words_any w3.heap.size 0 2 [areaB, Lib.itoa s] _ (fun j y hy => news_cell w3 9 [areaB, Lib.itoa s] j y hy) (by simp) (by simp) (by simp) (by
     have h1 := itoa_le s HSB.out.1 HSB.out.2
     rw [Lib.join_length]
     simp [Lib.lens, areaB]
     omega)).mono ?_
    rintro r w4 ⟨rfl, ht4⟩
    have HTN := (Touch.refl [] w3).alloc (.cells #[.string ⟨areaB.toArray⟩, .string ⟨(Lib.itoa s).toArray⟩] 9)
    have HR4 := Lib.hid ((HR3.out.touch HTN (by simp) (fun _ _ => by simp)).touch ht4 (by simp) (fun _ _ => by simp))
    have HO4 := Lib.hid ((HO3.out.touch0 HTN).touch0 ht4)
    replace ht4 := (ht3.then0 HTN).then0 ht4
    clear HR3 HO3 ht3 HTN
    have hal2 : acc.length ≤ 448 := by have := HAL.out; omega
    generalize Lib.join [areaB, Lib.itoa s] [32] = ln at *
    go_wp2_with (at_builtin; go_must (refine app_new elem_str HO4.out [.string ⟨ln.toArray⟩] 1 1 (by omega) (by unfold maxLen; omega) ?_); intro v2 w5 ho2 ht5 hf2; obtain ⟨A2, cap2, rfl⟩ := Own.form ho2)
    have HO5 : Hid (OwnS w5 (.slice A2 (acc.length + 1) cap2) (acc ++ [ln])) := Lib.hid (OwnS.snoc ho2)
    have HF5 : Hid (∀ g ∈ blk (.slice A2 (acc.length + 1) cap2), w.heap.size ≤ g) := Lib.hid (fun g hg => by
     rcases hf2 g hg with h | h
     ·exact HF.out g h
     ·exact Nat.le_trans ht4.size h)
    have HR5 := Lib.hid (HR4.out.touch ht5 (fun hm => HFP.out _ HF.out _ hm (by simp)) (fun b hb hm => by have h1 := HIN.out b hb; have h2 := HF.out b hm; omega))
    replace ht5 := ht4.step ht5 (fun b hb => .inr (HF.out b hb))
    clear HO4 HR4 ht4 HF ho2 hf2
    have HX2 := Lib.hid (HL.out 0 6 (0, a3) w5 ht5 HR5.out)
    cases hs : limO l 0 6 (0, a3) with
    | none =>
     have HS9 : Hid (res = none) := Lib.hid (by rw [HS2.out, hs]; rfl)
     rw [hs] at HX2
     go_wp2_with fail
     refine HX2.out.mono ?_
     rintro r w9 ⟨ht9, rfl⟩
     unfold unread
     go_wp2_with fail
     rw [HS9.out]
     exact ⟨rfl, ht5.trans ht9, rfl⟩
    | some M =>
    obtain ⟨M, a4⟩ := M
    obtain ⟨-, m0, m1, -⟩ := limO_some hs
    simp only at m0 m1
    obtain ⟨M, rfl⟩ : ∃ q : Nat, M = (q : Int) := ⟨M.toNat, by omega⟩
    have hM : M ≤ 6 := by omega
    rw [hs] at HX2
    have HS3 : Hid (res = (rowsB (slotStep l) (acc ++ [ln]) M a4).bind fun x => rowsB (areaStep l) x.1 (N - (i + 1)) x.2) := Lib.hid (by rw [HS2.out, hs]; rfl)
    clear HS2 hs m0 m1
    go_wp2_with fail
    refine HX2.out.mono ?_
    rintro r w6 ⟨ht6, rfl, hR6⟩
    dsimp only at hR6 ⊢
    have HR6 := Lib.hid hR6
    have HO6 := Lib.hid (HO5.out.touch ht6 (HFP.out _ HF5.out))
    replace ht6 := ht5.trans ht6
    clear hR6 HX2 HO5 HR5 ht5
    go_wp2_with fail
    have hst : SlotRel w p inp l i M (fun x => rowsB (areaStep l) x.1 (N - (i + 1)) x.2) res (.slice A2 (acc.length + 1) cap2) (.int .i64 0) w6 := ⟨0, acc ++ [ln], a4, by omega, rfl, by have := HAL.out; simp; omega, HO6.out, HF5.out, HR6.out, ht6, HS3⟩
    generalize hK : (fun x : List (List UInt8) × Nat => rowsB (areaStep l) x.1 (N - (i + 1)) x.2) = K at *
    have HK := Lib.hid hK
    clear HO6 HF5 HR6 ht6 HS3 hal2 HSB HAL hK
    go_loopw [5, 24] (fun tl tj wr => SlotRel w p inp l i M K res tl tj wr) (fun _ tj _ => M - (intOf tj).toNat)
    case atStart => exact hst
    case round =>
     clear hst
     obtain ⟨j, acc2, b2, hj, rfl, hal, ho, hf, hR, ht, HS⟩ := hrel
     obtain ⟨Aj, capj, rfl⟩ := ho.form
     have HO := Lib.hid ho
     have HF := Lib.hid hf
     have HR := Lib.hid hR
     have HAL := Lib.hid hal
     have HTJ := Lib.hid ht
     clear ho hf hR hal ht
     generalize wr = wj at *
     by_cases hlt2 : j < M
     ·have hlt2' : (j : Int) < (M : Int) := by omega
      have HS4 : Hid (res = (slotTail l acc2 [] 3 b2).bind fun x => (rowsB (slotStep l) x.1 (M - (j + 1)) x.2).bind K) := Lib.hid (by
       rw [HS.out, show M - j = (M - (j + 1)) + 1 by omega, rowsB_succ, slot_tail, Option.bind_assoc])
      clear HS
      generalize hK2 : (fun x : List (List UInt8) × Nat => (rowsB (slotStep l) x.1 (M - (j + 1)) x.2).bind K) = K2 at *
      have HK2 := Lib.hid hK2
      clear hK2
      go_wp2_with fail
      have hst : PartRel w wj p inp l acc2 K2 res (.slice none 0 0) (.int .i64 0) wj := ⟨0, [], b2, by omega, rfl, rfl, by simp, OwnS.nil _, (fun g hg => by cases hg), HR.out, Touch.refl _ _, HS4⟩
      clear HS4 HR
      go_loopw [6, 26] (fun tp tq wr => PartRel w wj p inp l acc2 K2 res tp tq wr) (fun _ tq _ => 3 - (intOf tq).toNat)
      case atStart => exact hst
      case round =>
       clear hst
       obtain ⟨q, parts, b3, hq, rfl, hpl, hple, ho, hf, hR, ht, HS⟩ := hrel
       obtain ⟨Ap, capp, rfl⟩ := ho.form
       have HOP := Lib.hid ho
       have HFP2 := Lib.hid hf
       have HR := Lib.hid hR
       have HPL := Lib.hid hpl
       have HPE := Lib.hid hple
       clear ho hf hR hpl hple
       by_cases hlt3 : q < 3
       ·have hlt3' : (q : Int) < 3 := by omega
        have HX3 := Lib.hid (HL.out 0 maxI (0, b3) wr (HTJ.out.trans ht) HR.out)
        have HS5 : Hid (res = ((limO l 0 maxI (0, b3)).bind fun x => slotTail l acc2 (parts ++ [Lib.itoa x.1]) (3 - (q + 1)) x.2).bind K2) := Lib.hid (by rw [HS.out, show 3 - q = (3 - (q + 1)) + 1 by omega]; rfl)
        clear HS
        cases hs : limO l 0 maxI (0, b3) with
        | none =>
         have HS9 : Hid (res = none) := Lib.hid (by rw [HS5.out, hs]; rfl)
         rw [hs] at HX3
         go_wp2_with fail
         refine HX3.out.mono ?_
         rintro r w9 ⟨ht9, rfl⟩
         unfold unread
         go_wp2_with fail
         rw [HS9.out]
         exact ⟨rfl, (HTJ.out.trans ht).trans ht9, rfl⟩
        | some s =>
        obtain ⟨s, b4⟩ := s
        obtain ⟨-, -, -, s0, s1, -⟩ := limO_some hs
        simp only at s0 s1
        have HSB := Lib.hid (And.intro s0 s1)
        rw [hs] at HX3
        have HS6 : Hid (res = (slotTail l acc2 (parts ++ [Lib.itoa s]) (3 - (q + 1)) b4).bind K2) := Lib.hid (by rw [HS5.out, hs]; rfl)
        clear HS5 hs s0 s1
        go_wp2_with fail
        refine HX3.out.mono ?_
        rintro r w7 ⟨ht7, rfl, hR7⟩
        dsimp only at hR7 ⊢
        have HR7 := Lib.hid hR7
        have hwj := HTJ.out.size
        have HOP7 := Lib.hid (HOP.out.touch ht7 (HFP.out _ (fun g hg => Nat.le_trans hwj (HFP2.out g hg))))
        replace ht7 := ht.trans ht7
        clear hR7 HX3 HOP HR ht
        go_wp2_with fail
        refine (itoa_any s w7 (by have := HSB.out; omega) HSB.out.2 (HN.out w7 (HTJ.out.trans ht7)).tab).mono ?_
        rintro r w8 ⟨rfl, ht8⟩
        have HR8 := Lib.hid (HR7.out.touch ht8 (by simp) (fun _ _ => by simp))
        have HOP8 := Lib.hid (HOP7.out.touch0 ht8)
        replace ht8 := ht7.then0 ht8
        have hxl := itoa_le s HSB.out.1 HSB.out.2
        have hpl3 : parts.length ≤ 3 := by have := HPL.out; omega
        clear HR7 HOP7 ht7
        generalize Lib.itoa s = xs at *
        go_wp2_with (at_builtin; go_must (refine app_new elem_str HOP8.out [.string ⟨xs.toArray⟩] 1 1 (by omega) (by unfold maxLen; omega) ?_); intro v9 w9 ho9 ht9 hf9; obtain ⟨A9, cap9, rfl⟩ := Own.form ho9)
        go_roundw
        case rel =>
         have hpb : ∀ b ∈ blk (Value.slice Ap parts.length capp), p ≠ b := fun b hb e => by have := HFP2.out b hb; omega
         refine ⟨q + 1, parts ++ [xs], b4, by omega, by go_num, by have := HPL.out; simp; omega, fun y hy => ?_, OwnS.snoc ho9, fun g hg => ?_, HR8.out.touch ht9 (fun hm => hpb _ hm rfl) (fun b hb hm => by have h1 := HIN.out b hb; have h2 := HFP2.out b hm; omega), ht8.step ht9 (fun b hb => .inr (HFP2.out b hb)), HS6⟩
         ·rcases List.mem_append.1 hy with h | h
          ·exact HPE.out y h
          ·rw [List.mem_singleton] at h; rw [h]; exact hxl
         ·rcases hf9 g hg with h | h
          ·exact HFP2.out g h
          ·exact Nat.le_trans ht8.size h
        case measure => simp [intOf]; omega
       ·have hlt3' : ¬ (q : Int) < 3 := by omega
        obtain rfl : q = 3 := by omega
        have HS5 : Hid (res = (slotTail l acc2 parts 0 b3).bind K2) := HS
        have HST := Lib.hid (rd_string p inp l (0, b3) 65536 wr HR.out)
        have HTW := Lib.hid (HTJ.out.trans ht)
        clear HS hlt3 hq
        cases hp : pPart l 65536 b3 with
        | error k =>
         have hk := pPart_err hp
         have e1 : rRead [] (pPart l 65536) (0, b3) = ([], (k, b3)) := by unfold rRead; simp only [if_true]; rw [hp]
         have HS9 : Hid (res = none) := Lib.hid (by rw [HS5.out]; unfold slotTail; rw [hp]; rfl)
         rw [e1] at HST
         have hkb : (k == 0) = false := by simpa using hk
         clear hp hk e1
         go_wp2_with fail
         refine HST.out.mono ?_
         rintro r w7 ⟨rfl, hR7, ht7⟩
         dsimp only at hR7 ⊢
         have HR7 := Lib.hid hR7
         clear hR7
         go_wp2_with fail
         refine (qParse_any [] w7 mx (by simp) (HMX.out w7 (HTW.out.trans ht7))).mono ?_
         rintro r w8 ⟨n1, A1, k1, c1, n2, A8, k2, c2, e, rfl, -, ht8⟩
         dsimp only
         go_wp2_with fail
         have HTN := (Touch.refl [] w8).alloc (.cells #[.bool n1, .slice A1 k1 c1, .bool n2, .slice A8 k2 c2] 34)
         have HR9 := (HR7.out.touch ht8 (by simp) (fun _ _ => by simp)).touch HTN (by simp) (fun _ _ => by simp)
         refine (rd_err p inp l k b3 _ HR9).mono ?_
         rintro r w9 ⟨rfl, rfl⟩
         go_wp2_with fail
         refine (must_false _).mono ?_
         rintro r w10 ⟨rfl, rfl⟩
         unfold unread
         go_wp2_with fail
         rw [HS9.out]
         exact ⟨rfl, ((HTW.out.trans ht7).then0 ht8).then0 HTN, rfl⟩
        | ok x =>
         obtain ⟨y, b5⟩ := x
         have hyl := pPart_len hp
         have e1 : rRead [] (pPart l 65536) (0, b3) = (y, (0, b5)) := by unfold rRead; simp only [if_true]; rw [hp]
         have HS6 : Hid (res = (if ratOK y = true then some (acc2 ++ [Lib.join (parts ++ [y]) [32]], b5) else none).bind K2) := Lib.hid (by rw [HS5.out]; unfold slotTail; rw [hp])
         rw [e1] at HST
         have HQP := Lib.hid (fun W (t : Touch [p] w W) => qParse_any y W mx (by omega) (HMX.out W t))
         have hy1 : y.length ≤ 65536 := by omega
         clear hp e1 HS5 hyl
         go_wp2_with fail
         refine HST.out.mono ?_
         rintro r w7 ⟨rfl, hR7, ht7⟩
         dsimp only at hR7 ⊢
         have HR7 := Lib.hid hR7
         have hwj := HTJ.out.size
         have HOP7 := Lib.hid (HOP.out.touch ht7 (HFP.out _ (fun g hg => Nat.le_trans hwj (HFP2.out g hg))))
         have HO7 := Lib.hid ((HO.out.touch ht (HFP.out _ HF.out)).touch ht7 (HFP.out _ HF.out))
         have ht77 := HTW.out.trans ht7
         clear hR7 HOP HR
         go_wp2_with fail
         refine (HQP.out w7 ht77).mono ?_
         rintro r w8 ⟨n1, A1, k1, c1, n2, A8, k2, c2, e, rfl, hiff, ht8⟩
         dsimp only
         have HTN := (Touch.refl [] w8).alloc (.cells #[.bool n1, .slice A1 k1 c1, .bool n2, .slice A8 k2 c2] 34)
         have HR9 := Lib.hid ((HR7.out.touch ht8 (by simp) (fun _ _ => by simp)).touch HTN (by simp) (fun _ _ => by simp))
         have HOP9 := Lib.hid ((HOP7.out.touch0 ht8).touch0 HTN)
         have HO9 := Lib.hid ((HO7.out.touch0 ht8).touch0 HTN)
         have ht99 := (ht77.then0 ht8).then0 HTN
         clear HR7 HOP7 HO7 ht77 ht7 HTN ht8
         by_cases hok : ratOK y = true
         ·have he0 : e = 0 := hiff.2 hok
          subst he0
          have HS7 : Hid (res = K2 (acc2 ++ [Lib.join (parts ++ [y]) [32]], b5)) := Lib.hid (by rw [HS6.out, if_pos hok]; rfl)
          have HJ := Lib.hid (parts_le HPE.out HPL.out hy1)
          clear hiff hok HS6
          go_wp2_with fail
          generalize (w8.alloc (.cells #[.bool n1, .slice A1 k1 c1, .bool n2, .slice A8 k2 c2] 34)) = w9 at *
          refine (rd_err p inp l 0 b5 _ HR9.out).mono ?_
          rintro r w10 ⟨rfl, rfl⟩
          go_wp2_with fail
          refine (must_true _).mono ?_
          rintro r w11 ⟨rfl, rfl⟩
          have hpl3 : parts.length ≤ 3 := by have := HPL.out; omega
          go_wp2_with (at_builtin; go_must (refine app_new elem_str HOP9.out [.string ⟨y.toArray⟩] 1 1 (by omega) (by unfold maxLen; omega) ?_); intro v12 w12 ho12 ht12 hf12; obtain ⟨A12, cap12, rfl⟩ := Own.form ho12)
          have hoc : OwnS w12 (.slice A12 (parts.length + 1) cap12) (parts ++ [y]) := OwnS.snoc ho12
          obtain ⟨bk, off, rfl, hbk, hcell, hcapl⟩ := hoc.lies (by simp) (by simp)
          have hW := words_any bk off cap12 (parts ++ [y]) w12 hcell hbk (by simp; omega) hcapl HJ.out
          rw [show (parts ++ [y]).length = parts.length + 1 by simp] at hW
          have HW := Lib.hid hW
          have haj : ∀ b ∈ blk (Value.slice Aj acc2.length capj), b ∉ blk (Value.slice Ap parts.length capp) := fun b hb hm => by
           have h1 := HO.out.lt b hb
           have h2 := HFP2.out b hm
           omega
          have hpb : ∀ b ∈ blk (Value.slice Ap parts.length capp), p ≠ b := fun b hb e => by have := HFP2.out b hb; omega
          have HO12 := Lib.hid (HO9.out.touch ht12 haj)
          have HR12 := Lib.hid (HR9.out.touch ht12 (fun hm => hpb _ hm rfl) (fun b hb hm => by have h1 := HIN.out b hb; have h2 := HFP2.out b hm; omega))
          replace ht99 := ht99.step ht12 (fun b hb => .inr (Nat.le_trans hwj (HFP2.out b hb)))
          clear HO9 HR9 ht12 hf12 ho12 hoc hcell hW haj hpb HOP9
          refine HW.out.mono ?_
          rintro r w13 ⟨rfl, ht13⟩
          have HO13 := Lib.hid (HO12.out.touch0 ht13)
          have HR13 := Lib.hid (HR12.out.touch ht13 (by simp) (fun _ _ => by simp))
          replace ht99 := ht99.then0 ht13
          have hacc : acc2.length ≤ 500 := by have := HAL.out; omega
          clear HO12 HR12 ht13 HW HJ
          generalize Lib.join (parts ++ [y]) [32] = ln at *
          go_wp2_with (at_builtin; go_must (refine app_new elem_str HO13.out [.string ⟨ln.toArray⟩] 1 1 (by omega) (by unfold maxLen; omega) ?_); intro v14 w14 ho14 ht14 hf14; obtain ⟨A14, cap14, rfl⟩ := Own.form ho14)
          go_roundw
          case rel =>
           have hpb : ∀ b ∈ blk (Value.slice Aj acc2.length capj), p ≠ b := fun b hb e => by have := HF.out b hb; omega
           refine ⟨j + 1, acc2 ++ [ln], b5, by omega, by go_num, by have := HAL.out; simp; omega, OwnS.snoc ho14, fun g hg => ?_, HR13.out.touch ht14 (fun hm => hpb _ hm rfl) (fun b hb hm => by have h1 := HIN.out b hb; have h2 := HF.out b hm; omega), ht99.step ht14 (fun b hb => .inr (HF.out b hb)), Lib.hid (by rw [HS7.out, ← HK2.out])⟩
           rcases hf14 g hg with h | h
           ·exact HF.out g h
           ·exact Nat.le_trans ht99.size h
          case measure => simp [intOf]; omega
         ·have heb : (e == 0) = false := by
           rw [beq_eq_false_iff_ne]
           exact fun h => hok (hiff.1 h)
          have HS9 : Hid (res = none) := Lib.hid (by rw [HS6.out, if_neg hok]; rfl)
          clear hiff hok HS6
          go_wp2_with fail
          refine (rd_err p inp l 0 b5 _ HR9.out).mono ?_
          rintro r w10 ⟨rfl, rfl⟩
          go_wp2_with fail
          refine (must_false _).mono ?_
          rintro r w11 ⟨rfl, rfl⟩
          unfold unread
          go_wp2_with fail
          rw [HS9.out]
          exact ⟨rfl, ht99, rfl⟩
     ·have hlt2' : ¬ (j : Int) < (M : Int) := by omega
      obtain rfl : j = M := by omega
      have HS4 : Hid (res = K (acc2, b2)) := Lib.hid (by rw [HS.out, Nat.sub_self]; rfl)
      clear HS
      go_wp2_with fail
      go_roundw
      case rel =>
       refine ⟨i + 1, acc2, b2, by omega, by go_num, by have := HAL.out; omega, HO.out, HF.out, HR.out, HTJ.out, Lib.hid (by rw [HS4.out, ← HK.out])⟩
      case measure => simp [intOf]; omega
   ·have hlt' : ¬ (i : Int) < (N : Int) := by omega
    have HS2 : Hid (res = some (acc, a2)) := Lib.hid (by rw [HS.out, show N - i = 0 by omega]; rfl)
    clear HS
    go_wp2_with fail
    go_ret
    rw [HS2.out]
    exact ⟨ht, Value.slice A acc.length cap, rfl, HO.out, HF.out, HR.out⟩
end Go.Proofs.YtedpaajpfaoffaaGreatDoor
