/- math/bits.Len32, LeadingZeros32: the shelf's contracts at this dump, as the tool wrote them. -/
import Derived.Shelf.Small.Bits
import Derived.Test.YtedpaajpfaoffaaGreatDoorProg
import Derived.Test.YtedpaajpfaoffaaGreatDoorOd2
import Derived.Test.YtedpaajpfaoffaaGreatDoorNbA
import Derived.Laws.MakeOwn
set_option linter.all false
set_option maxHeartbeats 4000000
set_option maxRecDepth 100000
namespace Go.Proofs
open Go.Shelf
def Tryz.lays128_ren : Go.Shelf.Ren := ⟨fun | 128 => 200 | n => n, fun | 51 => 178 | 3 => 3 | 4 => 4 | 46 => 48 | 5 => 5 | 9 => 9 | n => n, fun | n => n⟩
theorem Tryz.lays128 : Go.Proofs.Lays.n128 Tryz.prog Tryz.lays128_ren := {
 mixed := by kernel_rfl
 f128 := Tryz.func200.trans (congrArg some (by kernel_rfl))
 t3 := Tryz.underlying3
 a3 := Tryz.isAgg3
 z3 := Tryz.sizeOf3
 v3 := Tryz.zeroValue3
 t4 := Tryz.underlying4
 a4 := Tryz.isAgg4
 z4 := Tryz.sizeOf4
 v4 := Tryz.zeroValue4
 t5 := Tryz.underlying5
 a5 := Tryz.isAgg5
 z5 := Tryz.sizeOf5
 v5 := Tryz.zeroValue5
 t9 := Tryz.underlying9
 a9 := Tryz.isAgg9
 z9 := Tryz.sizeOf9
 v9 := Tryz.zeroValue9
 t46 := Tryz.underlying48
 a46 := Tryz.isAgg48
 z46 := Tryz.sizeOf48
 v46 := Tryz.zeroValue48
 t51 := Tryz.underlying178
 a51 := Tryz.isAgg178
 z51 := Tryz.sizeOf178
 v51 := Tryz.zeroValue178 }
theorem Tryz.bits_Len32 (x : Int) (w : World) (h0 : 0 ≤ x) (h1 : x ≤ 4294967295) :
  Calls Tryz.prog 200 #[.int .u32 x] w fun e w' => e = .returned (.int .i64 (Lib.bitLen x.toNat)) ∧ w' = w := Any.bits_Len32 Tryz.lays128 x w h0 h1
def Tryz.lays133_ren : Go.Shelf.Ren := ⟨fun | 133 => 171 | 128 => 200 | n => n, fun | 51 => 178 | 3 => 3 | 4 => 4 | 46 => 48 | 5 => 5 | 9 => 9 | n => n, fun | n => n⟩
theorem Tryz.lays133 : Go.Proofs.Lays.n133 Tryz.prog Tryz.lays133_ren := {
 mixed := by kernel_rfl
 f128 := Tryz.func200.trans (congrArg some (by kernel_rfl))
 f133 := Tryz.func171.trans (congrArg some (by kernel_rfl))
 t3 := Tryz.underlying3
 a3 := Tryz.isAgg3
 z3 := Tryz.sizeOf3
 v3 := Tryz.zeroValue3
 t4 := Tryz.underlying4
 a4 := Tryz.isAgg4
 z4 := Tryz.sizeOf4
 v4 := Tryz.zeroValue4
 t5 := Tryz.underlying5
 a5 := Tryz.isAgg5
 z5 := Tryz.sizeOf5
 v5 := Tryz.zeroValue5
 t9 := Tryz.underlying9
 a9 := Tryz.isAgg9
 z9 := Tryz.sizeOf9
 v9 := Tryz.zeroValue9
 t46 := Tryz.underlying48
 a46 := Tryz.isAgg48
 z46 := Tryz.sizeOf48
 v46 := Tryz.zeroValue48
 t51 := Tryz.underlying178
 a51 := Tryz.isAgg178
 z51 := Tryz.sizeOf178
 v51 := Tryz.zeroValue178 }
theorem Tryz.bits_LeadingZeros32 (x : Int) (w : World) (h0 : 0 ≤ x) (h1 : x ≤ 4294967295) :
  Calls Tryz.prog 171 #[.int .u32 x] w fun e w' => e = .returned (.int .i64 (32 - (Lib.bitLen x.toNat : Int))) ∧ w' = w := Any.bits_LeadingZeros32 Tryz.lays133 x w h0 h1
end Go.Proofs
namespace Go.Proofs.YtedpaajpfaoffaaGreatDoor
open Go.RowKit
def B32 : Nat := 4294967296
theorem B32_le : 2 ≤ B32 := by unfold B32; omega
def W32 (n : Nat) : List Value := [.int .u32 (n : Int)]
abbrev Words := Rows_ 1 W32 (fun n => n < B32)
theorem Words.at_ {w : World} {b off cap : Nat} {xs : List Nat} (h : Words w (.slice (some ⟨b, off, none⟩) xs.length cap) xs) {k : Nat} (hk : k < xs.length) : w.cell? ⟨b, off + k, none⟩ = some (.int .u32 (xs[k] : Int)) := by
 have := h.cell (fun _ => rfl) hk 0 (by omega) _ rfl
 simpa [W32] using this
theorem Words.below {w : World} {v : Value} {xs : List Nat} (h : Words w v xs) : Below_ B32 xs := h.2
theorem Words.cut {w : World} {A : Option Addr} {cap : Nat} {xs : List Nat} (h : Words w (.slice A xs.length cap) xs) {k : Nat} (hk : k ≤ xs.length) : Words w (.slice A k cap) (xs.take k) := by
 obtain ⟨⟨A', cap', e, h1, h2, h3, h4⟩, hf⟩ := h
 injection e with e1 e2 e3
 subst e1 e3
 have hl : (xs.take k).length = k := by rw [List.length_take]; omega
 have hfl : ∀ l : List Nat, (l.flatMap W32) = l.map (fun n : Nat => Value.int .u32 (n : Int)) := fun l => by
  induction l with
  | nil => rfl
  | cons a l ih => simp [W32, ih]
 refine ⟨⟨A, cap, by rw [hl], by rw [hl]; omega, h2, by rw [hfl]; simp, fun hn => ?_⟩, fun x hx => hf x (List.mem_of_mem_take hx)⟩
 rw [hl] at hn
 obtain ⟨b, off, rfl, hb, hc⟩ := h4 (by omega)
 refine ⟨b, off, rfl, hb, fun j u hu => hc j u ?_⟩
 rw [hfl] at hu ⊢
 rw [List.getElem?_map, List.getElem?_take] at hu
 rw [List.getElem?_map]
 split at hu
 ·exact hu
 ·simp at hu
def TrimRel (_w : World) (A : Option Addr) (cap : Nat) (xs : List Nat) (tv : Value) : Prop := ∃ k : Nat, k ≤ xs.length ∧ tv = .slice A k cap ∧ nv B32 (xs.take k) = nv B32 xs
def WPost (N : Nat) (w : World) (r : Ending) (w' : World) : Prop := ∃ v, r = .returned v ∧ Words w' v (wordsOf B32 N) ∧ Touch [] w w'
theorem trim_any (v : Value) (xs : List Nat) (w : World) (hv : Words w v xs) : Calls Tryz.prog 128 #[v] w fun r w' => ∃ v', r = .returned v' ∧ Words w v' (wordsOf B32 (nv B32 xs)) ∧ (∀ g ∈ rb v', g ∈ rb v) ∧ w = w' := by
 obtain ⟨A, cap, rfl⟩ := hv.form
 obtain ⟨hc1, hc2⟩ := hv.cap
 have HF := Lib.hid (fun (v' : Value) (k : Nat) (e : v' = .slice A k cap) (hk : k ≤ xs.length) (hn : nv B32 (xs.take k) = nv B32 xs) (hc : Canon (xs.take k)) => (⟨by
  subst e
  rw [← trim_words B32_le hv.below hn hc]
  exact hv.cut hk, by
  subst e
  intro g hg
  cases A with
  | none => cases k <;> simp [rb] at hg
  | some a =>
   cases k with
   | zero => simp [rb] at hg
   | succ k =>
    obtain ⟨m, hm⟩ : ∃ m, xs.length = m + 1 := ⟨xs.length - 1, by omega⟩
    rw [hm]
    simpa [rb] using hg⟩ : Words w v' (wordsOf B32 (nv B32 xs)) ∧ (∀ g ∈ rb v', g ∈ rb (.slice A xs.length cap))))
 have hst : TrimRel w A cap xs (.slice A xs.length cap) := ⟨xs.length, Nat.le_refl _, rfl, by rw [List.take_length]⟩
 go_enter Tryz.func128, Tryz.ntmps128
 go_wp2_with fail
 go_loop [0] (fun tv => TrimRel w A cap xs tv) (fun tv => match tv with | .slice _ k _ => k | _ => 0)
 case atStart => exact hst
 case round =>
  clear hst
  obtain ⟨k, hk, rfl, hn⟩ := hrel
  have HN := Lib.hid hn
  clear hn
  rcases Nat.eq_zero_or_pos k with h0 | h0
  ·subst h0
   have hcan : Canon (xs.take 0) := fun h => absurd rfl h
   have HC := Lib.hid hcan
   clear hcan
   go_wp2_with fail
   go_ret
   obtain ⟨f1, f2⟩ := HF.out _ 0 rfl (by omega) HN.out HC.out
   exact ⟨_, rfl, f1, f2, rfl⟩
  obtain ⟨m, rfl⟩ : ∃ m, k = m + 1 := ⟨k - 1, by omega⟩
  have hm : m < xs.length := by omega
  obtain ⟨b, off, rfl, hb⟩ := hv.addr hm
  have c0 := Words.at_ hv hm
  have HZ := Lib.hid (fun h => trim_step (B := B32) hm h)
  have HK := Lib.hid (fun h => canon_take hm h)
  generalize xs[m] = x at *
  by_cases hx : x = 0
  ·have HN2 := Lib.hid ((HZ.out hx).symm.trans HN.out)
   subst hx
   clear HK HZ hv
   go_wp2_with fail
   go_round
   case rel => exact ⟨m, by omega, by simp, HN2.out⟩
   case measure => simp
  ·have hx1 : ((x : Int) == 0) = false := by simp; omega
   have HC := Lib.hid (HK.out hx)
   clear HK HZ hx hv
   go_wp2_with fail
   go_ret
   obtain ⟨f1, f2⟩ := HF.out _ (m + 1) rfl hk HN.out HC.out
   exact ⟨_, rfl, f1, f2, rfl⟩
end Go.Proofs.YtedpaajpfaoffaaGreatDoor
namespace Go.Proofs.YtedpaajpfaoffaaGreatDoor
open Go.RowKit
def cmpI (a b : Nat) : Int := if a < b then -1 else if b < a then 1 else 0
theorem cmp_lt {a b : Nat} (h : a < b) : cmpI a b = -1 := by unfold cmpI; rw [if_pos h]
theorem cmp_gt {a b : Nat} (h : b < a) : cmpI a b = 1 := by unfold cmpI; rw [if_neg (by omega), if_pos h]
theorem cmp_eq {a b : Nat} (h : a = b) : cmpI a b = 0 := by unfold cmpI; rw [if_neg (by omega), if_neg (by omega)]
def CmpRel (w : World) (xs ys : List Nat) (ti : Value) (wr : World) : Prop := ∃ k : Nat, k ≤ xs.length ∧ ti = .int .i64 ((k : Int) - 1) ∧ xs.drop k = ys.drop k ∧ Touch [] w wr
theorem drop_step {xs ys : List Nat} {k : Nat} (hk : k < xs.length) (hk' : k < ys.length) (h : xs.drop (k + 1) = ys.drop (k + 1)) (he : xs[k] = ys[k]) : xs.drop k = ys.drop k := by
 rw [List.drop_eq_getElem_cons hk, List.drop_eq_getElem_cons hk', h, he]
theorem compareNat_w (v u : Value) (xs ys : List Nat) (w : World) (hv : Words w v xs) (hu : Words w u ys) (hx : Canon xs) (hy : Canon ys) : Calls Tryz.prog 127 #[v, u] w fun r w' => r = .returned (.int .i64 (cmpI (nv B32 xs) (nv B32 ys))) ∧ Touch [] w w' := by
 obtain ⟨A, cap, rfl⟩ := hv.form
 obtain ⟨A', cap', rfl⟩ := hu.form
 obtain ⟨hc1, hc2⟩ := hv.cap
 obtain ⟨hc3, hc4⟩ := hu.cap
 have bx := hv.below
 have bY := hu.below
 have HL := Lib.hid (fun h : xs.length < ys.length => cmp_lt (words_len_lt B32_le bx hy bY h))
 have HG := Lib.hid (fun h : ys.length < xs.length => cmp_gt (words_len_lt B32_le bY hx bx h))
 have HLT := Lib.hid (fun (i : Nat) (hl : xs.length = ys.length) (hi : i < xs.length) (hd : xs.drop (i + 1) = ys.drop (i + 1)) (h : xs[i] < ys[i]'(by omega)) => cmp_lt (nv_lt_at (B := B32) hl bx hi hd h))
 have HGT := Lib.hid (fun (i : Nat) (hl : xs.length = ys.length) (hi : i < xs.length) (hd : xs.drop (i + 1) = ys.drop (i + 1)) (h : ys[i]'(by omega) < xs[i]) => cmp_gt (nv_lt_at (B := B32) hl.symm bY (by omega) hd.symm h))
 have HE := Lib.hid (fun (hd : xs.drop 0 = ys.drop 0) => cmp_eq (show nv B32 xs = nv B32 ys by simp only [List.drop_zero] at hd; rw [hd]))
 generalize cmpI (nv B32 xs) (nv B32 ys) = res at *
 clear hx hy bx bY
 by_cases hne : xs.length = ys.length
 case neg =>
  by_cases hlt : xs.length < ys.length
  ·have hlt' : (xs.length : Int) < (ys.length : Int) := by omega
   have hne' : ((xs.length : Int) == (ys.length : Int)) = false := by simp; omega
   have e := HL.out hlt
   subst e
   go_enter Tryz.func127, Tryz.ntmps127
   go_wp2_with fail
   go_ret
   exact ⟨rfl, Touch.refl _ _⟩
  ·have hlt' : ¬ (xs.length : Int) < (ys.length : Int) := by omega
   have hne' : ((xs.length : Int) == (ys.length : Int)) = false := by simp; omega
   have e := HG.out (by omega)
   subst e
   go_enter Tryz.func127, Tryz.ntmps127
   go_wp2_with fail
   go_ret
   exact ⟨rfl, Touch.refl _ _⟩
 case pos =>
  have hst : CmpRel w xs ys (.int .i64 ((xs.length : Int) - 1)) w := ⟨xs.length, Nat.le_refl _, rfl, by rw [List.drop_length, hne, List.drop_length], Touch.refl _ _⟩
  clear HL HG
  have HNE := Lib.hid hne
  rw [hne] at hst ⊢
  have HV := Lib.hid hv
  clear hne hv hc1
  go_enter Tryz.func127, Tryz.ntmps127
  go_wp2_with fail
  go_loopw [5] (fun ti wr => CmpRel w xs ys ti wr) (fun ti _ => (intOf ti + 1).toNat)
  case atStart => exact hst
  case round =>
   clear hst
   obtain ⟨k, hk, rfl, hd, ht⟩ := hrel
   have HD := Lib.hid hd
   clear hd
   rcases Nat.eq_zero_or_pos k with h0 | h0
   ·have h1 : ¬ (0 : Int) ≤ (k : Int) - 1 := by omega
    have e := HE.out (by rw [← h0]; exact HD.out)
    subst e
    go_wp2_with fail
    go_ret
    exact ⟨rfl, ht⟩
   obtain ⟨m, hm⟩ : ∃ m, k = m + 1 := ⟨k - 1, by omega⟩
   subst hm
   have e1 : ((m + 1 : Nat) : Int) - 1 = (m : Int) := by omega
   rw [e1]
   have HX1 := Lib.hid (show m < xs.length by omega)
   have hx2 : m < ys.length := by have := HNE.out; omega
   clear hk
   obtain ⟨b, off, rfl, hb⟩ := HV.out.addr HX1.out
   obtain ⟨b', off', rfl, hb'⟩ := hu.addr hx2
   have c0 := Words.at_ (HV.out.touch0 ht) HX1.out
   have c1 := Words.at_ (hu.touch0 ht) hx2
   have HLT2 := Lib.hid (HLT.out m HNE.out HX1.out HD.out)
   have HGT2 := Lib.hid (HGT.out m HNE.out HX1.out HD.out)
   have HEQ := Lib.hid (drop_step HX1.out hx2 HD.out)
   generalize xs[m] = x at *
   generalize ys[m] = y at *
   clear HLT HGT HE HV hu
   by_cases h1 : x < y
   ·have h1' : (x : Int) < (y : Int) := by omega
    have e := HLT2.out h1
    subst e
    go_wp2_with fail
    go_quiet (fail)
    go_wp2_with fail
    go_ret
    exact ⟨rfl, ht.drewN _⟩
   have h1' : ¬ (x : Int) < (y : Int) := by omega
   by_cases h2 : y < x
   ·have h2' : (y : Int) < (x : Int) := by omega
    have e := HGT2.out h2
    subst e
    go_wp2_with fail
    go_quiet (fail)
    go_wp2_with fail
    go_quiet (fail)
    go_wp2_with fail
    go_ret
    exact ⟨rfl, (ht.drewN _).drewN _⟩
   ·have h2' : ¬ (y : Int) < (x : Int) := by omega
    have HEQ2 := Lib.hid (HEQ.out (by omega))
    go_wp2_with fail
    go_quiet (fail)
    go_wp2_with fail
    go_quiet (fail)
    go_wp2_with fail
    go_roundw
    case rel => exact ⟨m, by have := HX1.out; omega, by go_num, HEQ2.out, ht.drewN _⟩
    case measure => simp [intOf]
theorem compareNat_any (v u : Value) (a b : Nat) (w : World) (hv : Words w v (wordsOf B32 a)) (hu : Words w u (wordsOf B32 b)) : Calls Tryz.prog 127 #[v, u] w fun r w' => r = .returned (.int .i64 (cmpI a b)) ∧ Touch [] w w' := by
 have h := compareNat_w v u _ _ w hv hu (words_canon B32_le a) (words_canon B32_le b)
 rwa [nv_words B32_le, nv_words B32_le] at h
end Go.Proofs.YtedpaajpfaoffaaGreatDoor
namespace Go.Proofs.YtedpaajpfaoffaaGreatDoor
open Go.RowKit
def u32v (n : Nat) : Value := .int .u32 (n : Int)
def WB (w : World) (g : Nat) (xs : List Nat) : Prop := Blk w g 178 (xs.map u32v).toArray
theorem elem_u32 : Elem Tryz.prog 171 178 1 4 := Elem.mk (z := .int .u32 0) Tryz.underlying171 (by kernel_rfl) rfl (by decide)
theorem made_words (m : Nat) : madeCells (Value.int .u32 0).cells m = ((List.replicate m (0 : Nat)).map u32v).toArray := by
 apply Array.ext
 ·simp [madeCells]
 ·intro i h1 h2
  simp [madeCells, Value.cells, u32v]
  rw [Nat.mod_one]
  rfl
theorem zero_u32 : (Tryz.prog.info? 178).bind (fun i => i.zero) = some (.int .u32 0) := by kernel_rfl
theorem make_words (m : Nat) (hm : m ≤ 1099511627776) (W : World) : (Instr.makeSlice 171 (.int .i64 (m : Int)) (.int .i64 (m : Int))).run Tryz.prog W = .ok (.slice (some ⟨W.heap.size, 0, none⟩) m m) (W.alloc (.cells (((List.replicate m (0 : Nat)).map u32v).toArray) 178)) := by
 obtain ⟨ht, i, z, hi, hz, hsz, hby, hzs, hpos⟩ := elem_u32
 have hz2 := zero_u32
 rw [hi] at hz2
 have hz0 : i.zero = some (.int .u32 0) := by simpa using hz2
 have hb : (i.bytes : Int) * (m : Int) ≤ 281474976710656 := by rw [hby]; omega
 have hr := run_make (P := Tryz.prog) W 171 178 i (.int .u32 0) ht hi hz0 .i64 .i64 m m (by omega) (by omega) hb (by omega)
 simp only [Int.toNat_natCast] at hr
 rw [hr, hsz, Nat.mul_one, made_words]
section
variable {w w' : World} {g : Nat} {xs : List Nat} {L : List Nat}
theorem WB.lt (h : WB w g xs) : g < w.heap.size := Blk.lt h
theorem WB.at_ (h : WB w g xs) {k : Nat} (hk : k < xs.length) : w.cell? ⟨g, k, none⟩ = some (.int .u32 (xs[k] : Int)) := by
 have := Blk.cell h k
 rw [this]
 simp [u32v, hk]
theorem WB.frozen (h : WB w g xs) (k : Nat) : w.frozen? ⟨g, k, none⟩ = false := Blk.frozen h k
theorem WB.set (h : WB w g xs) (k v : Nat) : WB (w.setCell ⟨g, k, none⟩ (.int .u32 (v : Int))) g (xs.set k v) := by
 have := Blk.set_ h k (.int .u32 (v : Int))
 unfold WB
 simpa [List.map_set, u32v] using this
theorem WB.new (w : World) (m : Nat) : WB (w.alloc (.cells (((List.replicate m (0 : Nat)).map u32v).toArray) 178)) w.heap.size (List.replicate m 0) := Blk.new _ _ _
theorem WB.drewN (h : WB w g xs) (n : Nat) : WB (w.drewN n) g xs := h
theorem WB.touch (h : WB w g xs) (ht : Touch L w w') (hg : g ∉ L) : WB w' g xs := Blk.touch h ht hg
theorem flat_words (l : List Nat) : (l.flatMap W32) = l.map u32v := by
 induction l with
 | nil => rfl
 | cons a l ih => simp [W32, u32v, ih]
theorem WB.words (h : WB w g xs) (hb : Below_ B32 xs) (hl : xs.length ≤ maxLen) {n : Nat} (hn : n = xs.length) : Words w (.slice (some ⟨g, 0, none⟩) n n) xs := by
 subst hn
 refine ⟨⟨_, _, rfl, Nat.le_refl _, hl, by rw [flat_words]; simp, fun _ => ⟨g, 0, rfl, h.lt, fun j u hu => ?_⟩⟩, hb⟩
 rw [flat_words] at hu
 have := Blk.cell h j
 simp only [Nat.zero_add]
 rw [this]
 simpa using hu
end
def Zero_ (k : Nat) (zs : List Nat) : Prop := ∀ j (h : j < zs.length), k ≤ j → zs[j] = 0
theorem Zero_.set {k v : Nat} {zs : List Nat} (h : Zero_ k zs) : Zero_ (k + 1) (zs.set k v) := by
 intro j hj hkj
 rw [List.getElem_set_ne (by omega)]
 exact h j (by simpa using hj) (by omega)
theorem zero_new (m : Nat) : Zero_ 0 (List.replicate m 0) := fun j h _ => by simp
theorem below_new (m : Nat) : Below_ B32 (List.replicate m 0) := fun x hx => by
 rw [List.eq_of_mem_replicate hx]
 unfold B32
 omega
def SumOf (k : Nat) (xs ys zs : List Nat) (c : Nat) : Prop := nv B32 zs + B32 ^ k * c = nv B32 (xs.take k) + nv B32 (ys.take k) ∧ Below_ B32 zs ∧ Zero_ k zs ∧ c ≤ 1
theorem sum_new (m : Nat) (xs ys : List Nat) : SumOf 0 xs ys (List.replicate m 0) 0 := ⟨by rw [nv_zeros]; simp [nv], below_new m, zero_new m, by omega⟩
theorem wide_step {zs : List Nat} {k c t N M : Nat} (hk : k < zs.length) (hz : Zero_ k zs) (h : nv B32 zs + B32 ^ k * c = N) (ht : B32 ^ k * t = B32 ^ k * c + M) : nv B32 (zs.set k (t % B32)) + B32 ^ (k + 1) * (t / B32) = N + M := by
 have h1 := nv_set (B := B32) (xs := zs) (k := k) (v := t % B32) hk
 rw [hz k hk (Nat.le_refl _)] at h1
 have h2 : B32 ^ k * t = B32 ^ (k + 1) * (t / B32) + B32 ^ k * (t % B32) := by
  conv => lhs; rw [← Nat.div_add_mod t B32]
  rw [Nat.mul_add, Nat.pow_succ, Nat.mul_assoc]
 omega
theorem sum_both {k : Nat} {xs ys zs : List Nat} {c : Nat} (h : SumOf k xs ys zs c) (hz : k < zs.length) (hx : k < xs.length) (hy : k < ys.length) (bx : Below_ B32 xs) (bY : Below_ B32 ys) : SumOf (k + 1) xs ys (zs.set k ((c + xs[k] + ys[k]) % B32)) ((c + xs[k] + ys[k]) / B32) := by
 obtain ⟨h1, h2, h3, h4⟩ := h
 have b1 := bx _ (List.getElem_mem hx)
 have b2 := bY _ (List.getElem_mem hy)
 refine ⟨?_, below_set h2 (Nat.mod_lt _ (by unfold B32; omega)), h3.set, by unfold B32 at *; omega⟩
 rw [nv_take_succ hx, nv_take_succ hy, wide_step hz h3 h1 (M := B32 ^ k * xs[k] + B32 ^ k * ys[k]) (by rw [Nat.mul_add, Nat.mul_add]; omega)]
 omega
theorem sum_one {k : Nat} {xs ys zs : List Nat} {c : Nat} (h : SumOf k xs ys zs c) (hz : k < zs.length) (hx : k < xs.length) (hy : ¬ k < ys.length) (bx : Below_ B32 xs) : SumOf (k + 1) xs ys (zs.set k ((c + xs[k]) % B32)) ((c + xs[k]) / B32) := by
 obtain ⟨h1, h2, h3, h4⟩ := h
 have b1 := bx _ (List.getElem_mem hx)
 refine ⟨?_, below_set h2 (Nat.mod_lt _ (by unfold B32; omega)), h3.set, by unfold B32 at *; omega⟩
 rw [nv_take_succ hx, List.take_of_length_le (show ys.length ≤ k + 1 by omega), wide_step hz h3 h1 (M := B32 ^ k * xs[k]) (by rw [Nat.mul_add])]
 rw [List.take_of_length_le (show ys.length ≤ k by omega)]
 omega
theorem sum_last {xs ys zs : List Nat} {c : Nat} (h : SumOf xs.length xs ys zs c) (hz : zs.length = xs.length + 1) (hy : ys.length ≤ xs.length) : nv B32 (zs.set xs.length c) = nv B32 xs + nv B32 ys ∧ Below_ B32 (zs.set xs.length c) := by
 obtain ⟨h1, h2, h3, h4⟩ := h
 rw [List.take_of_length_le (Nat.le_refl _), List.take_of_length_le hy] at h1
 have h5 := nv_set (B := B32) (xs := zs) (k := xs.length) (v := c) (by omega)
 rw [h3 _ (by omega) (Nat.le_refl _)] at h5
 exact ⟨by omega, below_set h2 (by unfold B32; omega)⟩
end Go.Proofs.YtedpaajpfaoffaaGreatDoor
namespace Go.Proofs.YtedpaajpfaoffaaGreatDoor
open Go.RowKit
def AddRel (w : World) (xs ys : List Nat) (tc ti : Value) (wr : World) : Prop := ∃ (k c : Nat) (zs : List Nat), k ≤ xs.length ∧ ti = .int .i64 k ∧ tc = .int .u64 c ∧ zs.length = xs.length + 1 ∧ WB wr w.heap.size zs ∧ Touch [] w wr ∧ Hid (SumOf k xs ys zs c)
theorem addNat_a (v u : Value) (xs ys : List Nat) (w : World) (hv : Words w v xs) (hu : Words w u ys) (hle0 : ys.length ≤ xs.length) (hxl : xs.length ≤ 1000000) : Calls Tryz.prog 129 #[v, u] w (WPost (nv B32 xs + nv B32 ys) w) := by
 obtain ⟨A, cap, rfl⟩ := hv.form
 obtain ⟨A', cap', rfl⟩ := hu.form
 obtain ⟨hc1, hc2⟩ := hv.cap
 obtain ⟨hc3, hc4⟩ := hu.cap
 have hle : ys.length ≤ xs.length := by omega
 have hle' : ¬ (xs.length : Int) < (ys.length : Int) := by omega
 have hmk : ∀ W : World, (Instr.makeSlice 171 (.int .i64 ((xs.length : Int) + 1)) (.int .i64 ((xs.length : Int) + 1))).run Tryz.prog W = .ok (.slice (some ⟨W.heap.size, 0, none⟩) (xs.length + 1) (xs.length + 1)) (W.alloc (.cells (((List.replicate (xs.length + 1) (0 : Nat)).map u32v).toArray) 178)) := make_words (xs.length + 1) (by omega)
 have hst : AddRel w xs ys (.int .u64 0) (.int .i64 0) (w.alloc (.cells (((List.replicate (xs.length + 1) (0 : Nat)).map u32v).toArray) 178)) := ⟨0, 0, _, by omega, rfl, rfl, by simp, WB.new _ _, (Touch.refl _ _).alloc _, Lib.hid (sum_new _ _ _)⟩
 generalize (((List.replicate (xs.length + 1) (0 : Nat)).map u32v).toArray) = cs at *
 go_enter Tryz.func129, Tryz.ntmps129
 go_wp2_with fail
 go_loopw [6, 21] (fun tc ti wr => AddRel w xs ys tc ti wr) (fun _ ti _ => xs.length - (intOf ti).toNat)
 case atStart => exact hst
 case round =>
  clear hst
  obtain ⟨k, c, zs, hk, rfl, rfl, hzl, hW, ht, HS⟩ := hrel
  by_cases hlt : k < xs.length
  ·have hlt' : (k : Int) < (xs.length : Int) := by omega
   obtain ⟨b, off, rfl, hb⟩ := hv.addr hlt
   have c0 := Words.at_ (hv.touch0 ht) hlt
   have cz := hW.at_ (k := k) (by omega)
   have fz := hW.frozen k
   have bc : c ≤ 1 := HS.out.2.2.2
   have bx := hv.below _ (List.getElem_mem hlt)
   unfold B32 at bx
   by_cases hy : k < ys.length
   ·have hy' : (k : Int) < (ys.length : Int) := by omega
    obtain ⟨b', off', rfl, hb'⟩ := hu.addr hy
    have c1 := Words.at_ (hu.touch0 ht) hy
    have bY := hu.below _ (List.getElem_mem hy)
    unfold B32 at bY
    have HN := Lib.hid (sum_both HS.out (by omega) hlt hy hv.below hu.below)
    have HW := Lib.hid (hW.set k ((c + xs[k] + ys[k]) % B32))
    generalize xs[k] = x at *
    generalize ys[k] = y at *
    generalize zs[k] = z at *
    clear hv hu HS
    go_wp2_with fail
    go_roundw
    case rel =>
     refine ⟨k + 1, (c + x + y) / B32, zs.set k ((c + x + y) % B32), by omega, by go_num, ?_, by simpa using hzl, ?_, ht.setCell (.inr (Nat.le_refl _)) _, HN⟩
     ·unfold B32; simp
     ·have := HW.out
      unfold B32 at this ⊢
      simpa using this
    case measure => simp [intOf]; omega
   ·have hy' : ¬ (k : Int) < (ys.length : Int) := by omega
    have HN := Lib.hid (sum_one HS.out (by omega) hlt hy hv.below)
    have HW := Lib.hid (hW.set k ((c + xs[k]) % B32))
    generalize xs[k] = x at *
    generalize zs[k] = z at *
    clear hv hu HS
    go_wp2_with fail
    go_roundw
    case rel =>
     refine ⟨k + 1, (c + x) / B32, zs.set k ((c + x) % B32), by omega, by go_num, ?_, by simpa using hzl, ?_, ht.setCell (.inr (Nat.le_refl _)) _, HN⟩
     ·unfold B32; simp
     ·have := HW.out
      unfold B32 at this ⊢
      simpa using this
    case measure => simp [intOf]; omega
  ·have hlt' : ¬ (k : Int) < (xs.length : Int) := by omega
   have HK := Lib.hid (show k = xs.length by omega)
   clear hk
   have cz := hW.at_ (k := xs.length) (by omega)
   have fz := hW.frozen xs.length
   have bc : c ≤ 1 := HS.out.2.2.2
   obtain ⟨e1, e2⟩ := sum_last (HK.out ▸ HS.out) hzl hle
   have HT := Lib.hid (trim_any (.slice (some ⟨w.heap.size, 0, none⟩) (xs.length + 1) (xs.length + 1)) (zs.set xs.length c) _ ((hW.set xs.length c).words e2 (by simp [hzl]; unfold maxLen; omega) (by simp [hzl])))
   rw [e1] at HT
   have ht' : Touch [] w (wr.setCell ⟨w.heap.size, xs.length, none⟩ (.int .u32 (c : Int))) := ht.setCell (.inr (Nat.le_refl _)) _
   clear HS HK hv hu e1 e2 hW
   generalize zs[xs.length] = z at *
   clear hzl
   go_wp2_with fail
   refine HT.out.mono ?_
   rintro r w' ⟨v', rfl, hw, hr, rfl⟩
   go_wp2_with fail
   go_ret
   exact ⟨_, rfl, hw, ht'⟩
theorem addNat_b (v u : Value) (xs ys : List Nat) (w : World) (hv : Words w v xs) (hu : Words w u ys) (hle0 : xs.length < ys.length) (hxl : ys.length ≤ 1000000) : Calls Tryz.prog 129 #[v, u] w (WPost (nv B32 ys + nv B32 xs) w) := by
 obtain ⟨A, cap, rfl⟩ := hv.form
 obtain ⟨A', cap', rfl⟩ := hu.form
 obtain ⟨hc1, hc2⟩ := hv.cap
 obtain ⟨hc3, hc4⟩ := hu.cap
 have hle : xs.length ≤ ys.length := by omega
 have hle' : (xs.length : Int) < (ys.length : Int) := by omega
 have hmk : ∀ W : World, (Instr.makeSlice 171 (.int .i64 ((ys.length : Int) + 1)) (.int .i64 ((ys.length : Int) + 1))).run Tryz.prog W = .ok (.slice (some ⟨W.heap.size, 0, none⟩) (ys.length + 1) (ys.length + 1)) (W.alloc (.cells (((List.replicate (ys.length + 1) (0 : Nat)).map u32v).toArray) 178)) := make_words (ys.length + 1) (by omega)
 have hst : AddRel w ys xs (.int .u64 0) (.int .i64 0) (w.alloc (.cells (((List.replicate (ys.length + 1) (0 : Nat)).map u32v).toArray) 178)) := ⟨0, 0, _, by omega, rfl, rfl, by simp, WB.new _ _, (Touch.refl _ _).alloc _, Lib.hid (sum_new _ _ _)⟩
 generalize (((List.replicate (ys.length + 1) (0 : Nat)).map u32v).toArray) = cs at *
 go_enter Tryz.func129, Tryz.ntmps129
 go_wp2_with fail
 go_loopw [6, 21] (fun tc ti wr => AddRel w ys xs tc ti wr) (fun _ ti _ => ys.length - (intOf ti).toNat)
 case atStart => exact hst
 case round =>
  clear hst
  obtain ⟨k, c, zs, hk, rfl, rfl, hzl, hW, ht, HS⟩ := hrel
  by_cases hlt : k < ys.length
  ·have hlt' : (k : Int) < (ys.length : Int) := by omega
   obtain ⟨b, off, rfl, hb⟩ := hu.addr hlt
   have c0 := Words.at_ (hu.touch0 ht) hlt
   have cz := hW.at_ (k := k) (by omega)
   have fz := hW.frozen k
   have bc : c ≤ 1 := HS.out.2.2.2
   have bx := hu.below _ (List.getElem_mem hlt)
   unfold B32 at bx
   by_cases hy : k < xs.length
   ·have hy' : (k : Int) < (xs.length : Int) := by omega
    obtain ⟨b', off', rfl, hb'⟩ := hv.addr hy
    have c1 := Words.at_ (hv.touch0 ht) hy
    have bY := hv.below _ (List.getElem_mem hy)
    unfold B32 at bY
    have HN := Lib.hid (sum_both HS.out (by omega) hlt hy hu.below hv.below)
    have HW := Lib.hid (hW.set k ((c + ys[k] + xs[k]) % B32))
    generalize ys[k] = x at *
    generalize xs[k] = y at *
    generalize zs[k] = z at *
    clear hv hu HS
    go_wp2_with fail
    go_roundw
    case rel =>
     refine ⟨k + 1, (c + x + y) / B32, zs.set k ((c + x + y) % B32), by omega, by go_num, ?_, by simpa using hzl, ?_, ht.setCell (.inr (Nat.le_refl _)) _, HN⟩
     ·unfold B32; simp
     ·have := HW.out
      unfold B32 at this ⊢
      simpa using this
    case measure => simp [intOf]; omega
   ·have hy' : ¬ (k : Int) < (xs.length : Int) := by omega
    have HN := Lib.hid (sum_one HS.out (by omega) hlt hy hu.below)
    have HW := Lib.hid (hW.set k ((c + ys[k]) % B32))
    generalize ys[k] = x at *
    generalize zs[k] = z at *
    clear hv hu HS
    go_wp2_with fail
    go_roundw
    case rel =>
     refine ⟨k + 1, (c + x) / B32, zs.set k ((c + x) % B32), by omega, by go_num, ?_, by simpa using hzl, ?_, ht.setCell (.inr (Nat.le_refl _)) _, HN⟩
     ·unfold B32; simp
     ·have := HW.out
      unfold B32 at this ⊢
      simpa using this
    case measure => simp [intOf]; omega
  ·have hlt' : ¬ (k : Int) < (ys.length : Int) := by omega
   have HK := Lib.hid (show k = ys.length by omega)
   clear hk
   have cz := hW.at_ (k := ys.length) (by omega)
   have fz := hW.frozen ys.length
   have bc : c ≤ 1 := HS.out.2.2.2
   obtain ⟨e1, e2⟩ := sum_last (HK.out ▸ HS.out) hzl hle
   have HT := Lib.hid (trim_any (.slice (some ⟨w.heap.size, 0, none⟩) (ys.length + 1) (ys.length + 1)) (zs.set ys.length c) _ ((hW.set ys.length c).words e2 (by simp [hzl]; unfold maxLen; omega) (by simp [hzl])))
   rw [e1] at HT
   have ht' : Touch [] w (wr.setCell ⟨w.heap.size, ys.length, none⟩ (.int .u32 (c : Int))) := ht.setCell (.inr (Nat.le_refl _)) _
   clear HS HK hv hu e1 e2 hW
   generalize zs[ys.length] = z at *
   clear hzl
   go_wp2_with fail
   refine HT.out.mono ?_
   rintro r w' ⟨v', rfl, hw, hr, rfl⟩
   go_wp2_with fail
   go_ret
   exact ⟨_, rfl, hw, ht'⟩
theorem addNat_any (v u : Value) (a b : Nat) (w : World) (hv : Words w v (wordsOf B32 a)) (hu : Words w u (wordsOf B32 b)) (ha : (wordsOf B32 a).length ≤ 1000000) (hb : (wordsOf B32 b).length ≤ 1000000) : Calls Tryz.prog 129 #[v, u] w (WPost (a + b) w) := by
 rcases Nat.lt_or_ge (wordsOf B32 a).length (wordsOf B32 b).length with h | h
 ·have := addNat_b v u _ _ w hv hu h hb
  rwa [nv_words B32_le, nv_words B32_le, Nat.add_comm] at this
 ·have := addNat_a v u _ _ w hv hu h ha
  rwa [nv_words B32_le, nv_words B32_le] at this
end Go.Proofs.YtedpaajpfaoffaaGreatDoor
namespace Go.Proofs.YtedpaajpfaoffaaGreatDoor
open Go.RowKit
def SubOf (k : Nat) (xs ys zs : List Nat) (c : Nat) : Prop := nv B32 zs + nv B32 (ys.take k) = nv B32 (xs.take k) + B32 ^ k * c ∧ Below_ B32 zs ∧ Zero_ k zs ∧ c ≤ 1
theorem sub_new (m : Nat) (xs ys : List Nat) : SubOf 0 xs ys (List.replicate m 0) 0 := ⟨by rw [nv_zeros]; simp [nv], below_new m, zero_new m, by omega⟩
theorem sub_put {zs : List Nat} {k v : Nat} (hk : k < zs.length) (hz : Zero_ k zs) : nv B32 (zs.set k v) = nv B32 zs + B32 ^ k * v := by
 have h1 := nv_set (B := B32) (xs := zs) (k := k) (v := v) hk
 rw [hz k hk (Nat.le_refl _)] at h1
 omega
theorem sub_both {k : Nat} {xs ys zs : List Nat} {c v c' : Nat} (h : SubOf k xs ys zs c) (hz : k < zs.length) (hx : k < xs.length) (hy : k < ys.length) (hv : v < B32) (hc : c' ≤ 1) (e : v + c + ys[k] = xs[k] + B32 * c') : SubOf (k + 1) xs ys (zs.set k v) c' := by
 obtain ⟨h1, h2, h3, h4⟩ := h
 refine ⟨?_, below_set h2 hv, h3.set, hc⟩
 have e2 : B32 ^ k * (v + c + ys[k]) = B32 ^ k * (xs[k] + B32 * c') := by rw [e]
 rw [Nat.mul_add, Nat.mul_add, Nat.mul_add, ← Nat.mul_assoc (B32 ^ k) B32 c', show B32 ^ k * B32 = B32 ^ (k + 1) from (Nat.pow_succ ..).symm] at e2
 rw [nv_take_succ hx, nv_take_succ hy, sub_put hz h3]
 omega
theorem sub_one {k : Nat} {xs ys zs : List Nat} {c v c' : Nat} (h : SubOf k xs ys zs c) (hz : k < zs.length) (hx : k < xs.length) (hy : ¬ k < ys.length) (hv : v < B32) (hc : c' ≤ 1) (e : v + c = xs[k] + B32 * c') : SubOf (k + 1) xs ys (zs.set k v) c' := by
 obtain ⟨h1, h2, h3, h4⟩ := h
 refine ⟨?_, below_set h2 hv, h3.set, hc⟩
 have e2 : B32 ^ k * (v + c) = B32 ^ k * (xs[k] + B32 * c') := by rw [e]
 rw [Nat.mul_add, Nat.mul_add, ← Nat.mul_assoc (B32 ^ k) B32 c', show B32 ^ k * B32 = B32 ^ (k + 1) from (Nat.pow_succ ..).symm] at e2
 rw [nv_take_succ hx, List.take_of_length_le (show ys.length ≤ k + 1 by omega), sub_put hz h3]
 rw [List.take_of_length_le (show ys.length ≤ k by omega)] at h1
 omega
theorem sub_last {xs ys zs : List Nat} {c : Nat} (h : SubOf xs.length xs ys zs c) (hz : zs.length = xs.length) (hy : ys.length ≤ xs.length) (hle : nv B32 ys ≤ nv B32 xs) : nv B32 zs = nv B32 xs - nv B32 ys ∧ Below_ B32 zs := by
 obtain ⟨h1, h2, h3, h4⟩ := h
 rw [List.take_of_length_le (Nat.le_refl _), List.take_of_length_le hy] at h1
 have h5 := nv_lt h2
 rw [hz] at h5
 have : c = 0 ∨ c = 1 := by omega
 rcases this with rfl | rfl
 ·exact ⟨by omega, h2⟩
 ·omega
theorem u64w (a : Int) : IntKind.u64.wrap a = a % 18446744073709551616 := rfl
theorem borrow_one (x c : Nat) (hx : x < 4294967296) (hc : c ≤ 1) : ∃ v c' : Nat, v < B32 ∧ c' ≤ 1 ∧ v + c = x + B32 * c' ∧ IntKind.u64.wrap ((x : Int) - c) / 9223372036854775808 = (c' : Int) ∧ IntKind.u64.wrap ((x : Int) - c) % 4294967296 = (v : Int) := by
 rw [u64w]
 unfold B32
 rcases Nat.lt_or_ge x c with h | h
 ·exact ⟨x + 4294967296 - c, 1, by omega, by omega, by omega, by omega, by omega⟩
 ·exact ⟨x - c, 0, by omega, by omega, by omega, by omega, by omega⟩
theorem borrow_two (x c y : Nat) (hx : x < 4294967296) (hy : y < 4294967296) (hc : c ≤ 1) : ∃ v c' : Nat, v < B32 ∧ c' ≤ 1 ∧ v + c + y = x + B32 * c' ∧ IntKind.u64.wrap (IntKind.u64.wrap ((x : Int) - c) - y) / 9223372036854775808 = (c' : Int) ∧ IntKind.u64.wrap (IntKind.u64.wrap ((x : Int) - c) - y) % 4294967296 = (v : Int) := by
 rw [u64w, u64w]
 unfold B32
 rcases Nat.lt_or_ge x (c + y) with h | h
 ·exact ⟨x + 4294967296 - c - y, 1, by omega, by omega, by omega, by omega, by omega⟩
 ·exact ⟨x - c - y, 0, by omega, by omega, by omega, by omega, by omega⟩
def SubRel (w : World) (xs ys : List Nat) (tc ti : Value) (wr : World) : Prop := ∃ (k c : Nat) (zs : List Nat), k ≤ xs.length ∧ ti = .int .i64 k ∧ tc = .int .u64 c ∧ zs.length = xs.length ∧ WB wr w.heap.size zs ∧ Touch [] w wr ∧ Hid (SubOf k xs ys zs c)
theorem subNat_w (v u : Value) (xs ys : List Nat) (w : World) (hv : Words w v xs) (hu : Words w u ys) (hle : ys.length ≤ xs.length) (hnv : nv B32 ys ≤ nv B32 xs) (hxl : xs.length ≤ 1000000) : Calls Tryz.prog 130 #[v, u] w (WPost (nv B32 xs - nv B32 ys) w) := by
 obtain ⟨A, cap, rfl⟩ := hv.form
 obtain ⟨A', cap', rfl⟩ := hu.form
 obtain ⟨hc1, hc2⟩ := hv.cap
 obtain ⟨hc3, hc4⟩ := hu.cap
 have HNV := Lib.hid hnv
 clear hnv
 have hmk := make_words xs.length (by omega)
 have hst : SubRel w xs ys (.int .u64 0) (.int .i64 0) (w.alloc (.cells (((List.replicate xs.length (0 : Nat)).map u32v).toArray) 178)) := ⟨0, 0, _, by omega, rfl, rfl, by simp, WB.new _ _, (Touch.refl _ _).alloc _, Lib.hid (sub_new _ _ _)⟩
 generalize (((List.replicate xs.length (0 : Nat)).map u32v).toArray) = cs at *
 go_enter Tryz.func130, Tryz.ntmps130
 go_wp2_with fail
 go_loopw [6, 14] (fun tc ti wr => SubRel w xs ys tc ti wr) (fun _ ti _ => xs.length - (intOf ti).toNat)
 case atStart => exact hst
 case round =>
  clear hst
  obtain ⟨k, c, zs, hk, rfl, rfl, hzl, hW, ht, HS⟩ := hrel
  by_cases hlt : k < xs.length
  ·have hlt' : (k : Int) < (xs.length : Int) := by omega
   obtain ⟨b, off, rfl, hb⟩ := hv.addr hlt
   have c0 := Words.at_ (hv.touch0 ht) hlt
   have cz := hW.at_ (k := k) (by omega)
   have fz := hW.frozen k
   have bc : c ≤ 1 := HS.out.2.2.2
   have bx := hv.below _ (List.getElem_mem hlt)
   unfold B32 at bx
   by_cases hy : k < ys.length
   ·have hy' : (k : Int) < (ys.length : Int) := by omega
    obtain ⟨b', off', rfl, hb'⟩ := hu.addr hy
    have c1 := Words.at_ (hu.touch0 ht) hy
    have bY := hu.below _ (List.getElem_mem hy)
    unfold B32 at bY
    have HN := Lib.hid (fun v c' h1 h2 e => sub_both (v := v) (c' := c') HS.out (by omega) hlt hy h1 h2 e)
    have HW := Lib.hid (fun v => hW.set k v)
    generalize xs[k] = x at *
    generalize ys[k] = y at *
    generalize zs[k] = z at *
    clear hv hu HS
    go_wp2_with fail
    obtain ⟨v, c', h1, h2, h3, h4, h5⟩ := borrow_two x c y bx bY bc
    go_roundw
    case rel =>
     refine ⟨k + 1, c', zs.set k v, by omega, by go_num, by rw [h4], by simpa using hzl, ?_, ht.setCell (.inr (Nat.le_refl _)) _, Lib.hid (HN.out v c' h1 h2 h3)⟩
     rw [h5]
     exact HW.out v
    case measure => simp [intOf]; omega
   ·have hy' : ¬ (k : Int) < (ys.length : Int) := by omega
    have HN := Lib.hid (fun v c' h1 h2 e => sub_one (v := v) (c' := c') HS.out (by omega) hlt hy h1 h2 e)
    have HW := Lib.hid (fun v => hW.set k v)
    generalize xs[k] = x at *
    generalize zs[k] = z at *
    clear hv hu HS
    go_wp2_with fail
    obtain ⟨v, c', h1, h2, h3, h4, h5⟩ := borrow_one x c bx bc
    go_roundw
    case rel =>
     refine ⟨k + 1, c', zs.set k v, by omega, by go_num, by rw [h4], by simpa using hzl, ?_, ht.setCell (.inr (Nat.le_refl _)) _, Lib.hid (HN.out v c' h1 h2 h3)⟩
     rw [h5]
     exact HW.out v
    case measure => simp [intOf]; omega
  ·have hlt' : ¬ (k : Int) < (xs.length : Int) := by omega
   have HK := Lib.hid (show k = xs.length by omega)
   clear hk
   obtain ⟨e1, e2⟩ := sub_last (HK.out ▸ HS.out) hzl hle HNV.out
   have HT := Lib.hid (trim_any (.slice (some ⟨w.heap.size, 0, none⟩) xs.length xs.length) zs _ (hW.words e2 (by rw [hzl]; unfold maxLen; omega) hzl.symm))
   rw [e1] at HT
   clear HS HK hv hu e1 e2 hW hzl
   go_wp2_with fail
   refine HT.out.mono ?_
   rintro r w' ⟨v', rfl, hw, hr, rfl⟩
   go_wp2_with fail
   go_ret
   exact ⟨_, rfl, hw, ht⟩
theorem words_le (a b : Nat) (h : b ≤ a) : (wordsOf B32 b).length ≤ (wordsOf B32 a).length := by
 rcases Nat.lt_or_ge (wordsOf B32 a).length (wordsOf B32 b).length with h1 | h1
 ·have := words_len_lt B32_le (words_below B32_le a) (words_canon B32_le b) (words_below B32_le b) h1
  rw [nv_words B32_le, nv_words B32_le] at this
  omega
 ·exact h1
theorem subNat_any (v u : Value) (a b : Nat) (w : World) (hv : Words w v (wordsOf B32 a)) (hu : Words w u (wordsOf B32 b)) (hab : b ≤ a) (ha : (wordsOf B32 a).length ≤ 1000000) : Calls Tryz.prog 130 #[v, u] w (WPost (a - b) w) := by
 have := subNat_w v u _ _ w hv hu (words_le a b hab) (by rw [nv_words B32_le, nv_words B32_le]; exact hab) ha
 rwa [nv_words B32_le, nv_words B32_le] at this
end Go.Proofs.YtedpaajpfaoffaaGreatDoor
namespace Go.Proofs.YtedpaajpfaoffaaGreatDoor
open Go.RowKit
theorem Zero_.set_lt {k i v : Nat} {zs : List Nat} (h : Zero_ k zs) (hi : i < k) : Zero_ k (zs.set i v) := by
 intro j hj hkj
 rw [List.getElem_set_ne (by omega)]
 exact h j (by simpa using hj) hkj
def MulOf (i : Nat) (xs ys zs : List Nat) : Prop := nv B32 zs = nv B32 (xs.take i) * nv B32 ys ∧ Below_ B32 zs ∧ Zero_ (i + ys.length) zs
def RowOf (i j a : Nat) (xs ys zs : List Nat) (c : Nat) : Prop := nv B32 zs + B32 ^ (i + j) * c = nv B32 (xs.take i) * nv B32 ys + B32 ^ i * (a * nv B32 (ys.take j)) ∧ Below_ B32 zs ∧ Zero_ (i + ys.length) zs ∧ c < B32
theorem mul_new (m : Nat) (xs ys : List Nat) : MulOf 0 xs ys (List.replicate m 0) := ⟨by rw [nv_zeros]; simp [nv], below_new m, fun j h _ => by simp⟩
theorem row_new {i a : Nat} {xs ys zs : List Nat} (h : MulOf i xs ys zs) : RowOf i 0 a xs ys zs 0 := ⟨by rw [h.1]; simp [nv], h.2.1, h.2.2, by unfold B32; omega⟩
theorem prod_le {a b : Nat} (ha : a < 4294967296) (hb : b < 4294967296) : a * b ≤ 18446744065119617025 := Nat.le_trans (Nat.mul_le_mul (show a ≤ 4294967295 by omega) (show b ≤ 4294967295 by omega)) (by decide)
theorem row_step {i j a c : Nat} {xs ys zs : List Nat} (h : RowOf i j a xs ys zs c) (hz : i + j < zs.length) (hj : j < ys.length) (ha : a < B32) (bY : Below_ B32 ys) : RowOf i (j + 1) a xs ys (zs.set (i + j) ((c + (a * ys[j] + zs[i + j])) % B32)) ((c + (a * ys[j] + zs[i + j])) / B32) := by
 obtain ⟨h1, h2, h3, h4⟩ := h
 have b1 := bY _ (List.getElem_mem hj)
 have b2 := h2 _ (List.getElem_mem hz)
 have p := prod_le (a := a) (b := ys[j]) (by unfold B32 at ha; omega) (by unfold B32 at b1; omega)
 refine ⟨?_, below_set h2 (Nat.mod_lt _ (by unfold B32; omega)), h3.set_lt (by omega), by unfold B32 at *; omega⟩
 have e1 := nv_set (B := B32) (xs := zs) (k := i + j) (v := (c + (a * ys[j] + zs[i + j])) % B32) hz
 have e2 : B32 ^ (i + j) * (c + (a * ys[j] + zs[i + j])) = B32 ^ (i + (j + 1)) * ((c + (a * ys[j] + zs[i + j])) / B32) + B32 ^ (i + j) * ((c + (a * ys[j] + zs[i + j])) % B32) := by
  generalize c + (a * ys[j] + zs[i + j]) = t
  conv => lhs; rw [← Nat.div_add_mod t B32]
  rw [Nat.mul_add, ← Nat.mul_assoc, ← Nat.pow_succ]
  rfl
 rw [Nat.mul_add, Nat.mul_add] at e2
 have e3 : B32 ^ i * (a * nv B32 (ys.take (j + 1))) = B32 ^ i * (a * nv B32 (ys.take j)) + B32 ^ (i + j) * (a * ys[j]) := by
  rw [nv_take_succ hj, Nat.mul_add, Nat.mul_add, Nat.pow_add]
  congr 1
  rw [Nat.mul_left_comm a, Nat.mul_assoc]
 rw [e3]
 omega
theorem row_last {i c : Nat} {xs ys zs : List Nat} (hi : i < xs.length) (h : RowOf i ys.length xs[i] xs ys zs c) (hz : i + ys.length < zs.length) : MulOf (i + 1) xs ys (zs.set (i + ys.length) c) := by
 obtain ⟨h1, h2, h3, h4⟩ := h
 rw [List.take_of_length_le (Nat.le_refl _)] at h1
 refine ⟨?_, below_set h2 h4, ?_⟩
 ·have e1 := nv_set (B := B32) (xs := zs) (k := i + ys.length) (v := c) hz
  rw [h3 _ hz (Nat.le_refl _)] at e1
  rw [nv_take_succ hi, Nat.add_mul, Nat.mul_assoc]
  omega
 ·have := h3.set (v := c)
  rwa [show i + 1 + ys.length = i + ys.length + 1 by omega]
theorem mul_last {xs ys zs : List Nat} (h : MulOf xs.length xs ys zs) : nv B32 zs = nv B32 xs * nv B32 ys ∧ Below_ B32 zs := by
 obtain ⟨h1, h2, -⟩ := h
 rw [List.take_of_length_le (Nat.le_refl _)] at h1
 exact ⟨h1, h2⟩
def MulRel (w : World) (xs ys : List Nat) (ti : Value) (wr : World) : Prop := ∃ (i : Nat) (zs : List Nat), i ≤ xs.length ∧ ti = .int .i64 i ∧ zs.length = xs.length + ys.length ∧ WB wr w.heap.size zs ∧ Touch [] w wr ∧ Hid (MulOf i xs ys zs)
def RowRel (w : World) (xs ys : List Nat) (i a : Nat) (tc tj : Value) (wr : World) : Prop := ∃ (j c : Nat) (zs : List Nat), j ≤ ys.length ∧ tj = .int .i64 j ∧ tc = .int .u64 c ∧ zs.length = xs.length + ys.length ∧ WB wr w.heap.size zs ∧ Touch [] w wr ∧ Hid (RowOf i j a xs ys zs c)
theorem mulNat_w (v u : Value) (xs ys : List Nat) (w : World) (hv : Words w v xs) (hu : Words w u ys) (hxl : xs.length ≤ 1000000) (hyl : ys.length ≤ 1000000) : Calls Tryz.prog 177 #[v, u] w (WPost (nv B32 xs * nv B32 ys) w) := by
 obtain ⟨A, cap, rfl⟩ := hv.form
 obtain ⟨A', cap', rfl⟩ := hu.form
 obtain ⟨hc1, hc2⟩ := hv.cap
 obtain ⟨hc3, hc4⟩ := hu.cap
 have hmk : ∀ W : World, (Instr.makeSlice 171 (.int .i64 ((xs.length : Int) + (ys.length : Int))) (.int .i64 ((xs.length : Int) + (ys.length : Int)))).run Tryz.prog W = .ok (.slice (some ⟨W.heap.size, 0, none⟩) (xs.length + ys.length) (xs.length + ys.length)) (W.alloc (.cells (((List.replicate (xs.length + ys.length) (0 : Nat)).map u32v).toArray) 178)) := make_words (xs.length + ys.length) (by omega)
 have hst : MulRel w xs ys (.int .i64 0) (w.alloc (.cells (((List.replicate (xs.length + ys.length) (0 : Nat)).map u32v).toArray) 178)) := ⟨0, _, by omega, rfl, by simp, WB.new _ _, (Touch.refl _ _).alloc _, Lib.hid (mul_new _ _ _)⟩
 generalize (((List.replicate (xs.length + ys.length) (0 : Nat)).map u32v).toArray) = cs at *
 go_enter Tryz.func177, Tryz.ntmps177
 go_wp2_with fail
 go_loopw [19] (fun ti wr => MulRel w xs ys ti wr) (fun ti _ => xs.length - (intOf ti).toNat)
 case atStart => exact hst
 case round =>
  clear hst
  obtain ⟨i, zs, hi, rfl, hzl, hW, ht, HS⟩ := hrel
  by_cases hlt : i < xs.length
  ·have hlt' : (i : Int) < (xs.length : Int) := by omega
   obtain ⟨b, off, rfl, hb⟩ := hv.addr hlt
   have c0 := Words.at_ (hv.touch0 ht) hlt
   have bx := hv.below _ (List.getElem_mem hlt)
   unfold B32 at bx
   have HX := Lib.hid (fun (c : Nat) (zs : List Nat) h hz => row_last (c := c) (ys := ys) (zs := zs) hlt h hz)
   generalize xs[i] = x at *
   have hst2 : RowRel w xs ys i x (.int .u64 0) (.int .i64 0) wr := ⟨0, 0, zs, by omega, rfl, rfl, hzl, hW, ht, Lib.hid (row_new HS.out)⟩
   clear hzl hW ht HS hv
   go_wp2_with fail
   go_loopw [8, 26] (fun tc tj wr => RowRel w xs ys i x tc tj wr) (fun _ tj _ => ys.length - (intOf tj).toNat)
   case atStart => exact hst2
   case round =>
    clear hst2
    obtain ⟨j, c, zs, hj, rfl, rfl, hzl, hW, ht, HS⟩ := hrel
    by_cases hlt2 : j < ys.length
    ·have hlt2' : (j : Int) < (ys.length : Int) := by omega
     obtain ⟨b', off', rfl, hb'⟩ := hu.addr hlt2
     have c1 := Words.at_ (hu.touch0 ht) hlt2
     have bY := hu.below _ (List.getElem_mem hlt2)
     unfold B32 at bY
     have hij : i + j < zs.length := by omega
     have cz := hW.at_ hij
     have fz := hW.frozen (i + j)
     have bz := HS.out.2.1 _ (List.getElem_mem hij)
     have bc : c < B32 := HS.out.2.2.2
     unfold B32 at bz bc
     have HN := Lib.hid (row_step HS.out hij hlt2 bx hu.below)
     have HW := Lib.hid (fun v => hW.set (i + j) v)
     generalize ys[j] = y at *
     generalize zs[i + j] = z at *
     have hp := prod_le bx bY
     have hp' : (x : Int) * (y : Int) ≤ 18446744065119617025 := by rw [← Int.natCast_mul]; omega
     have hp0 : 0 ≤ (x : Int) * (y : Int) := Int.mul_nonneg (by omega) (by omega)
     clear hu HS HX
     go_wp2_with fail
     go_roundw
     case rel =>
      refine ⟨j + 1, (c + (x * y + z)) / B32, zs.set (i + j) ((c + (x * y + z)) % B32), by omega, by go_num, ?_, by simpa using hzl, ?_, ht.setCell (.inr (Nat.le_refl _)) _, HN⟩
      ·unfold B32; simp
      ·have := HW.out ((c + (x * y + z)) % B32)
       unfold B32 at this ⊢
       simpa using this
     case measure => simp [intOf]; omega
    ·have hlt2' : ¬ (j : Int) < (ys.length : Int) := by omega
     have HJ := Lib.hid (show j = ys.length by omega)
     clear hj
     have hij : i + ys.length < zs.length := by omega
     have cz := hW.at_ hij
     have fz := hW.frozen (i + ys.length)
     have bc : c < B32 := HS.out.2.2.2
     unfold B32 at bc
     have HN := Lib.hid (HX.out c zs (HJ.out ▸ HS.out) hij)
     have HW := Lib.hid (hW.set (i + ys.length) c)
     generalize zs[i + ys.length] = z at *
     clear hu HS HX HJ
     go_wp2_with fail
     go_roundw
     case rel => exact ⟨i + 1, zs.set (i + ys.length) c, by omega, by go_num, by simpa using hzl, HW.out, ht.setCell (.inr (Nat.le_refl _)) _, HN⟩
     case measure => simp [intOf]; omega
  ·have hlt' : ¬ (i : Int) < (xs.length : Int) := by omega
   have HK := Lib.hid (show i = xs.length by omega)
   clear hi
   obtain ⟨e1, e2⟩ := mul_last (HK.out ▸ HS.out)
   have HT := Lib.hid (trim_any (.slice (some ⟨w.heap.size, 0, none⟩) (xs.length + ys.length) (xs.length + ys.length)) zs _ (hW.words e2 (by rw [hzl]; unfold maxLen; omega) hzl.symm))
   rw [e1] at HT
   clear HS HK hv hu e1 e2 hW hzl
   go_wp2_with fail
   refine HT.out.mono ?_
   rintro r w' ⟨v', rfl, hw, hr, rfl⟩
   go_wp2_with fail
   go_ret
   exact ⟨_, rfl, hw, ht⟩
theorem mulNat_any (v u : Value) (a b : Nat) (w : World) (hv : Words w v (wordsOf B32 a)) (hu : Words w u (wordsOf B32 b)) (ha : (wordsOf B32 a).length ≤ 1000000) (hb : (wordsOf B32 b).length ≤ 1000000) : Calls Tryz.prog 177 #[v, u] w (WPost (a * b) w) := by
 have := mulNat_w v u _ _ w hv hu ha hb
 rwa [nv_words B32_le, nv_words B32_le] at this
end Go.Proofs.YtedpaajpfaoffaaGreatDoor
