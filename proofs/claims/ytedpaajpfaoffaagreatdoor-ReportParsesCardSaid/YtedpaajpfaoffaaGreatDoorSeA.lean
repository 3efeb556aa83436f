/- The document's numbers, base 256: Times. -/
import Derived.Test.YtedpaajpfaoffaaGreatDoorRnB
import Derived.Test.YtedpaajpfaoffaaGreatDoorSb2
import Derived.Test.YtedpaajpfaoffaaGreatDoorRmA
set_option linter.all false
set_option maxHeartbeats 8000000
set_option maxRecDepth 100000
namespace Go.Proofs.YtedpaajpfaoffaaGreatDoor
open Go.RowKit
def MulOf8 (i : Nat) (xs ys zs : List Nat) : Prop := nv 256 zs = nv 256 (xs.take i) * nv 256 ys ∧ Below_ 256 zs ∧ Zero_ (i + ys.length) zs
def RowOf8 (i j a : Nat) (xs ys zs : List Nat) (c : Nat) : Prop := nv 256 zs + 256 ^ (i + j) * c = nv 256 (xs.take i) * nv 256 ys + 256 ^ i * (a * nv 256 (ys.take j)) ∧ Below_ 256 zs ∧ Zero_ (i + ys.length) zs ∧ c < 256
theorem mul_new8 (m : Nat) (xs ys : List Nat) : MulOf8 0 xs ys (List.replicate m 0) := ⟨by rw [nv_zeros]; simp [nv], below8_new m, fun j h _ => by simp⟩
theorem row_new8 {i a : Nat} {xs ys zs : List Nat} (h : MulOf8 i xs ys zs) : RowOf8 i 0 a xs ys zs 0 := ⟨by rw [h.1]; simp [nv], h.2.1, h.2.2, by omega⟩
theorem prod_le8 {a b : Nat} (ha : a < 256) (hb : b < 256) : a * b ≤ 65025 := Nat.le_trans (Nat.mul_le_mul (show a ≤ 255 by omega) (show b ≤ 255 by omega)) (by decide)
theorem row_step8 {i j a c : Nat} {xs ys zs : List Nat} (h : RowOf8 i j a xs ys zs c) (hz : i + j < zs.length) (hj : j < ys.length) (ha : a < 256) (bY : Below_ 256 ys) : RowOf8 i (j + 1) a xs ys (zs.set (i + j) ((c + (a * ys[j] + zs[i + j])) % 256)) ((c + (a * ys[j] + zs[i + j])) / 256) := by
 obtain ⟨h1, h2, h3, h4⟩ := h
 have b1 := bY _ (List.getElem_mem hj)
 have b2 := h2 _ (List.getElem_mem hz)
 have p := prod_le8 (a := a) (b := ys[j]) (by omega) (by omega)
 refine ⟨?_, below_set h2 (Nat.mod_lt _ (by omega)), h3.set_lt (by omega), by omega⟩
 have e1 := nv_set (B := 256) (xs := zs) (k := i + j) (v := (c + (a * ys[j] + zs[i + j])) % 256) hz
 have e2 : 256 ^ (i + j) * (c + (a * ys[j] + zs[i + j])) = 256 ^ (i + (j + 1)) * ((c + (a * ys[j] + zs[i + j])) / 256) + 256 ^ (i + j) * ((c + (a * ys[j] + zs[i + j])) % 256) := by
  generalize c + (a * ys[j] + zs[i + j]) = t
  conv => lhs; rw [← Nat.div_add_mod t 256]
  rw [Nat.mul_add, ← Nat.mul_assoc, ← Nat.pow_succ]
  rfl
 rw [Nat.mul_add, Nat.mul_add] at e2
 have e3 : 256 ^ i * (a * nv 256 (ys.take (j + 1))) = 256 ^ i * (a * nv 256 (ys.take j)) + 256 ^ (i + j) * (a * ys[j]) := by
  rw [nv_take_succ hj, Nat.mul_add, Nat.mul_add, Nat.pow_add]
  congr 1
  rw [Nat.mul_left_comm a, Nat.mul_assoc]
 rw [e3]
 omega
theorem row_last8 {i c : Nat} {xs ys zs : List Nat} (hi : i < xs.length) (h : RowOf8 i ys.length xs[i] xs ys zs c) (hz : i + ys.length < zs.length) : MulOf8 (i + 1) xs ys (zs.set (i + ys.length) c) := by
 obtain ⟨h1, h2, h3, h4⟩ := h
 rw [List.take_of_length_le (Nat.le_refl _)] at h1
 refine ⟨?_, below_set h2 h4, ?_⟩
 ·have e1 := nv_set (B := 256) (xs := zs) (k := i + ys.length) (v := c) hz
  rw [h3 _ hz (Nat.le_refl _)] at e1
  rw [nv_take_succ hi, Nat.add_mul, Nat.mul_assoc]
  omega
 ·have := h3.set (v := c)
  rwa [show i + 1 + ys.length = i + ys.length + 1 by omega]
theorem mul_last8 {xs ys zs : List Nat} (h : MulOf8 xs.length xs ys zs) : nv 256 zs = nv 256 xs * nv 256 ys ∧ Below_ 256 zs := by
 obtain ⟨h1, h2, -⟩ := h
 rw [List.take_of_length_le (Nat.le_refl _)] at h1
 exact ⟨h1, h2⟩
def MulRel8 (w : World) (xs ys : List Nat) (ti : Value) (wr : World) : Prop := ∃ (i : Nat) (zs : List Nat), i ≤ xs.length ∧ ti = .int .i64 i ∧ zs.length = xs.length + ys.length ∧ B8 wr w.heap.size zs ∧ Touch [] w wr ∧ Hid (MulOf8 i xs ys zs)
def RowRel8 (w : World) (xs ys : List Nat) (i a : Nat) (tc tj : Value) (wr : World) : Prop := ∃ (j c : Nat) (zs : List Nat), j ≤ ys.length ∧ tj = .int .i64 j ∧ tc = .int .i64 c ∧ zs.length = xs.length + ys.length ∧ B8 wr w.heap.size zs ∧ Touch [] w wr ∧ Hid (RowOf8 i j a xs ys zs c)
theorem rtimes_w (v u : Value) (xs ys : List Nat) (w : World) (hv : Dgs w v xs) (hu : Dgs w u ys) (hxl : xs.length ≤ 100000) (hyl : ys.length ≤ 100000) : Calls Tryz.prog 186 #[v, u] w (RPost (nv 256 xs * nv 256 ys) w) := by
 obtain ⟨A, cap, rfl⟩ := hv.form
 obtain ⟨A', cap', rfl⟩ := hu.form
 obtain ⟨hc1, hc2⟩ := hv.cap
 obtain ⟨hc3, hc4⟩ := hu.cap
 have hmk : ∀ W : World, (Instr.makeSlice 129 (.int .i64 ((xs.length : Int) + (ys.length : Int))) (.int .i64 ((xs.length : Int) + (ys.length : Int)))).run Tryz.prog W = .ok (.slice (some ⟨W.heap.size, 0, none⟩) (xs.length + ys.length) (xs.length + ys.length)) (W.alloc (.cells (((List.replicate (xs.length + ys.length) (0 : Nat)).map u8v).toArray) 5)) := make_bytes elem_rnat (xs.length + ys.length) (by omega)
 have hst : MulRel8 w xs ys (.int .i64 0) (w.alloc (.cells (((List.replicate (xs.length + ys.length) (0 : Nat)).map u8v).toArray) 5)) := ⟨0, _, by omega, rfl, by simp, B8.new _ _, (Touch.refl _ _).alloc _, Lib.hid (mul_new8 _ _ _)⟩
 generalize (((List.replicate (xs.length + ys.length) (0 : Nat)).map u8v).toArray) = cs at *
 go_enter Tryz.func186, Tryz.ntmps186
 go_wp2_with fail
 go_loopw [6] (fun ti wr => MulRel8 w xs ys ti wr) (fun ti _ => xs.length - (intOf ti).toNat)
 case atStart => exact hst
 case round =>
  clear hst
  obtain ⟨i, zs, hi, rfl, hzl, hW, ht, HS⟩ := hrel
  by_cases hlt : i < xs.length
  ·have hlt' : (i : Int) < (xs.length : Int) := by omega
   obtain ⟨b, off, rfl, hb⟩ := hv.addr hlt
   have bx := hv.below _ (List.getElem_mem hlt)
   have HX := Lib.hid (fun (c : Nat) (zs : List Nat) h hz => row_last8 (c := c) (ys := ys) (zs := zs) hlt h hz)
   have HCX := Lib.hid (fun W (t : Touch [] w W) => Dgs.at_ (hv.touch0 t) hlt)
   generalize xs[i] = x at *
   have hst2 : RowRel8 w xs ys i x (.int .i64 0) (.int .i64 0) wr := ⟨0, 0, zs, by omega, rfl, rfl, hzl, hW, ht, Lib.hid (row_new8 HS.out)⟩
   clear hzl hW ht HS hv
   go_wp2_with fail
   go_loopw [7, 8] (fun tc tj wr => RowRel8 w xs ys i x tc tj wr) (fun _ tj _ => ys.length - (intOf tj).toNat)
   case atStart => exact hst2
   case round =>
    clear hst2
    obtain ⟨j, c, zs, hj, rfl, rfl, hzl, hW, ht, HS⟩ := hrel
    by_cases hlt2 : j < ys.length
    ·have hlt2' : (j : Int) < (ys.length : Int) := by omega
     obtain ⟨b', off', rfl, hb'⟩ := hu.addr hlt2
     have c0 := HCX.out _ ht
     have c1 := Dgs.at_ (hu.touch0 ht) hlt2
     have bY := hu.below _ (List.getElem_mem hlt2)
     have hij : i + j < zs.length := by omega
     have cz := hW.at_ hij
     have fz := hW.frozen (i + j)
     have bz := HS.out.2.1 _ (List.getElem_mem hij)
     have bc : c < 256 := HS.out.2.2.2
     have HN := Lib.hid (row_step8 HS.out hij hlt2 bx hu.below)
     have HW := Lib.hid (fun n v => (hW.drewN n).set (i + j) v)
     generalize ys[j] = y at *
     generalize zs[i + j] = z at *
     have hp := prod_le8 bx bY
     have hp' : (x : Int) * (y : Int) ≤ 65025 := by rw [← Int.natCast_mul]; omega
     have hp0 : 0 ≤ (x : Int) * (y : Int) := Int.mul_nonneg (by omega) (by omega)
     have HP : Hid ((x : Int) * (y : Int) = ((x * y : Nat) : Int)) := Lib.hid (by rw [Int.natCast_mul])
     clear hu HS HX
     go_wp2_with fail
     go_quiet (fail)
     go_wp2_with fail
     have e1 : ((z : Int) + (x : Int) * (y : Int) + (c : Int)) = ((c + (x * y + z) : Nat) : Int) := by rw [HP.out]; omega
     rw [e1]
     refine ⟨⟨j + 1, (c + (x * y + z)) / 256, zs.set (i + j) ((c + (x * y + z)) % 256), by omega, by go_num, by go_num, by simpa using hzl, ?_, (ht.drewN _).setCell (.inr (Nat.le_refl _)) _, HN⟩, by simp [intOf]; omega⟩
     exact HW.out nq ((c + (x * y + z)) % 256)
    ·have hlt2' : ¬ (j : Int) < (ys.length : Int) := by omega
     have HJ := Lib.hid (show j = ys.length by omega)
     clear hj
     have hij : i + ys.length < zs.length := by omega
     have cz := hW.at_ hij
     have fz := hW.frozen (i + ys.length)
     have bc : c < 256 := HS.out.2.2.2
     have HN := Lib.hid (HX.out c zs (HJ.out ▸ HS.out) hij)
     have HW := Lib.hid (hW.set (i + ys.length) c)
     generalize zs[i + ys.length] = z at *
     clear hu HS HX HJ
     go_wp2_with fail
     exact ⟨⟨i + 1, zs.set (i + ys.length) c, by omega, by go_num, by simpa using hzl, HW.out, ht.setCell (.inr (Nat.le_refl _)) _, HN⟩, by simp [intOf]; omega⟩
  ·have hlt' : ¬ (i : Int) < (xs.length : Int) := by omega
   have HK := Lib.hid (show i = xs.length by omega)
   clear hi
   obtain ⟨e1, e2⟩ := mul_last8 (HK.out ▸ HS.out)
   have HT := Lib.hid (rtrim_any (.slice (some ⟨w.heap.size, 0, none⟩) (xs.length + ys.length) (xs.length + ys.length)) zs _ (hW.dgs e2 (by rw [hzl]; unfold maxLen; omega) hzl.symm))
   rw [e1] at HT
   clear HS HK hv hu e1 e2 hW hzl
   go_wp2_with fail
   refine HT.out.mono ?_
   rintro r w' ⟨v', rfl, hw, hr, rfl⟩
   go_wp2_with fail
   go_ret
   refine ⟨_, rfl, hw, ht, fun g hg => ?_⟩
   have h1 := rb_sub _ g (hr g hg)
   have : g = w.heap.size := by simpa [blk] using h1
   omega
theorem rtimes_any (v u : Value) (a b : Nat) (w : World) (hv : Dgs w v (wordsOf 256 a)) (hu : Dgs w u (wordsOf 256 b)) (ha : (wordsOf 256 a).length ≤ 100000) (hb : (wordsOf 256 b).length ≤ 100000) : Calls Tryz.prog 186 #[v, u] w (RPost (a * b) w) := by
 have := rtimes_w v u _ _ w hv hu ha hb
 rwa [nv_words two256, nv_words two256] at this
end Go.Proofs.YtedpaajpfaoffaaGreatDoor
namespace Go.Proofs.YtedpaajpfaoffaaGreatDoor
open Go.RowKit
def formOK (l : List UInt8) : Bool := (formI l).isSome
theorem formOK_of {l : List UInt8} {n : Bool} {N : Nat} (h : formI l = some (n, N)) : formOK l = true := by unfold formOK; rw [h]; rfl
theorem formOK_none {l : List UInt8} (h : formI l = none) : formOK l = false := by unfold formOK; rw [h]; rfl
theorem form_zero : formOK [48] = true := by decide
theorem form_empty {l : List UInt8} (h : unsigned l = []) : formOK l = false := formOK_none (form_none (by rw [h]; rfl))
theorem form_lead {l : List UInt8} {t : List UInt8} (h : unsigned l = 48 :: t) (h2 : l ≠ [48]) : formOK l = false := by
 by_cases ht : t = []
 ·subst ht
  by_cases hm : l.head? = some 45
  ·exact formOK_none (form_minus hm h)
  ·rw [unsigned_other hm] at h
   exact absurd h h2
 ·refine formOK_none (form_none ?_)
  rw [h]
  exact isDec_zero rfl (by cases t with | nil => exact absurd rfl ht | cons x y => simp)
theorem form_digits {l : List UInt8} {c : UInt8} {t : List UInt8} (h : unsigned l = c :: t) (hc : c ≠ 48) (hd : ∀ x ∈ c :: t, 48 ≤ x.toNat ∧ x.toNat ≤ 57) : formOK l = true := by
 have h1 : isDec (unsigned l) = true := by
  rw [h]
  exact isDec_of (by simp) (fun x hx e => by
   have : c = x := by simpa using hx
   exact absurd (this.trans e) hc) hd
 unfold formOK
 rw [form_some h1 (fun h2 => by rw [h] at h2; have := h2.2; injection this with e _; exact hc e)]
 rfl
theorem form_not {l : List UInt8} {i : Nat} (hi : i < (unsigned l).length) (h : ¬ (48 ≤ (unsigned l)[i].toNat ∧ (unsigned l)[i].toNat ≤ 57)) : formOK l = false := formOK_none (form_none (isDec_bad hi h))
theorem form_not2 {l d : List UInt8} (h : unsigned l = d) {k : Nat} {x : UInt8} (hk : d[k]? = some x) (hb : ¬ (48 ≤ x.toNat ∧ x.toNat ≤ 57)) : formOK l = false := by
 subst h
 obtain ⟨hi, rfl⟩ := List.getElem?_eq_some_iff.1 hk
 exact form_not hi hb
theorem rform_any (l : List UInt8) (w : World) (hl : l.length ≤ 65536) : Calls Tryz.prog 151 #[.string ⟨l.toArray⟩] w fun r w' => r = .returned (.bool (formOK l)) ∧ w' = w := by
  by_cases h48 : l = [48]
  · subst h48
    rw [form_zero]
    go_enter Tryz.func151, Tryz.ntmps151
    go_wp2_with fail
    go_ret
    exact ⟨rfl, rfl⟩
  have h48b : (l == [48]) = false := beq_false_of_ne h48
  by_cases hm : l.head? = some 45
  · obtain ⟨d, rfl⟩ : ∃ d, l = 45 :: d := by
      cases l with
      | nil => cases hm
      | cons c t =>
        have : c = 45 := by simpa using hm
        exact ⟨t, by rw [this]⟩
    have hs1 : (ByteArray.mk (45 :: d).toArray).size = d.length + 1 := by simp [ByteArray.size]
    have hx := tx_drop1 45 d
    clear hm
    cases d with
    | nil =>
      have HF := Lib.hid (form_empty (l := [45]) rfl)
      go_enter Tryz.func151, Tryz.ntmps151
      go_wp2_with fail
      go_ret
      exact ⟨by rw [HF.out]; rfl, rfl⟩
    | cons c t =>
      simp only [List.length_cons] at hx hs1
      have hsz : (ByteArray.mk (c :: t).toArray).size = t.length + 1 := by simp [ByteArray.size]
      by_cases hc : c = 48
      · subst hc
        have HF := Lib.hid (form_lead (l := 45 :: 48 :: t) (t := t) rfl h48)
        go_enter Tryz.func151, Tryz.ntmps151
        go_wp2_with fail
        go_ret
        exact ⟨by rw [HF.out]; rfl, rfl⟩
      · have hcb : ((c.toNat : Int) == 48) = false := by
          rw [beq_eq_false_iff_ne]
          exact fun e => hc (UInt8.toNat_inj.1 (by show c.toNat = 48; omega))
        have HDG := Lib.hid (fun hd => form_digits (l := 45 :: c :: t) (c := c) (t := t) rfl hc hd)
        have HNOT := Lib.hid (fun (k : Nat) (x : UInt8) (hk : (c :: t)[k]? = some x) hb => form_not2 (l := 45 :: c :: t) rfl hk hb)
        generalize formOK (45 :: c :: t) = fo at *
        clear hc
        have hie : (c :: t).isEmpty = false := rfl
        have hb0 : ∀ h : 0 < (ByteArray.mk (c :: t).toArray).size, ((((ByteArray.mk (c :: t).toArray)[0]'h).toNat : Int) == 48) = false := fun h => hcb
        have HDL : Hid ((c :: t).length = t.length + 1) := Lib.hid rfl
        skip
        have htl : t.length ≤ 65536 := by simp at hl; omega
        generalize c :: t = d at *
        go_enter Tryz.func151, Tryz.ntmps151
        go_wp2_with fail
        have hb45 : ∀ h : 0 < (ByteArray.mk (45 :: d).toArray).size, ((((ByteArray.mk (45 :: d).toArray)[0]'h).toNat : Int) == 45) = true := fun _ => rfl
        try simp only [hb45]
        go_loopw [3] (fun ti wr => ∃ k : Nat, k ≤ t.length + 1 ∧ ti = .int .i64 k ∧ wr = w ∧ Hid (∀ j, j < k → ∀ x, d[j]? = some x → 48 ≤ x.toNat ∧ x.toNat ≤ 57)) (fun ti _ => t.length + 1 - (intOf ti).toNat)
        case atStart => exact ⟨0, by omega, rfl, rfl, Lib.hid (fun j hj => by omega)⟩
        case round =>
          obtain ⟨k, hk, rfl, rfl, HD⟩ := hrel
          by_cases hlt : k < t.length + 1
          · obtain ⟨x, hx⟩ : ∃ x, d[k]? = some x := ⟨_, List.getElem?_eq_getElem (by rw [HDL.out]; exact hlt)⟩
            have hlt' : (k : Int) < (t.length : Int) + 1 := by omega
            have HG := Lib.hid (tx_getI d k x hx)
            have HB : Hid (¬ (48 ≤ x.toNat ∧ x.toNat ≤ 57) → fo = false) := Lib.hid (fun h => HNOT.out k x hx h)
            have HN : Hid ((48 ≤ x.toNat ∧ x.toNat ≤ 57) → ∀ j, j < k + 1 → ∀ y, d[j]? = some y → 48 ≤ y.toNat ∧ y.toNat ≤ 57) := Lib.hid (fun h j hj y hy => by
              by_cases e : j < k
              · exact HD.out j e y hy
              · obtain rfl : j = k := by omega
                rw [hx] at hy
                injection hy with hy
                rw [← hy]; exact h)
            clear hx HD
            go_wp2_with fail
            all_goals simp only [HG.out] at *
            all_goals first
              | (go_ret
                 refine ⟨?_, rfl⟩
                 rw [HB.out (by omega)]
                 rfl)
              | (go_roundw
                 case rel => exact ⟨k + 1, by omega, by go_num, by trivial, Lib.hid (HN.out (by omega))⟩
                 case measure => simp [intOf]; omega)
          · have hlt' : ¬ (k : Int) < (t.length : Int) + 1 := by omega
            have HK := Lib.hid (show k = d.length by rw [HDL.out]; omega)
            clear hk
            go_wp2_with fail
            go_ret
            refine ⟨?_, rfl⟩
            rw [HDG.out (fun y hy => by
              obtain ⟨j, hj, rfl⟩ := List.getElem_of_mem hy
              exact HD.out j (by rw [HK.out]; exact hj) _ (List.getElem?_eq_getElem hj))]
            rfl
  · have hun := unsigned_other hm
    have hm45 : ∀ c, l.head? = some c → ((c.toNat : Int) == 45) = false := fun c hc => by
      rw [beq_eq_false_iff_ne]
      exact fun e => hm (by rw [hc, show c = 45 from UInt8.toNat_inj.1 (by show c.toNat = 45; omega)])
    clear hm
    cases l with
    | nil =>
      have HF := Lib.hid (form_empty (l := []) rfl)
      go_enter Tryz.func151, Tryz.ntmps151
      go_wp2_with fail
      go_ret
      exact ⟨by rw [HF.out]; rfl, rfl⟩
    | cons c t =>
      have h45 := hm45 c rfl
      have hs1 : (ByteArray.mk (c :: t).toArray).size = t.length + 1 := by simp [ByteArray.size]
      clear hm45
      by_cases hc : c = 48
      · subst hc
        have HF := Lib.hid (form_lead (l := 48 :: t) (t := t) hun h48)
        go_enter Tryz.func151, Tryz.ntmps151
        go_wp2_with fail
        go_ret
        exact ⟨by rw [HF.out]; rfl, rfl⟩
      · have hcb : ((c.toNat : Int) == 48) = false := by
          rw [beq_eq_false_iff_ne]
          exact fun e => hc (UInt8.toNat_inj.1 (by show c.toNat = 48; omega))
        have HDG := Lib.hid (fun hd => form_digits (l := c :: t) (c := c) (t := t) hun hc hd)
        have HNOT := Lib.hid (fun (k : Nat) (x : UInt8) (hk : (c :: t)[k]? = some x) hb => form_not2 (l := c :: t) hun hk hb)
        generalize formOK (c :: t) = fo at *
        clear hc
        have hie : (c :: t).isEmpty = false := rfl
        have hb0 : ∀ h : 0 < (ByteArray.mk (c :: t).toArray).size, ((((ByteArray.mk (c :: t).toArray)[0]'h).toNat : Int) == 48) = false := fun h => hcb
        have HDL : Hid ((c :: t).length = t.length + 1) := Lib.hid rfl
        have hb45 : ∀ h : 0 < (ByteArray.mk (c :: t).toArray).size, ((((ByteArray.mk (c :: t).toArray)[0]'h).toNat : Int) == 45) = false := fun h => h45
        have htl : t.length ≤ 65536 := by simp at hl; omega
        generalize c :: t = d at *
        go_enter Tryz.func151, Tryz.ntmps151
        go_wp2_with fail
        try simp only [hb45, hb0]
        go_loopw [3] (fun ti wr => ∃ k : Nat, k ≤ t.length + 1 ∧ ti = .int .i64 k ∧ wr = w ∧ Hid (∀ j, j < k → ∀ x, d[j]? = some x → 48 ≤ x.toNat ∧ x.toNat ≤ 57)) (fun ti _ => t.length + 1 - (intOf ti).toNat)
        case atStart => exact ⟨0, by omega, rfl, rfl, Lib.hid (fun j hj => by omega)⟩
        case round =>
          obtain ⟨k, hk, rfl, rfl, HD⟩ := hrel
          by_cases hlt : k < t.length + 1
          · obtain ⟨x, hx⟩ : ∃ x, d[k]? = some x := ⟨_, List.getElem?_eq_getElem (by rw [HDL.out]; exact hlt)⟩
            have hlt' : (k : Int) < (t.length : Int) + 1 := by omega
            have HG := Lib.hid (tx_getI d k x hx)
            have HB : Hid (¬ (48 ≤ x.toNat ∧ x.toNat ≤ 57) → fo = false) := Lib.hid (fun h => HNOT.out k x hx h)
            have HN : Hid ((48 ≤ x.toNat ∧ x.toNat ≤ 57) → ∀ j, j < k + 1 → ∀ y, d[j]? = some y → 48 ≤ y.toNat ∧ y.toNat ≤ 57) := Lib.hid (fun h j hj y hy => by
              by_cases e : j < k
              · exact HD.out j e y hy
              · obtain rfl : j = k := by omega
                rw [hx] at hy
                injection hy with hy
                rw [← hy]; exact h)
            clear hx HD
            go_wp2_with fail
            all_goals simp only [HG.out] at *
            all_goals first
              | (go_ret
                 refine ⟨?_, rfl⟩
                 rw [HB.out (by omega)]
                 rfl)
              | (go_roundw
                 case rel => exact ⟨k + 1, by omega, by go_num, by trivial, Lib.hid (HN.out (by omega))⟩
                 case measure => simp [intOf]; omega)
          · have hlt' : ¬ (k : Int) < (t.length : Int) + 1 := by omega
            have HK := Lib.hid (show k = d.length by rw [HDL.out]; omega)
            clear hk
            go_wp2_with fail
            go_ret
            refine ⟨?_, rfl⟩
            rw [HDG.out (fun y hy => by
              obtain ⟨j, hj, rfl⟩ := List.getElem_of_mem hy
              exact HD.out j (by rw [HK.out]; exact hj) _ (List.getElem?_eq_getElem hj))]
            rfl
end Go.Proofs.YtedpaajpfaoffaaGreatDoor
