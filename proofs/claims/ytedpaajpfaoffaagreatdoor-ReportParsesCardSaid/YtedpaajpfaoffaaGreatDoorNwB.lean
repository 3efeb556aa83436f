/- divSmall. -/
import Derived.Test.YtedpaajpfaoffaaGreatDoorNwA
import Derived.Laws.BitsAllLaws
set_option linter.all false
set_option maxHeartbeats 4000000
set_option maxRecDepth 100000
namespace Go.Proofs.YtedpaajpfaoffaaGreatDoor
open Go.RowKit
def QuoOf (k d : Nat) (xs zs : List Nat) (r : Nat) : Prop := nv B32 (xs.drop k) = d * nv B32 (zs.drop k) + r ∧ Below_ B32 zs ∧ r < d
theorem quo_new (m d : Nat) (xs : List Nat) (hd : 0 < d) : QuoOf xs.length d xs (List.replicate m 0) 0 := ⟨by rw [List.drop_length]; simp [nv, nv_zeros], below_new m, hd⟩
theorem quo_step {k d r : Nat} {xs zs : List Nat} (h : QuoOf (k + 1) d xs zs r) (hz : k < zs.length) (hx : k < xs.length) (bx : Below_ B32 xs) : (r * 4294967296 + xs[k]) / d < B32 ∧ QuoOf k d xs (zs.set k ((r * 4294967296 + xs[k]) / d)) ((r * 4294967296 + xs[k]) % d) := by
 obtain ⟨h1, h2, h3⟩ := h
 have b1 := bx _ (List.getElem_mem hx)
 have hq : (r * 4294967296 + xs[k]) / d < B32 := by
  rw [Nat.div_lt_iff_lt_mul (by omega)]
  have : (r + 1) * B32 ≤ d * B32 := Nat.mul_le_mul_right _ h3
  rw [Nat.add_mul] at this
  unfold B32 at *
  omega
 refine ⟨hq, ?_, below_set h2 hq, Nat.mod_lt _ (by omega)⟩
 rw [nv_drop hx, h1, List.drop_eq_getElem_cons (show k < (zs.set k ((r * 4294967296 + xs[k]) / d)).length by simpa using hz)]
 simp only [List.getElem_set_self, List.drop_set_of_lt (Nat.lt_succ_self k), nv]
 have e := Nat.div_add_mod (r * 4294967296 + xs[k]) d
 rw [Nat.mul_add, Nat.mul_add, Nat.mul_left_comm B32 d]
 have e2 : B32 * r = r * 4294967296 := by rw [Nat.mul_comm]; rfl
 rw [e2]
 generalize d * (B32 * nv B32 (List.drop (k + 1) zs)) = M at *
 generalize d * ((r * 4294967296 + xs[k]) / d) = M2 at *
 omega
theorem quo_last {d r : Nat} {xs zs : List Nat} (h : QuoOf 0 d xs zs r) : nv B32 zs = nv B32 xs / d ∧ r = nv B32 xs % d ∧ Below_ B32 zs := by
 obtain ⟨h1, h2, h3⟩ := h
 simp only [List.drop_zero] at h1
 rw [h1]
 exact ⟨by rw [Nat.mul_add_div (by omega), Nat.div_eq_of_lt h3, Nat.add_zero], by rw [Nat.mul_add_mod, Nat.mod_eq_of_lt h3], h2⟩
theorem or_word (r x : Nat) (hr : r < 4294967296) (hx : x < 4294967296) : bits .or .u64 ((r : Int) * 4294967296) (x : Int) = ((r * 4294967296 + x : Nat) : Int) := by
 have h1 := u64_or_nat (r * 4294967296) x (by omega) (by omega)
 have h2 := Nat.two_pow_add_eq_or_of_lt (i := 32) (b := x) (by omega) r
 rw [Nat.mul_comm] at h2
 have h3 : r * 4294967296 + x = r * 4294967296 ||| x := h2
 rw [h3, ← h1]
 rfl
theorem tdiv_nat (a b : Nat) : (a : Int).tdiv (b : Int) = ((a / b : Nat) : Int) := rfl
theorem tmod_nat (a b : Nat) : (a : Int).tmod (b : Int) = ((a % b : Nat) : Int) := rfl
def QuoRel (w : World) (xs : List Nat) (d : Nat) (tr ti : Value) (wr : World) : Prop := ∃ (k r : Nat) (zs : List Nat), k ≤ xs.length ∧ ti = .int .i64 ((k : Int) - 1) ∧ tr = .int .u64 r ∧ zs.length = xs.length ∧ WB wr w.heap.size zs ∧ Touch [] w wr ∧ Hid (QuoOf k d xs zs r)
theorem divSmall_w (v : Value) (xs : List Nat) (d : Nat) (w : World) (hv : Words w v xs) (hd : 0 < d) (hd2 : d < 4294967296) (hxl : xs.length ≤ 1000000) : Calls Tryz.prog 170 #[v, .int .u32 d] w fun r w' => ∃ v', r = .returned (.tuple #[v', .int .u32 ((nv B32 xs % d : Nat) : Int)]) ∧ Words w' v' (wordsOf B32 (nv B32 xs / d)) ∧ Touch [] w w' := by
 obtain ⟨A, cap, rfl⟩ := hv.form
 obtain ⟨hc1, hc2⟩ := hv.cap
 have hmk := make_words xs.length (by omega)
 have hst : QuoRel w xs d (.int .u64 0) (.int .i64 ((xs.length : Int) - 1)) (w.alloc (.cells (((List.replicate xs.length (0 : Nat)).map u32v).toArray) 178)) := ⟨xs.length, 0, _, by omega, rfl, rfl, by simp, WB.new _ _, (Touch.refl _ _).alloc _, Lib.hid (quo_new _ _ _ hd)⟩
 generalize (((List.replicate xs.length (0 : Nat)).map u32v).toArray) = cs at *
 go_enter Tryz.func170, Tryz.ntmps170
 go_wp2_with fail
 go_loopw [7, 8] (fun tr ti wr => QuoRel w xs d tr ti wr) (fun _ ti _ => (intOf ti + 1).toNat)
 case atStart => exact hst
 case round =>
  clear hst
  obtain ⟨k, r, zs, hk, rfl, rfl, hzl, hW, ht, HS⟩ := hrel
  have br := HS.out.2.2
  rcases Nat.eq_zero_or_pos k with h0 | h0
  ·have h1 : ¬ (0 : Int) ≤ (k : Int) - 1 := by omega
   obtain ⟨e1, e3, e2⟩ := quo_last (h0 ▸ HS.out)
   have HT := Lib.hid (trim_any (.slice (some ⟨w.heap.size, 0, none⟩) xs.length xs.length) zs _ (hW.words e2 (by rw [hzl]; unfold maxLen; omega) hzl.symm))
   rw [e1] at HT
   have E3 := Lib.hid e3
   clear HS hv e1 e2 e3 hW hzl
   go_wp2_with fail
   refine HT.out.mono ?_
   rintro r' w' ⟨v', rfl, hw, hr, rfl⟩
   go_wp2_with fail
   go_ret2
   exact ⟨_, by rw [← E3.out]; rfl, hw, ht⟩
  obtain ⟨m, hm⟩ : ∃ m, k = m + 1 := ⟨k - 1, by omega⟩
  subst hm
  have e1 : ((m + 1 : Nat) : Int) - 1 = (m : Int) := by omega
  rw [e1]
  have hx1 : m < xs.length := by omega
  obtain ⟨b, off, rfl, hb⟩ := hv.addr hx1
  have c0 := Words.at_ (hv.touch0 ht) hx1
  have bx := hv.below _ (List.getElem_mem hx1)
  unfold B32 at bx
  have hmz : m < zs.length := by omega
  have cz := hW.at_ hmz
  have fz := hW.frozen m
  have HN := Lib.hid (quo_step HS.out hmz hx1 hv.below)
  have HW := Lib.hid (fun v => hW.set m v)
  generalize xs[m] = x at *
  generalize zs[m] = z at *
  clear hv HS hW
  have hor := or_word r x (by omega) bx
  have bt : r * 4294967296 + x < 18446744073709551616 := by omega
  generalize r * 4294967296 + x = t at *
  have hq := tdiv_nat t d
  have hm := tmod_nat t d
  have bq : t / d < 4294967296 := HN.out.1
  have bm : t % d < 4294967296 := by have := HN.out.2.2.2; omega
  have HN2 := Lib.hid HN.out.2
  generalize t / d = q at *
  generalize t % d = r' at *
  clear HN
  go_wp2_with fail
  go_roundw
  case rel =>
   refine ⟨m, r', zs.set m q, by omega, by go_num, by go_num, by simpa using hzl, ?_, ht.setCell (.inr (Nat.le_refl _)) _, HN2⟩
   exact HW.out q
  case measure => simp [intOf]
theorem divSmall_any (v : Value) (a d : Nat) (w : World) (hv : Words w v (wordsOf B32 a)) (hd : 0 < d) (hd2 : d < 4294967296) (hxl : (wordsOf B32 a).length ≤ 1000000) : Calls Tryz.prog 170 #[v, .int .u32 d] w fun r w' => ∃ v', r = .returned (.tuple #[v', .int .u32 ((a % d : Nat) : Int)]) ∧ Words w' v' (wordsOf B32 (a / d)) ∧ Touch [] w w' := by
 have := divSmall_w v _ d w hv hd hd2 hxl
 rwa [nv_words B32_le] at this
end Go.Proofs.YtedpaajpfaoffaaGreatDoor
namespace Go.Proofs.YtedpaajpfaoffaaGreatDoor
open Go.RowKit
def ShlOf (k s : Nat) (xs zs : List Nat) : Prop := nv B32 zs = 2 ^ s * nv B32 (xs.take k) ∧ Below_ B32 zs ∧ Zero_ (k + 1) zs ∧ (∀ h : k < zs.length, zs[k] < 2 ^ s)
theorem shl_new (m s : Nat) (xs : List Nat) : ShlOf 0 s xs (List.replicate m 0) := ⟨by rw [nv_zeros]; simp [nv], below_new m, fun j h _ => by simp, fun h => by simp; exact Nat.pow_pos (by omega)⟩
theorem shl_step {k s : Nat} {xs zs : List Nat} (hs : s ≤ 32) (h : ShlOf k s xs zs) (hz : k + 1 < zs.length) (hx : k < xs.length) (bx : Below_ B32 xs) :
  zs[k] + xs[k] * 2 ^ s % B32 < B32 ∧ xs[k] * 2 ^ s / B32 < 2 ^ s ∧ ShlOf (k + 1) s xs ((zs.set k (zs[k] + xs[k] * 2 ^ s % B32)).set (k + 1) (xs[k] * 2 ^ s / B32)) := by
 obtain ⟨h1, h2, h3, h4⟩ := h
 have b1 := bx _ (List.getElem_mem hx)
 have b0 := h4 (by omega)
 have hp : 2 ^ s * 2 ^ (32 - s) = B32 := by rw [← Nat.pow_add, show s + (32 - s) = 32 by omega]; rfl
 have hps : 0 < 2 ^ s := Nat.pow_pos (by omega)
 have e0 : xs[k] * 2 ^ s % B32 = 2 ^ s * (xs[k] % 2 ^ (32 - s)) := by rw [← hp, Nat.mul_comm xs[k], Nat.mul_mod_mul_left]
 have q0 : xs[k] * 2 ^ s / B32 < 2 ^ s := by
  rw [Nat.div_lt_iff_lt_mul (by unfold B32; omega), Nat.mul_comm]
  exact Nat.mul_lt_mul_of_pos_left b1 hps
 have r0 : zs[k] + xs[k] * 2 ^ s % B32 < B32 := by
  rw [e0]
  have m0 : xs[k] % 2 ^ (32 - s) + 1 ≤ 2 ^ (32 - s) := Nat.mod_lt _ (Nat.pow_pos (by omega))
  have m1 : 2 ^ s * (xs[k] % 2 ^ (32 - s) + 1) ≤ B32 := by rw [← hp]; exact Nat.mul_le_mul_left _ m0
  rw [Nat.mul_add] at m1
  omega
 have hsB : 2 ^ s ≤ B32 := by rw [← hp]; exact Nat.le_mul_of_pos_right _ (Nat.pow_pos (by omega))
 refine ⟨r0, q0, ?_, below_set (below_set h2 r0) (by omega), ?_, fun h => by simpa using q0⟩
 ·have e1 := nv_set (B := B32) (xs := zs) (k := k) (v := zs[k] + xs[k] * 2 ^ s % B32) (by omega)
  have e2 := nv_set (B := B32) (xs := zs.set k (zs[k] + xs[k] * 2 ^ s % B32)) (k := k + 1) (v := xs[k] * 2 ^ s / B32) (by simpa using hz)
  rw [List.getElem_set_ne (by omega), h3 _ (by omega) (Nat.le_refl _)] at e2
  have e3 : B32 ^ k * (xs[k] * 2 ^ s) = B32 ^ (k + 1) * (xs[k] * 2 ^ s / B32) + B32 ^ k * (xs[k] * 2 ^ s % B32) := by
   generalize xs[k] * 2 ^ s = t
   conv => lhs; rw [← Nat.div_add_mod t B32]
   rw [Nat.mul_add, ← Nat.mul_assoc, ← Nat.pow_succ]
  rw [nv_take_succ hx, Nat.mul_add]
  rw [Nat.mul_add] at e1
  have e4 : 2 ^ s * (B32 ^ k * xs[k]) = B32 ^ k * (xs[k] * 2 ^ s) := by rw [Nat.mul_comm, Nat.mul_assoc]
  rw [e4]
  omega
 ·intro j hj hkj
  rw [List.getElem_set_ne (by omega), List.getElem_set_ne (by omega)]
  exact h3 j (by simpa using hj) (by omega)
theorem or_low (z m s : Nat) (hz : z < 2 ^ s) (hz2 : z < 4294967296) (hm : 2 ^ s * m < 4294967296) : bits .or .u32 (z : Int) ((2 ^ s * m : Nat) : Int) = ((z + 2 ^ s * m : Nat) : Int) := by
 rw [u32_or_nat _ _ hz2 hm, Nat.or_comm, ← Nat.two_pow_add_eq_or_of_lt hz, Nat.add_comm]
theorem shl_wrap (x s : Nat) (hx : x < 4294967296) (hs : s < 32) : IntKind.u64.wrap ((x : Int) * 2 ^ s) = ((x * 2 ^ s : Nat) : Int) := by
 have h1 : 2 ^ s ≤ 2147483648 := Nat.pow_le_pow_right (n := 2) (by omega) (show s ≤ 31 by omega)
 have h2 : x * 2 ^ s ≤ 4294967295 * 2147483648 := Nat.mul_le_mul (by omega) h1
 have h3 : ((x : Int) * 2 ^ s) = ((x * 2 ^ s : Nat) : Int) := by rw [Int.natCast_mul, Int.natCast_pow]; rfl
 rw [h3, u64w]
 omega
theorem shl_or (z x s : Nat) (hz : z < 2 ^ s) (hz2 : z < 4294967296) (hs : s < 32) : bits .or .u32 (z : Int) (((x * 2 ^ s : Nat) : Int) % 4294967296) = ((z + x * 2 ^ s % B32 : Nat) : Int) := by
 have hp : 2 ^ s * 2 ^ (32 - s) = B32 := by rw [← Nat.pow_add, show s + (32 - s) = 32 by omega]; rfl
 have e0 : x * 2 ^ s % B32 = 2 ^ s * (x % 2 ^ (32 - s)) := by rw [← hp, Nat.mul_comm x, Nat.mul_mod_mul_left]
 have h1 : (((x * 2 ^ s : Nat) : Int) % 4294967296) = ((x * 2 ^ s % B32 : Nat) : Int) := by unfold B32; omega
 have h2 : x * 2 ^ s % B32 < B32 := Nat.mod_lt _ (by unfold B32; omega)
 rw [h1]
 rw [e0] at h2 ⊢
 exact or_low z _ s hz hz2 h2
def ShlRel (w : World) (xs : List Nat) (s : Nat) (ti : Value) (wr : World) : Prop := ∃ (k : Nat) (zs : List Nat), k ≤ xs.length ∧ ti = .int .i64 k ∧ zs.length = xs.length + 1 ∧ WB wr w.heap.size zs ∧ Touch [] w wr ∧ Hid (ShlOf k s xs zs)
theorem shiftLeft_w (v : Value) (xs : List Nat) (s : Nat) (w : World) (hv : Words w v xs) (hs : s < 32) (hxl : xs.length ≤ 1000000) : Calls Tryz.prog 172 #[v, .int .i64 s] w fun r w' => r = .returned (.slice (some ⟨w.heap.size, 0, none⟩) (xs.length + 1) (xs.length + 1)) ∧ ∃ zs, zs.length = xs.length + 1 ∧ nv B32 zs = 2 ^ s * nv B32 xs ∧ Below_ B32 zs ∧ WB w' w.heap.size zs ∧ Touch [] w w' := by
 obtain ⟨A, cap, rfl⟩ := hv.form
 obtain ⟨hc1, hc2⟩ := hv.cap
 have hmk : ∀ W : World, (Instr.makeSlice 171 (.int .i64 ((xs.length : Int) + 1)) (.int .i64 ((xs.length : Int) + 1))).run Tryz.prog W = .ok (.slice (some ⟨W.heap.size, 0, none⟩) (xs.length + 1) (xs.length + 1)) (W.alloc (.cells (((List.replicate (xs.length + 1) (0 : Nat)).map u32v).toArray) 178)) := make_words (xs.length + 1) (by omega)
 have hst : ShlRel w xs s (.int .i64 0) (w.alloc (.cells (((List.replicate (xs.length + 1) (0 : Nat)).map u32v).toArray) 178)) := ⟨0, _, by omega, rfl, by simp, WB.new _ _, (Touch.refl _ _).alloc _, Lib.hid (shl_new _ _ _)⟩
 generalize (((List.replicate (xs.length + 1) (0 : Nat)).map u32v).toArray) = cs at *
 go_enter Tryz.func172, Tryz.ntmps172
 go_wp2_with fail
 go_loopw [15] (fun ti wr => ShlRel w xs s ti wr) (fun ti _ => xs.length - (intOf ti).toNat)
 case atStart => exact hst
 case round =>
  clear hst
  obtain ⟨k, zs, hk, rfl, hzl, hW, ht, HS⟩ := hrel
  by_cases hlt : k < xs.length
  ·have hlt' : (k : Int) < (xs.length : Int) := by omega
   obtain ⟨b, off, rfl, hb⟩ := hv.addr hlt
   have c0 := Words.at_ (hv.touch0 ht) hlt
   have bx := hv.below _ (List.getElem_mem hlt)
   unfold B32 at bx
   have hmz : k < zs.length := by omega
   have hmz2 : k + 1 < zs.length := by omega
   have cz := hW.at_ hmz
   have cz2 := hW.at_ hmz2
   have fz := hW.frozen k
   have fz2 := hW.frozen (k + 1)
   have HZ := Lib.hid (HS.out.2.2.2 hmz)
   have bz := HS.out.2.1 _ (List.getElem_mem hmz)
   unfold B32 at bz
   have HN := Lib.hid (shl_step (by omega) HS.out hmz2 hlt hv.below)
   have HW := Lib.hid (fun v u => (hW.set k v).set (k + 1) u)
   generalize xs[k] = x at *
   generalize zs[k] = z at *
   generalize zs[k + 1] = z2 at *
   clear hv HS hW
   go_wp2_with fail
   go_roundw
   case rel =>
    obtain ⟨n1, n2, n3⟩ := HN.out
    have hw1 := shl_wrap x s bx hs
    have hw2 := shl_or z x s HZ.out bz hs
    have hw3 : (((x * 2 ^ s : Nat) : Int) / 4294967296 % 4294967296) = ((x * 2 ^ s / B32 : Nat) : Int) := by
     have : 2 ^ s ≤ 2147483648 := Nat.pow_le_pow_right (n := 2) (by omega) (show s ≤ 31 by omega)
     unfold B32 at n2 ⊢
     omega
    refine ⟨k + 1, _, by omega, by go_num, ?_, ?_, (ht.setCell (.inr (Nat.le_refl _)) _).setCell (.inr (Nat.le_refl _)) _, Lib.hid n3⟩
    ·simpa using hzl
    ·rw [hw1, hw2, hw3]
     exact HW.out _ _
   case measure => simp [intOf]; omega
  ·have hlt' : ¬ (k : Int) < (xs.length : Int) := by omega
   have HK := Lib.hid (show k = xs.length by omega)
   clear hk
   have HF := Lib.hid (HK.out ▸ HS.out)
   clear HS HK hv
   go_wp2_with fail
   go_ret
   exact ⟨rfl, zs, hzl, by have := HF.out.1; rwa [List.take_of_length_le (Nat.le_refl _)] at this, HF.out.2.1, hW, ht⟩
end Go.Proofs.YtedpaajpfaoffaaGreatDoor
namespace Go.Proofs.YtedpaajpfaoffaaGreatDoor
open Go.RowKit
def ShrOf (k s : Nat) (xs zs : List Nat) : Prop := nv B32 xs / 2 ^ s = nv B32 zs + B32 ^ k * (nv B32 (xs.drop k) / 2 ^ s) ∧ Below_ B32 zs ∧ Zero_ k zs
theorem shr_new (m s : Nat) (xs : List Nat) : ShrOf 0 s xs (List.replicate m 0) := ⟨by rw [nv_zeros]; simp, below_new m, zero_new m⟩
theorem pow_split {s : Nat} (hs : s ≤ 32) : 2 ^ s * 2 ^ (32 - s) = B32 := by rw [← Nat.pow_add, show s + (32 - s) = 32 by omega]; rfl
theorem shr_word {s x y M : Nat} (hs : s ≤ 32) : (x + B32 * (y + B32 * M)) / 2 ^ s = (x / 2 ^ s + y * 2 ^ (32 - s) % B32) + B32 * ((y + B32 * M) / 2 ^ s) := by
 have hp := pow_split hs
 have hps : 0 < 2 ^ s := Nat.pow_pos (by omega)
 have h1 : (x + B32 * (y + B32 * M)) / 2 ^ s = x / 2 ^ s + 2 ^ (32 - s) * (y + B32 * M) := by
  rw [show B32 * (y + B32 * M) = 2 ^ s * (2 ^ (32 - s) * (y + B32 * M)) by rw [← Nat.mul_assoc, hp], Nat.add_mul_div_left _ _ hps]
 have h2 : (y + B32 * M) % 2 ^ s = y % 2 ^ s := by
  rw [show B32 * M = 2 ^ s * (2 ^ (32 - s) * M) by rw [← Nat.mul_assoc, hp], Nat.add_mul_mod_self_left]
 have h3 : y * 2 ^ (32 - s) % B32 = 2 ^ (32 - s) * (y % 2 ^ s) := by
  rw [← hp, Nat.mul_comm (2 ^ s), Nat.mul_comm y, Nat.mul_mod_mul_left]
 have h4 := Nat.div_add_mod (y + B32 * M) (2 ^ s)
 have h5 : 2 ^ (32 - s) * (y + B32 * M) = B32 * ((y + B32 * M) / 2 ^ s) + 2 ^ (32 - s) * (y % 2 ^ s) := by
  conv => lhs; rw [← h4]
  rw [h2, Nat.mul_add, ← Nat.mul_assoc, Nat.mul_comm (2 ^ (32 - s)) (2 ^ s), hp]
 rw [h1, h3, h5]
 omega
theorem shr_fit {s x y : Nat} (hs : s ≤ 32) (hx : x < B32) : x / 2 ^ s < 2 ^ (32 - s) ∧ x / 2 ^ s + y * 2 ^ (32 - s) % B32 < B32 := by
 have hp := pow_split hs
 have hps : 0 < 2 ^ s := Nat.pow_pos (by omega)
 have h3 : y * 2 ^ (32 - s) % B32 = 2 ^ (32 - s) * (y % 2 ^ s) := by
  rw [← hp, Nat.mul_comm (2 ^ s), Nat.mul_comm y, Nat.mul_mod_mul_left]
 have h1 : x / 2 ^ s < 2 ^ (32 - s) := by
  rw [Nat.div_lt_iff_lt_mul hps, Nat.mul_comm, hp]
  exact hx
 refine ⟨h1, ?_⟩
 have h2 : y % 2 ^ s + 1 ≤ 2 ^ s := Nat.mod_lt _ hps
 have h4 : 2 ^ (32 - s) * (y % 2 ^ s + 1) ≤ B32 := by rw [← hp, Nat.mul_comm (2 ^ s)]; exact Nat.mul_le_mul_left _ h2
 rw [Nat.mul_add] at h4
 rw [h3]
 omega
theorem shr_put {k s v : Nat} {xs zs : List Nat} (h : ShrOf k s xs zs) (hz : k < zs.length) (hv : v < B32) (e : nv B32 (xs.drop k) / 2 ^ s = v + B32 * (nv B32 (xs.drop (k + 1)) / 2 ^ s)) : ShrOf (k + 1) s xs (zs.set k v) := by
 obtain ⟨h1, h2, h3⟩ := h
 refine ⟨?_, below_set h2 hv, h3.set⟩
 rw [h1, e, sub_put hz h3, Nat.mul_add, Nat.pow_succ, Nat.mul_assoc]
 omega
theorem shr_two {k s : Nat} {xs zs : List Nat} (hs : s ≤ 32) (h : ShrOf k s xs zs) (hz : k < zs.length) (hx : k < xs.length) (hx2 : k + 1 < xs.length) (bx : Below_ B32 xs) : ShrOf (k + 1) s xs (zs.set k (xs[k] / 2 ^ s + xs[k + 1] * 2 ^ (32 - s) % B32)) := by
 refine shr_put h hz (shr_fit hs (bx _ (List.getElem_mem hx))).2 ?_
 rw [nv_drop hx, nv_drop hx2, shr_word hs]
theorem shr_one {k s : Nat} {xs zs : List Nat} (h : ShrOf k s xs zs) (hz : k < zs.length) (hx : k < xs.length) (hx2 : ¬ k + 1 < xs.length) (bx : Below_ B32 xs) : ShrOf (k + 1) s xs (zs.set k (xs[k] / 2 ^ s)) := by
 have b1 := bx _ (List.getElem_mem hx)
 refine shr_put h hz (Nat.lt_of_le_of_lt (Nat.div_le_self _ _) b1) ?_
 rw [nv_drop hx, List.drop_eq_nil_of_le (show xs.length ≤ k + 1 by omega)]
 simp [nv]
theorem shr_nat (x s : Nat) : (x : Int) / 2 ^ s = ((x / 2 ^ s : Nat) : Int) := by rw [Int.natCast_ediv, Int.natCast_pow]; rfl
theorem shr_or (x y s : Nat) (hs : s < 32) (hx : x < 4294967296) (hy : y < 4294967296) : bits .or .u32 ((x / 2 ^ s : Nat) : Int) (IntKind.u64.wrap ((y : Int) * 2 ^ (32 - s)) % 4294967296) = ((x / 2 ^ s + y * 2 ^ (32 - s) % B32 : Nat) : Int) := by
 have h1 : 2 ^ (32 - s) ≤ 4294967296 := Nat.pow_le_pow_right (n := 2) (by omega) (show 32 - s ≤ 32 by omega)
 have h2 : y * 2 ^ (32 - s) ≤ 4294967295 * 4294967296 := Nat.mul_le_mul (by omega) h1
 have h3 : ((y : Int) * 2 ^ (32 - s)) = ((y * 2 ^ (32 - s) : Nat) : Int) := by rw [Int.natCast_mul, Int.natCast_pow]; rfl
 have h4 : IntKind.u64.wrap ((y : Int) * 2 ^ (32 - s)) % 4294967296 = ((y * 2 ^ (32 - s) % B32 : Nat) : Int) := by
  rw [h3, u64w]
  unfold B32
  omega
 have hp := pow_split (s := s) (by omega)
 have h5 : y * 2 ^ (32 - s) % B32 = 2 ^ (32 - s) * (y % 2 ^ s) := by
  rw [← hp, Nat.mul_comm (2 ^ s), Nat.mul_comm y, Nat.mul_mod_mul_left]
 have h6 := (shr_fit (s := s) (x := x) (y := y) (by omega) (by unfold B32; omega)).1
 rw [h4]
 have h7 : y * 2 ^ (32 - s) % B32 < B32 := Nat.mod_lt _ (by unfold B32; omega)
 rw [h5] at h7 ⊢
 exact or_low _ _ _ h6 (by omega) h7
def ShrRel (w : World) (xs : List Nat) (s : Nat) (ti : Value) (wr : World) : Prop := ∃ (k : Nat) (zs : List Nat), k ≤ xs.length ∧ ti = .int .i64 k ∧ zs.length = xs.length ∧ WB wr w.heap.size zs ∧ Touch [] w wr ∧ Hid (ShrOf k s xs zs)
theorem shiftRight_w (v : Value) (xs : List Nat) (s : Nat) (w : World) (hv : Words w v xs) (hs : s < 32) (hxl : xs.length ≤ 1000000) : Calls Tryz.prog 174 #[v, .int .i64 s] w fun r w' => r = .returned (.slice (some ⟨w.heap.size, 0, none⟩) xs.length xs.length) ∧ ∃ zs, zs.length = xs.length ∧ nv B32 zs = nv B32 xs / 2 ^ s ∧ Below_ B32 zs ∧ WB w' w.heap.size zs ∧ Touch [] w w' := by
 obtain ⟨A, cap, rfl⟩ := hv.form
 obtain ⟨hc1, hc2⟩ := hv.cap
 have hmk := make_words xs.length (by omega)
 have hst : ShrRel w xs s (.int .i64 0) (w.alloc (.cells (((List.replicate xs.length (0 : Nat)).map u32v).toArray) 178)) := ⟨0, _, by omega, rfl, by simp, WB.new _ _, (Touch.refl _ _).alloc _, Lib.hid (shr_new _ _ _)⟩
 generalize (((List.replicate xs.length (0 : Nat)).map u32v).toArray) = cs at *
 go_enter Tryz.func174, Tryz.ntmps174
 go_wp2_with fail
 go_loopw [13] (fun ti wr => ShrRel w xs s ti wr) (fun ti _ => xs.length - (intOf ti).toNat)
 case atStart => exact hst
 case round =>
  clear hst
  obtain ⟨k, zs, hk, rfl, hzl, hW, ht, HS⟩ := hrel
  by_cases hlt : k < xs.length
  ·have hlt' : (k : Int) < (xs.length : Int) := by omega
   obtain ⟨b, off, rfl, hb⟩ := hv.addr hlt
   have c0 := Words.at_ (hv.touch0 ht) hlt
   have bx := hv.below _ (List.getElem_mem hlt)
   unfold B32 at bx
   have hmz : k < zs.length := by omega
   have cz := hW.at_ hmz
   have fz := hW.frozen k
   by_cases hl2 : k + 1 < xs.length
   ·have hl2' : (k : Int) + 1 < (xs.length : Int) := by omega
    have HC1 := Lib.hid (fun W (h : Touch [] w W) => Words.at_ (hv.touch0 h) hl2)
    have bY := hv.below _ (List.getElem_mem hl2)
    unfold B32 at bY
    have HN := Lib.hid (shr_two (by omega) HS.out hmz hlt hl2 hv.below)
    have HW := Lib.hid (fun v u => (hW.set k v).set k u)
    have HW1 := Lib.hid (fun v => hW.set k v)
    generalize xs[k] = x at *
    generalize xs[k + 1] = y at *
    generalize zs[k] = z at *
    clear hv HS hW
    have hx1 := shr_nat x s
    have bx1 : x / 2 ^ s < 4294967296 := Nat.lt_of_le_of_lt (Nat.div_le_self _ _) bx
    have HO := Lib.hid (shr_or x y s hs bx bY)
    obtain ⟨t, ht32⟩ : ∃ t : Nat, t = 32 - s := ⟨_, rfl⟩
    rw [← ht32] at HN HO
    have hts : (32 : Int) - (s : Int) = (t : Int) := by omega
    have bt : t ≤ 32 := by omega
    have HT32 := Lib.hid ht32
    clear ht32
    generalize x / 2 ^ s = x1 at *
    go_wp2_with fail
    have ht1 : Touch [] w (wr.setCell ⟨w.heap.size, k, none⟩ (.int .u32 (x1 : Int))) := ht.setCell (.inr (Nat.le_refl _)) _
    have hB1 := HW1.out x1
    have d0 := hB1.at_ (k := k) (by simpa using hmz)
    have d1 := HC1.out _ ht1
    have dz := hB1.frozen k
    have HB1 := Lib.hid (fun v => hB1.set k v)
    simp only [List.getElem_set_self, List.set_set] at d0 HB1
    clear hB1 HW HW1 HC1 cz fz c0 ht
    generalize wr.setCell ⟨w.heap.size, k, none⟩ (.int .u32 (x1 : Int)) = W1 at *
    go_region
    go_wp2_with fail
    go_roundw
    case rel =>
     refine ⟨k + 1, _, by omega, by go_num, by simpa using hzl, ?_, (ht1.setCell (.inr (Nat.le_refl _)) _).drew, HN⟩
     rw [HO.out]
     exact Blk.drew (HB1.out _)
    case measure => simp [intOf]; omega
   ·have hl2' : ¬ (k : Int) + 1 < (xs.length : Int) := by omega
    have HN := Lib.hid (shr_one HS.out hmz hlt hl2 hv.below)
    have HW := Lib.hid (fun v => hW.set k v)
    generalize xs[k] = x at *
    generalize zs[k] = z at *
    clear hv HS hW
    have hx1 := shr_nat x s
    have bx1 : x / 2 ^ s < 4294967296 := Nat.lt_of_le_of_lt (Nat.div_le_self _ _) bx
    generalize x / 2 ^ s = x1 at *
    go_wp2_with fail
    go_roundw
    case rel => exact ⟨k + 1, _, by omega, by go_num, by simpa using hzl, HW.out x1, ht.setCell (.inr (Nat.le_refl _)) _, HN⟩
    case measure => simp [intOf]; omega
  ·have hlt' : ¬ (k : Int) < (xs.length : Int) := by omega
   have HK := Lib.hid (show k = xs.length by omega)
   clear hk
   have HF := Lib.hid (HK.out ▸ HS.out)
   clear HS HK hv
   go_wp2_with fail
   go_ret
   exact ⟨rfl, zs, hzl, by have := HF.out.1; rw [List.drop_length] at this; simpa [nv] using this.symm, HF.out.2.1, hW, ht⟩
end Go.Proofs.YtedpaajpfaoffaaGreatDoor
