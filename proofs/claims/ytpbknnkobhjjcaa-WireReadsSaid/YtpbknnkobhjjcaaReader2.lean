/- The reader of package wire: numbers, parts. -/
import Derived.Test.YtpbknnkobhjjcaaReader
namespace Go.Proofs.Ytpbknnkobhjjcaa
open Go.RowKit

theorem pGroup_lt (l : List UInt8) : ∀ (f i n a : Nat) (x : Nat × Nat), i + f ≤ 9 → n < 2 ^ (7 * i) → pGroup l f i n a = .ok x → x.1 < 2 ^ (7 * (i + f)) ∧ a < x.2 ∧ x.2 ≤ l.length := by
  intro f
  induction f with
  | zero => intro i n a x _ _ h; cases h
  | succ f ih =>
    intro i n a x hi hn h
    have h2 : 2 ^ (7 * (i + 1)) = 128 * 2 ^ (7 * i) := two_pow7 i
    unfold pGroup at h
    split at h
    · cases h
    · rename_i b hb
      have hal : a < l.length := by
        rcases Nat.lt_or_ge a l.length with h1 | h1
        · exact h1
        · rw [List.getElem?_eq_none h1] at hb; cases hb
      have hq : b.toNat % 128 * 2 ^ (7 * i) ≤ 127 * 2 ^ (7 * i) := Nat.mul_le_mul_right _ (by omega)
      split at h
      · cases h
      · split at h
        · split at h
          · cases h
          · cases h
            have : 2 ^ (7 * (i + 1)) ≤ 2 ^ (7 * (i + (f + 1))) := Nat.pow_le_pow_right (by omega) (by omega)
            exact ⟨by simp only; omega, by simp only; omega, by simp only; omega⟩
        · have := ih (i + 1) _ _ x (by omega) (by omega) h
          rw [show i + 1 + f = i + (f + 1) by omega] at this
          exact ⟨this.1, by omega, this.2.2⟩
theorem pGroup9 {l : List UInt8} {a : Nat} {x : Nat × Nat} (h : pGroup l 9 0 0 a = .ok x) : x.1 < 9223372036854775808 ∧ a < x.2 ∧ x.2 ≤ l.length :=
  pGroup_lt l 9 0 0 a x (by omega) (by omega) h
theorem pGroup10_lt (l : List UInt8) : ∀ (f i n a : Nat) (x : Nat × Nat), i + f = 10 → n < 2 ^ (7 * i) → pGroup l f i n a = .ok x → x.1 < 18446744073709551616 ∧ a < x.2 ∧ x.2 ≤ l.length := by
  intro f
  induction f with
  | zero => intro i n a x _ _ h; cases h
  | succ f ih =>
    intro i n a x hi hn h
    have h2 : 2 ^ (7 * (i + 1)) = 128 * 2 ^ (7 * i) := two_pow7 i
    unfold pGroup at h
    split at h
    · cases h
    · rename_i b hb
      have hal : a < l.length := by
        rcases Nat.lt_or_ge a l.length with h1 | h1
        · exact h1
        · rw [List.getElem?_eq_none h1] at hb; cases hb
      have hq : b.toNat % 128 * 2 ^ (7 * i) ≤ 127 * 2 ^ (7 * i) := Nat.mul_le_mul_right _ (by omega)
      split at h
      · cases h
      · rename_i h9
        split at h
        · split at h
          · cases h
          · cases h
            refine ⟨?_, by simp only; omega, by simp only; omega⟩
            simp only
            by_cases h8 : i = 9
            · subst h8
              have : b.toNat % 128 ≤ 1 := by omega
              omega
            · have := pow7_le i (by omega)
              omega
        · have := ih (i + 1) _ _ x (by omega) (by omega) h
          exact ⟨this.1, by omega, this.2.2⟩
theorem pGroup10 {l : List UInt8} {a : Nat} {x : Nat × Nat} (h : pGroup l 10 0 0 a = .ok x) : x.1 < 18446744073709551616 ∧ a < x.2 ∧ x.2 ≤ l.length :=
  pGroup10_lt l 10 0 0 a x (by omega) (by omega) h

def unfold' (u : Nat) : Int := if u % 2 = 1 then -((u / 2 : Nat) : Int) - 1 else ((u / 2 : Nat) : Int)
def pUint (l : List UInt8) (a : Nat) : Except Int (Int × Nat) := (pGroup l 9 0 0 a).map fun x => ((x.1 : Int), x.2)
def pInt (l : List UInt8) (a : Nat) : Except Int (Int × Nat) := (pGroup l 10 0 0 a).map fun x => (unfold' x.1, x.2)
def pCount (l : List UInt8) (limit : Int) (a : Nat) : Except Int (Int × Nat) := match pGroup l 9 0 0 a with
  | .error k => .error k
  | .ok x => if limit < 0 then .error 2 else if limit < (x.1 : Int) then .error 7 else .ok ((x.1 : Int), x.2)
def ival (x : Int × Nat) : Value × Nat := (.int .i64 x.1, x.2)

theorem RdPost.err {w w' : World} {p : Nat} {inp : Value} {l : List UInt8} {e : Int} {α : Type} {res : Except Int α} {f : α → Value × Nat} {k : Int} {r : Ending} (h : RdPost w p inp l e (res.map f) r w') (hg : res = .error k) : Touch [p] w w' ∧ r = bad k ∧ ∃ a, Rd w' p inp l e a := by
  subst hg; exact h
theorem RdPost.val {w w' : World} {p : Nat} {inp : Value} {l : List UInt8} {e : Int} {α : Type} {res : Except Int α} {f : α → Value × Nat} {x : α} {r : Ending} (h : RdPost w p inp l e (res.map f) r w') (hg : res = .ok x) : Touch [p] w w' ∧ r = .returned (f x).1 ∧ Rd w' p inp l e (f x).2 := by
  subst hg; exact h

set_option maxRecDepth 100000 in
set_option maxHeartbeats 400000 in
theorem count_any (p : Nat) (inp : Value) (l : List UInt8) (e : Int) (a : Nat) (limit : Int) (w : World) (h : Rd w p inp l e a) :
    Calls Try.prog 95 #[.pointer (some ⟨p, 0, none⟩), .int .i64 limit] w (RdPost w p inp l e ((pCount l limit a).map ival)) := by
  cases hg : pGroup l 9 0 0 a with
  | error k =>
    rw [show pCount l limit a = .error k by unfold pCount; rw [hg]]
    have HG := Lib.hid hg
    clear hg
    go_enter Try.func95, Try.ntmps95
    go_wp2_with fail
    refine (group_any p inp l e a 9 w h (by omega)).mono ?_
    rintro r w1 hr
    obtain ⟨ht, rfl, a1, hr1⟩ := hr.err HG.out
    unfold bad
    go_wp2_with fail
    exact ⟨rfl, ht, rfl, a1, hr1⟩
  | ok x =>
    obtain ⟨n, a1⟩ := x
    have hn := (pGroup9 hg).1
    simp only at hn
    have hp : pCount l limit a = if limit < 0 then .error 2 else if limit < (n : Int) then .error 7 else .ok ((n : Int), a1) := by unfold pCount; rw [hg]
    have HG := Lib.hid hg
    have HP := Lib.hid hp
    clear hg hp
    go_enter Try.func95, Try.ntmps95
    go_wp2_with fail
    refine (group_any p inp l e a 9 w h (by omega)).mono ?_
    rintro r w1 hr
    obtain ⟨ht, rfl, hr1⟩ := hr.val HG.out
    simp only [gval] at hr1 ⊢
    clear hr
    by_cases h1 : limit < 0
    · go_wp2_with fail
      refine ⟨rfl, ht, ?_⟩
      rw [HP.out, if_pos h1]
      exact ⟨rfl, a1, hr1⟩
    · by_cases h2 : limit < (n : Int)
      · go_wp2_with fail
        refine ⟨rfl, ht, ?_⟩
        rw [HP.out, if_neg (by omega), if_pos (by omega)]
        exact ⟨rfl, a1, hr1⟩
      · go_wp2_with fail
        go_ret
        refine ⟨ht, ?_⟩
        rw [HP.out, if_neg (by omega), if_neg (by omega)]
        exact ⟨rfl, hr1⟩

theorem unfold_odd (n : Nat) (h : n % 2 = 1) : unfold' n = -((n : Int) / 2) - 1 := by unfold unfold'; rw [if_pos h]; omega
theorem unfold_even (n : Nat) (h : ¬ n % 2 = 1) : unfold' n = (n : Int) / 2 := by unfold unfold'; rw [if_neg h]; omega

set_option maxRecDepth 100000 in
set_option maxHeartbeats 400000 in
theorem signed_rd (p : Nat) (inp : Value) (l : List UInt8) (e : Int) (a : Nat) (w : World) (h : Rd w p inp l e a) :
    Calls Try.prog 85 #[.pointer (some ⟨p, 0, none⟩)] w (RdPost w p inp l e ((pInt l a).map ival)) := by
  cases hg : pGroup l 10 0 0 a with
  | error k =>
    rw [show pInt l a = .error k by unfold pInt; rw [hg]; rfl]
    have HG := Lib.hid hg
    clear hg
    go_enter Try.func85, Try.ntmps85
    go_wp2_with fail
    refine (group_any p inp l e a 10 w h (by omega)).mono ?_
    rintro r w1 hr
    obtain ⟨ht, rfl, a1, hr1⟩ := hr.err HG.out
    unfold bad
    go_wp2_with fail
    exact ⟨rfl, ht, rfl, a1, hr1⟩
  | ok x =>
    obtain ⟨n, a1⟩ := x
    have hn := (pGroup10 hg).1
    simp only at hn
    rw [show pInt l a = .ok (unfold' n, a1) by unfold pInt; rw [hg]; rfl]
    have HG := Lib.hid hg
    clear hg
    have hand : bits .and .u64 (n : Int) 1 = ((n % 2 : Nat) : Int) := by
      rw [u64_and _ _ (by omega) (by omega) (by omega) (by omega), Int.toNat_natCast, show (1 : Int).toNat = 1 from rfl, nat_mask1]
    have HAnd := Lib.hid hand
    clear hand
    go_enter Try.func85, Try.ntmps85
    go_wp2_with fail
    refine (group_any p inp l e a 10 w h (by omega)).mono ?_
    rintro r w1 hr
    obtain ⟨ht, rfl, hr1⟩ := hr.val HG.out
    simp only [gval] at hr1 ⊢
    clear hr
    have hand := HAnd.out
    obtain ⟨q, hq⟩ : ∃ q, q = n % 2 := ⟨_, rfl⟩
    rw [← hq] at hand
    have HQ := Lib.hid hq
    clear hq
    by_cases h1 : q = 1
    · subst h1
      go_wp2_with fail
      go_ret
      refine ⟨ht, ?_, hr1⟩
      show _ = Ending.returned (.int .i64 (unfold' n))
      rw [unfold_odd n HQ.out.symm]
      rfl
    · have h1' : ((q : Int) == 1) = false := by simp; omega
      go_wp2_with fail
      go_ret
      refine ⟨ht, ?_, hr1⟩
      show _ = Ending.returned (.int .i64 (unfold' n))
      rw [unfold_even n (by rw [← HQ.out]; exact h1)]
      rfl

/-- A part of a slice that is read. -/
theorem Reads.part {w : World} {A : Option Addr} {len cap : Nat} {xs : List Value} (h : Reads w 1 (.slice A len cap) len xs) (lo hi : Nat) (h1 : lo ≤ hi) (h2 : hi ≤ len) : Reads w 1 (sliced A lo hi cap 1) (hi - lo) ((xs.drop lo).take (hi - lo)) := by
  obtain ⟨A', cap', e, hcap, hmax, hl, hc⟩ := h
  injection e with e1 e2 e3
  subst e1 e3
  unfold sliced
  refine ⟨_, _, rfl, by omega, by omega, by simp at hl ⊢; omega, fun hn => ?_⟩
  obtain ⟨b, off, rfl, hb, hcell⟩ := hc (by omega)
  rw [if_neg (by omega)]
  refine ⟨b, off + lo, by simp [add_lit], hb, fun j u hu => ?_⟩
  rw [List.getElem?_take] at hu
  split at hu
  · rw [List.getElem?_drop] at hu
    have := hcell _ _ hu
    rwa [← Nat.add_assoc] at this
  · cases hu
theorem rb_sliced {A : Option Addr} {len lo hi cap size : Nat} (h : hi ≤ len) : ∀ b ∈ rb (sliced A lo hi cap size), b ∈ rb (.slice A len cap) := by
  unfold sliced
  intro b hb
  rcases Nat.eq_zero_or_pos (hi - lo) with h0 | h0
  · rw [h0] at hb
    cases A <;> (simp only [Option.map_some, Option.map_none] at hb; split at hb <;> simp [rb] at hb)
  · obtain ⟨k, hk⟩ : ∃ k, hi - lo = k + 1 := ⟨hi - lo - 1, by omega⟩
    obtain ⟨m, rfl⟩ : ∃ m, len = m + 1 := ⟨len - 1, by omega⟩
    rw [hk] at hb
    cases A with
    | none => simp only [Option.map_none] at hb; split at hb <;> simp [rb] at hb
    | some a =>
      simp only [Option.map_some] at hb
      split at hb <;> simpa [rb, block_of_add] using hb

def pPart (l : List UInt8) (limit : Int) (a : Nat) : Except Int (List UInt8 × Nat) := match pCount l limit a with
  | .error k => .error k
  | .ok x => if l.length - x.2 < x.1.toNat then .error 4 else .ok ((l.drop x.2).take x.1.toNat, x.2 + x.1.toNat)
theorem pCount_ok {l : List UInt8} {limit : Int} {a : Nat} {x : Int × Nat} (h : pCount l limit a = .ok x) : 0 ≤ x.1 ∧ x.1 ≤ limit ∧ x.1 < 9223372036854775808 ∧ a < x.2 ∧ x.2 ≤ l.length := by
  unfold pCount at h
  split at h
  · cases h
  · rename_i y hy
    have := pGroup9 hy
    split at h
    · cases h
    · split at h
      · cases h
      · cases h
        simp only
        omega
/-- What part leaves: a view of the input. -/
def PartPost (w : World) (p : Nat) (inp : Value) (l : List UInt8) (e : Int) (res : Except Int (List UInt8 × Nat)) (r : Ending) (w' : World) : Prop :=
  Touch [p] w w' ∧ match res with
    | .ok (x, a) => ∃ v, r = .returned v ∧ Bytes w' v x ∧ (∀ b ∈ rb v, b ∈ rb inp) ∧ Rd w' p inp l e a
    | .error k => r = bad k ∧ ∃ a, Rd w' p inp l e a

set_option maxRecDepth 100000 in
set_option maxHeartbeats 400000 in
theorem part_any (p : Nat) (inp : Value) (l : List UInt8) (e : Int) (a : Nat) (limit : Int) (w : World) (h : Rd w p inp l e a) :
    Calls Try.prog 92 #[.pointer (some ⟨p, 0, none⟩), .int .i64 limit] w (PartPost w p inp l e (pPart l limit a)) := by
  cases hg : pCount l limit a with
  | error k =>
    rw [show pPart l limit a = .error k by unfold pPart; rw [hg]]
    have HG := Lib.hid hg
    clear hg
    go_enter Try.func92, Try.ntmps92
    go_wp2_with fail
    refine (count_any p inp l e a limit w h).mono ?_
    rintro r w1 hr
    obtain ⟨ht, rfl, a1, hr1⟩ := hr.err HG.out
    unfold bad
    go_wp2_with fail
    exact ⟨rfl, ht, rfl, a1, hr1⟩
  | ok x =>
    obtain ⟨n, a1⟩ := x
    have hn := pCount_ok hg
    simp only at hn
    obtain ⟨hn0, _, hn1, _, hal⟩ := hn
    have hp : pPart l limit a = if l.length - a1 < n.toNat then .error 4 else .ok ((l.drop a1).take n.toNat, a1 + n.toNat) := by unfold pPart; rw [hg]
    have HG := Lib.hid hg
    have HP := Lib.hid hp
    clear hg hp
    go_enter Try.func92, Try.ntmps92
    go_wp2_with fail
    refine (count_any p inp l e a limit w h).mono ?_
    rintro r w1 hr
    obtain ⟨ht, rfl, hr1⟩ := hr.val HG.out
    simp only [ival] at hr1 ⊢
    clear hr
    obtain ⟨m, rfl⟩ := Int.eq_ofNat_of_zero_le hn0
    rw [Int.toNat_natCast] at HP
    have h2 := hr1.1.cell 2
    have h3 := hr1.1.cell 3
    have hf := hr1.1.frozen 3
    simp at h2 h3
    obtain ⟨A, cap, rfl, hcap, hmax, _, hcells⟩ := id hr1.2.1
    unfold maxLen at hmax
    clear hcells
    by_cases h5 : l.length - a1 < m
    · have h5' : (l.length : Int) - (a1 : Int) < (m : Int) := by omega
      go_wp2_with fail
      go_quiet (fail)
      go_wp2_with fail
      refine ⟨rfl, ht.drewN _, ?_⟩
      rw [HP.out, if_pos h5]
      exact ⟨rfl, a1, hr1.drewN _⟩
    · have h5' : ¬ (l.length : Int) - (a1 : Int) < (m : Int) := by omega
      have h5'' : decide ((l.length : Int) - (a1 : Int) < (m : Int)) = false := by simp; omega
      clear h5'
      have h10 : IntKind.i64.wrap ((l.length : Int) - (a1 : Int)) = (l.length : Int) - (a1 : Int) := IntWalk.i64_in _ (by omega)
      go_wp2_with fail
      go_quiet (fail)
      go_wp2_with fail
      go_quiet (fail)
      have hv1 := Reads.part hr1.2.1 a1 (a1 + m) (by omega) (by omega)
      have hv2 := rb_sliced (A := A) (len := l.length) (lo := a1) (hi := a1 + m) (cap := cap) (size := 1) (by omega)
      rw [show a1 + m - a1 = m by omega] at hv1
      unfold sliced at hv1 hv2
      simp only [Nat.mul_one] at hv1 hv2
      generalize Value.slice (if cap = a1 then A else Option.map (fun x => x.add a1) A) (a1 + m - a1) (cap - a1) = v at *
      have HV2 := Lib.hid hv2
      clear hv2
      go_wp2_with fail
      go_ret
      have hm2 := hr1.move (a1 + m) (by omega)
      have htt : Touch [p] w1 (w1.setCell ⟨p, 3, none⟩ (.int .i64 ((a1 + m : Nat) : Int))) := (Touch.refl _ _).setCell (.inl (by simp)) _
      refine ⟨(ht.trans htt).drewN _, ?_⟩
      rw [HP.out, if_neg h5]
      refine ⟨v, rfl, ?_, HV2.out, hm2.drewN _⟩
      have hv3 : Bytes w1 v ((l.drop a1).take m) := by
        unfold Bytes
        rw [List.map_take, List.map_drop, show (List.take m (List.drop a1 l)).length = m by simp; omega]
        exact hv1
      exact Reads.touch hv3 (htt.drewN _) (fun b hb hm => by simp at hm; subst hm; exact hr1.2.2.1 (HV2.out b hb))
end Go.Proofs.Ytpbknnkobhjjcaa
