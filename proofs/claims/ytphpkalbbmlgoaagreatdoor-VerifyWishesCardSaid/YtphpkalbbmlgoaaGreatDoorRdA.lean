/- The reader of package wire: bytes and groups. -/
import Derived.Test.YtphpkalbbmlgoaaGreatDoorWrA
import Derived.Defers
import Derived.Recover
namespace Go.Proofs.YtphpkalbbmlgoaaGreatDoor
open Go.RowKit

def Rd (w : World) (p : Nat) (inp : Value) (l : List UInt8) (e : Int) (a : Nat) : Prop :=
  Blk w p 159 #[.int .i64 e, .bool true, inp, .int .i64 a] ∧ Bytes w inp l ∧ p ∉ rb inp ∧ a ≤ l.length ∧ (∀ b ∈ rb inp, b < w.heap.size) ∧ l.length ≤ 1099511627776

theorem Rd.drewN {w : World} {p : Nat} {inp : Value} {l : List UInt8} {e : Int} {a : Nat} (h : Rd w p inp l e a) (n : Nat) : Rd (w.drewN n) p inp l e a := ⟨h.1, h.2.1.touch0 ((Touch.refl _ _).drewN n), h.2.2⟩

theorem Rd.touch {w w' : World} {p : Nat} {inp : Value} {l : List UInt8} {e : Int} {a : Nat} {L : List Nat} (h : Rd w p inp l e a) (ht : Touch L w w') (hp : p ∉ L) (hi : ∀ b ∈ rb inp, b ∉ L) : Rd w' p inp l e a :=
  ⟨h.1.touch ht hp, Reads.touch h.2.1 ht hi, h.2.2.1, h.2.2.2.1, fun b hb => Nat.lt_of_lt_of_le (h.2.2.2.2.1 b hb) ht.size, h.2.2.2.2.2⟩

theorem Rd.move {w : World} {p : Nat} {inp : Value} {l : List UInt8} {e : Int} {a : Nat} (h : Rd w p inp l e a) (a' : Nat) (ha : a' ≤ l.length) : Rd (w.setCell ⟨p, 3, none⟩ (.int .i64 a')) p inp l e a' := by
  refine ⟨?_, Reads.touch h.2.1 ((Touch.refl [p] w).setCell (.inl (by simp)) _) (fun b hb hm => ?_), h.2.2.1, ha, fun b hb => by simpa [World.setCell] using h.2.2.2.2.1 b hb, h.2.2.2.2.2⟩
  · have := h.1.set_ 3 (.int .i64 a')
    simpa using this
  · simp at hm; subst hm; exact h.2.2.1 hb

theorem Rd.note {w : World} {p : Nat} {inp : Value} {l : List UInt8} {e : Int} {a : Nat} (h : Rd w p inp l e a) (k : Int) : Rd (w.setCell ⟨p, 0, none⟩ (.int .i64 k)) p inp l k a := by
  refine ⟨?_, Reads.touch h.2.1 ((Touch.refl [p] w).setCell (.inl (by simp)) _) (fun b hb hm => ?_), h.2.2.1, h.2.2.2.1, fun b hb => by simpa [World.setCell] using h.2.2.2.2.1 b hb, h.2.2.2.2.2⟩
  · have := h.1.set_ 0 (.int .i64 k)
    simpa using this
  · simp at hm; subst hm; exact h.2.2.1 hb

def bad (k : Int) : Ending := .panicked [{ v := .iface 27 (.int .i64 k), recovered := false }]

def RdPost (w : World) (p : Nat) (inp : Value) (l : List UInt8) (e : Int) (res : Except Int (Value × Nat)) (r : Ending) (w' : World) : Prop :=
  Touch [p] w w' ∧ match res with
    | .ok (v, a) => r = .returned v ∧ Rd w' p inp l e a
    | .error k => r = bad k ∧ ∃ a, Rd w' p inp l e a

set_option maxRecDepth 100000 in
set_option maxHeartbeats 400000 in
theorem next_ok (p : Nat) (inp : Value) (l : List UInt8) (e : Int) (a : Nat) (w : World) (h : Rd w p inp l e a) (ha : a < l.length) :
    Calls Tryz.prog 108 #[.pointer (some ⟨p, 0, none⟩)] w fun r w' => r = .returned (B l[a]) ∧ Rd w' p inp l e (a + 1) ∧ Touch [p] w w' := by
  have h2 := h.1.cell 2
  have h3 := h.1.cell 3
  have hf := h.1.frozen 3
  simp at h2 h3
  obtain ⟨A, cap, rfl, hcap, hmax, _, hcells⟩ := id h.2.1
  unfold maxLen at hmax
  obtain ⟨b, off, rfl, hb, hc⟩ := hcells (by omega)
  have hca : w.cell? ⟨b, off + a, none⟩ = some (.int .u8 (l[a].toNat : Int)) := hc a _ (by simp [B, ha])
  clear hc hcells
  have hlt : ¬ (l.length : Int) ≤ (a : Int) := by omega
  have hlt2 : (a : Int) < (l.length : Int) := by omega
  go_enter Tryz.func108, Tryz.ntmps108
  go_wp2_with fail
  go_quiet (fail)
  go_wp2_with fail
  go_quiet (fail)
  go_wp2_with fail
  go_ret
  refine ⟨rfl, ?_, ?_⟩
  · exact (h.move (a + 1) ha).drewN _
  · exact ((Touch.refl [p] w).setCell (.inl (by simp)) _).drewN _

set_option maxRecDepth 100000 in
set_option maxHeartbeats 400000 in
theorem next_bad (p : Nat) (inp : Value) (l : List UInt8) (e : Int) (a : Nat) (w : World) (h : Rd w p inp l e a) (ha : ¬ a < l.length) :
    Calls Tryz.prog 108 #[.pointer (some ⟨p, 0, none⟩)] w fun r w' => r = bad 4 ∧ Rd w' p inp l e a ∧ Touch [p] w w' := by
  have h2 := h.1.cell 2
  have h3 := h.1.cell 3
  simp at h2 h3
  obtain ⟨A, cap, rfl, hcap, hmax, _, hcells⟩ := id h.2.1
  clear hcells
  have hlt : (l.length : Int) ≤ (a : Int) := by omega
  go_enter Tryz.func108, Tryz.ntmps108
  go_wp2_with fail
  go_quiet (fail)
  go_wp2_with fail
  exact ⟨rfl, rfl, h.drewN _, (Touch.refl _ _).drewN _⟩

def pGroup (l : List UInt8) : Nat → Nat → Nat → Nat → Except Int (Nat × Nat)
  | 0, _, _, _ => .error 6
  | f + 1, i, n, a => match l[a]? with
    | none => .error 4
    | some b => if i = 9 ∧ 1 < b.toNat % 128 then .error 6
      else if b.toNat < 128 then (if b.toNat = 0 ∧ 0 < i then .error 6 else .ok (n + b.toNat % 128 * 2 ^ (7 * i), a + 1))
      else pGroup l f (i + 1) (n + b.toNat % 128 * 2 ^ (7 * i)) (a + 1)

section
variable {l : List UInt8} {most i n a : Nat}
theorem pg_step (hlt : i < most) : pGroup l (most - i) i n a = match l[a]? with
    | none => .error 4
    | some b => if i = 9 ∧ 1 < b.toNat % 128 then .error 6
      else if b.toNat < 128 then (if b.toNat = 0 ∧ 0 < i then .error 6 else .ok (n + b.toNat % 128 * 2 ^ (7 * i), a + 1))
      else pGroup l (most - (i + 1)) (i + 1) (n + b.toNat % 128 * 2 ^ (7 * i)) (a + 1) := by
  rw [show most - i = (most - (i + 1)) + 1 by omega]
  rfl

theorem pg_short (hlt : i < most) (ha : ¬ a < l.length) : pGroup l (most - i) i n a = .error 4 := by
  rw [pg_step hlt, List.getElem?_eq_none (by omega)]

theorem pg_big (hlt : i < most) (ha : a < l.length) (h9 : i = 9) (hb : 1 < l[a].toNat % 128) : pGroup l (most - i) i n a = .error 6 := by
  rw [pg_step hlt, List.getElem?_eq_getElem ha]
  simp only
  rw [if_pos ⟨h9, hb⟩]

theorem pg_zero (hlt : i < most) (ha : a < l.length) (hi : 0 < i) (hb : l[a].toNat = 0) : pGroup l (most - i) i n a = .error 6 := by
  rw [pg_step hlt, List.getElem?_eq_getElem ha]
  simp only
  rw [if_neg (by omega), if_pos (by omega), if_pos ⟨hb, hi⟩]

theorem pg_last (hlt : i < most) (ha : a < l.length) (h9 : ¬ (i = 9 ∧ 1 < l[a].toNat % 128)) (h0 : ¬ (l[a].toNat = 0 ∧ 0 < i)) (hb : l[a].toNat < 128) : pGroup l (most - i) i n a = .ok (n + l[a].toNat % 128 * 2 ^ (7 * i), a + 1) := by
  rw [pg_step hlt, List.getElem?_eq_getElem ha]
  simp only
  rw [if_neg h9, if_pos hb, if_neg h0]

theorem pg_more (hlt : i < most) (ha : a < l.length) (h9 : ¬ (i = 9 ∧ 1 < l[a].toNat % 128)) (hb : 128 ≤ l[a].toNat) : pGroup l (most - i) i n a = pGroup l (most - (i + 1)) (i + 1) (n + l[a].toNat % 128 * 2 ^ (7 * i)) (a + 1) := by
  rw [pg_step hlt, List.getElem?_eq_getElem ha]
  simp only
  rw [if_neg h9, if_neg (by omega)]

theorem pg_end (hlt : ¬ i < most) : pGroup l (most - i) i n a = .error 6 := by
  rw [show most - i = 0 by omega]
  rfl

end
theorem and127 (b : Nat) (h : b < 256) : bits .and .u8 (b : Int) 127 = ((b % 128 : Nat) : Int) := by
  rw [u8_and _ _ (by omega) (by omega) (by omega) (by omega)]
  have : ((127 : Int)).toNat = 127 := rfl
  rw [this, Int.toNat_natCast, nat_mask7]

theorem two_pow7 (i : Nat) : 2 ^ (7 * (i + 1)) = 128 * 2 ^ (7 * i) := by rw [show 7 * (i + 1) = 7 * i + 7 by omega, Nat.pow_add]; omega

theorem pow7_le (i : Nat) (h : i ≤ 8) : 2 ^ (7 * i) ≤ 2 ^ 56 := Nat.pow_le_pow_right (by omega) (by omega)

theorem orshift (i n q : Nat) (hi : i ≤ 8) (hn : n < 2 ^ (7 * i)) (hq : q < 128) : bits .or .u64 (n : Int) (IntKind.u64.wrap ((q : Int) * 2 ^ (7 * i))) = ((n + q * 2 ^ (7 * i) : Nat) : Int) := by
  have hp := pow7_le i hi
  have e1 : ((q : Int) * 2 ^ (7 * i)) = ((q * 2 ^ (7 * i) : Nat) : Int) := by rw [Int.natCast_mul, Int.natCast_pow]; rfl
  have h2 : q * 2 ^ (7 * i) ≤ 127 * 2 ^ 56 := Nat.mul_le_mul (by omega) hp
  generalize hx : 2 ^ (7 * i) = x at *
  rw [e1]
  have e2 : IntKind.u64.wrap ((q * x : Nat) : Int) = ((q * x : Nat) : Int) := by rw [IntKind.wrap_u64]; omega
  rw [e2, u64_or_nat _ _ (by omega) (by omega), Nat.or_comm]
  have := nat_join (7 * i) (q * x) n (by rw [hx]; exact Nat.mul_mod_left q x) (by rw [hx]; exact hn)
  rw [this]
  omega

theorem orshift9 (n q : Nat) (hn : n < 2 ^ 63) (hq : q ≤ 1) : bits .or .u64 (n : Int) ((q : Int) * 9223372036854775808) = ((n + q * 2 ^ (7 * 9) : Nat) : Int) := by
  have e2 : (q : Int) * 9223372036854775808 = ((q * 9223372036854775808 : Nat) : Int) := by omega
  rw [e2, u64_or_nat _ _ (by omega) (by omega), Nat.or_comm]
  have := nat_join 63 (q * 9223372036854775808) n (by omega) (by omega)
  rw [this]
  omega

def GroupRel (w : World) (p : Nat) (inp : Value) (l : List UInt8) (e : Int) (most : Nat) (res : Except Int (Nat × Nat)) (tn ti : Value) (wr : World) : Prop :=
  ∃ i n a : Nat, i ≤ most ∧ tn = .int .u64 n ∧ ti = .int .i64 i ∧ n < 2 ^ (7 * i) ∧ Rd wr p inp l e a ∧ Touch [p] w wr ∧ res = pGroup l (most - i) i n a

def gval (x : Nat × Nat) : Value × Nat := (.int .u64 x.1, x.2)

set_option maxRecDepth 100000 in
set_option maxHeartbeats 1000000 in
theorem group_any (p : Nat) (inp : Value) (l : List UInt8) (e : Int) (a most : Nat) (w : World) (h : Rd w p inp l e a) (hm : most ≤ 10) :
    Calls Tryz.prog 62 #[.pointer (some ⟨p, 0, none⟩), .int .i64 most] w (RdPost w p inp l e ((pGroup l most 0 0 a).map gval)) := by
  have hst : GroupRel w p inp l e most (pGroup l most 0 0 a) (.int .u64 0) (.int .i64 0) w := ⟨0, 0, a, by omega, rfl, rfl, by simp, h, Touch.refl _ _, rfl⟩
  generalize pGroup l most 0 0 a = res at *
  clear h
  go_enter Tryz.func62, Tryz.ntmps62
  go_wp2_with fail
  go_loopw [5, 10] (fun tn ti wr => GroupRel w p inp l e most res tn ti wr) (fun _ t _ => most - (intOf t).toNat)
  case atStart => exact hst
  case round =>
    clear hst
    obtain ⟨i, n, a1, hi, rfl, rfl, hn, hr, ht, hres⟩ := hrel
    have HN := Lib.hid hn
    have HRes := Lib.hid hres
    clear hn hres
    by_cases hlt : i < most
    · have hlt' : (i : Int) < (most : Int) := by omega
      by_cases ha : a1 < l.length
      · have hbyte : l[a1].toNat < 256 := UInt8.toNat_lt _
        have HB := Lib.hid (show B l[a1] = .int .u8 (l[a1].toNat : Int) from rfl)
        have HA := Lib.hid (and127 l[a1].toNat hbyte)
        by_cases h9 : i = 9
        · subst h9
          go_wp2_with fail
          refine (next_ok p inp l e a1 wr hr ha).mono ?_
          rintro r w1 ⟨rfl, hr1, ht1⟩
          rw [HB.out]
          have hand := HA.out
          obtain ⟨q, hq⟩ : ∃ q, q = l[a1].toNat % 128 := ⟨_, rfl⟩
          rw [← hq] at hand
          have hq' : q < 128 := by omega
          have HQ := Lib.hid hq
          clear hq
          generalize hbb : l[a1].toNat = b at *
          have HBB := Lib.hid hbb
          clear hbb
          have htt := ht.trans ht1
          by_cases hbig : 1 < q
          · go_wp2_with fail
            refine ⟨rfl, htt, ?_⟩
            rw [HRes.out, pg_big hlt ha rfl (by rw [HBB.out, ← HQ.out]; exact hbig)]
            exact ⟨rfl, _, hr1⟩
          · have HO := Lib.hid (orshift9 n q (HN.out) (by omega))
            go_wp2_with fail
            · refine ⟨rfl, htt, ?_⟩
              rw [HRes.out, pg_zero hlt ha (by omega) (by rw [HBB.out]; omega)]
              exact ⟨rfl, _, hr1⟩
            · go_ret
              refine ⟨htt, ?_⟩
              rw [HRes.out, pg_last hlt ha (by rw [HBB.out, ← HQ.out]; omega) (by rw [HBB.out]; omega) (by rw [HBB.out]; omega)]
              refine ⟨?_, hr1⟩
              rw [HBB.out, ← HQ.out]
              exact congrArg (fun z => Ending.returned (.int .u64 z)) HO.out
            · go_roundw
              case rel =>
                rw [HO.out]
                refine ⟨10, n + q * 2 ^ (7 * 9), a1 + 1, by omega, rfl, rfl, by have := HN.out; omega, hr1, htt, ?_⟩
                rw [HRes.out, pg_more hlt ha (by rw [HBB.out, ← HQ.out]; omega) (by rw [HBB.out]; omega), HBB.out, ← HQ.out]
              case measure => simp [intOf]; omega
        · have h9' : ((i : Int) == 9) = false := by simp; omega
          go_wp2_with fail
          refine (next_ok p inp l e a1 wr hr ha).mono ?_
          rintro r w1 ⟨rfl, hr1, ht1⟩
          rw [HB.out]
          have hand := HA.out
          obtain ⟨q, hq⟩ : ∃ q, q = l[a1].toNat % 128 := ⟨_, rfl⟩
          rw [← hq] at hand
          have hq' : q < 128 := by omega
          have HQ := Lib.hid hq
          clear hq
          generalize hbb : l[a1].toNat = b at *
          have HBB := Lib.hid hbb
          clear hbb
          have htt := ht.trans ht1
          have HO := Lib.hid (orshift i n q (by omega) (HN.out) (by omega))
          go_wp2_with fail
          · refine ⟨rfl, htt, ?_⟩
            rw [HRes.out, pg_zero hlt ha (by omega) (by rw [HBB.out]; omega)]
            exact ⟨rfl, _, hr1⟩
          · go_ret
            refine ⟨htt, ?_⟩
            rw [HRes.out, pg_last hlt ha (by omega) (by rw [HBB.out]; omega) (by rw [HBB.out]; omega)]
            refine ⟨?_, hr1⟩
            rw [HBB.out, ← HQ.out]
            exact congrArg (fun z => Ending.returned (.int .u64 z)) HO.out
          · go_ret
            refine ⟨htt, ?_⟩
            rw [HRes.out, pg_last hlt ha (by omega) (by rw [HBB.out]; omega) (by rw [HBB.out]; omega)]
            refine ⟨?_, hr1⟩
            rw [HBB.out, ← HQ.out]
            exact congrArg (fun z => Ending.returned (.int .u64 z)) HO.out
          · go_roundw
            case rel =>
              rw [HO.out]
              refine ⟨i + 1, n + q * 2 ^ (7 * i), a1 + 1, by omega, rfl, by go_num, ?_, hr1, htt, ?_⟩
              · have h1 := HN.out
                rw [two_pow7]
                have h2 : q * 2 ^ (7 * i) ≤ 127 * 2 ^ (7 * i) := Nat.mul_le_mul_right _ (by omega)
                omega
              · rw [HRes.out, pg_more hlt ha (by omega) (by rw [HBB.out]; omega), HBB.out, ← HQ.out]
            case measure => simp [intOf]; omega
      · go_wp2_with fail
        refine (next_bad p inp l e a1 wr hr ha).mono ?_
        rintro r w1 ⟨rfl, hr1, ht1⟩
        unfold bad
        go_wp2_with fail
        refine ⟨rfl, ht.trans ht1, ?_⟩
        rw [HRes.out, pg_short hlt ha]
        exact ⟨rfl, _, hr1⟩
    · go_wp2_with fail
      refine ⟨rfl, ht, ?_⟩
      rw [HRes.out, pg_end hlt]
      exact ⟨rfl, _, hr⟩

end Go.Proofs.YtphpkalbbmlgoaaGreatDoor

namespace Go.Proofs.YtphpkalbbmlgoaaGreatDoor
open Go.RowKit

theorem pGroup_lt (l : List UInt8) : ∀ (f i n a : Nat) (x : Nat × Nat), i + f ≤ 9 → n < 2 ^ (7 * i) → pGroup l f i n a = .ok x → x.1 < 2 ^ (7 * (i + f)) ∧ a < x.2 ∧ x.2 ≤ l.length := by
  intro f
  induction f with
  | zero => intro i n a x _ _ h; cases h
  | succ f ih =>
    intro i n a x hi hn h
    have h2 : 2 ^ (7 * (i + 1)) = 128 * 2 ^ (7 * i) := two_pow7 i
    unfold pGroup at h
    split at h
    · cases h
    · rename_i b hb
      have hal : a < l.length := by
        rcases Nat.lt_or_ge a l.length with h1 | h1
        · exact h1
        · rw [List.getElem?_eq_none h1] at hb; cases hb
      have hq : b.toNat % 128 * 2 ^ (7 * i) ≤ 127 * 2 ^ (7 * i) := Nat.mul_le_mul_right _ (by omega)
      split at h
      · cases h
      · split at h
        · split at h
          · cases h
          · cases h
            have : 2 ^ (7 * (i + 1)) ≤ 2 ^ (7 * (i + (f + 1))) := Nat.pow_le_pow_right (by omega) (by omega)
            exact ⟨by simp only; omega, by simp only; omega, by simp only; omega⟩
        · have := ih (i + 1) _ _ x (by omega) (by omega) h
          rw [show i + 1 + f = i + (f + 1) by omega] at this
          exact ⟨this.1, by omega, this.2.2⟩

theorem pGroup9 {l : List UInt8} {a : Nat} {x : Nat × Nat} (h : pGroup l 9 0 0 a = .ok x) : x.1 < 9223372036854775808 ∧ a < x.2 ∧ x.2 ≤ l.length :=
  pGroup_lt l 9 0 0 a x (by omega) (by omega) h

def pUint (l : List UInt8) (a : Nat) : Except Int (Int × Nat) := (pGroup l 9 0 0 a).map fun x => ((x.1 : Int), x.2)

def pCount (l : List UInt8) (limit : Int) (a : Nat) : Except Int (Int × Nat) := match pGroup l 9 0 0 a with
  | .error k => .error k
  | .ok x => if limit < 0 then .error 2 else if limit < (x.1 : Int) then .error 7 else .ok ((x.1 : Int), x.2)

def ival (x : Int × Nat) : Value × Nat := (.int .i64 x.1, x.2)

theorem RdPost.err {w w' : World} {p : Nat} {inp : Value} {l : List UInt8} {e : Int} {α : Type} {res : Except Int α} {f : α → Value × Nat} {k : Int} {r : Ending} (h : RdPost w p inp l e (res.map f) r w') (hg : res = .error k) : Touch [p] w w' ∧ r = bad k ∧ ∃ a, Rd w' p inp l e a := by
  subst hg; exact h

theorem RdPost.val {w w' : World} {p : Nat} {inp : Value} {l : List UInt8} {e : Int} {α : Type} {res : Except Int α} {f : α → Value × Nat} {x : α} {r : Ending} (h : RdPost w p inp l e (res.map f) r w') (hg : res = .ok x) : Touch [p] w w' ∧ r = .returned (f x).1 ∧ Rd w' p inp l e (f x).2 := by
  subst hg; exact h

set_option maxRecDepth 100000 in
set_option maxHeartbeats 400000 in
theorem count_any (p : Nat) (inp : Value) (l : List UInt8) (e : Int) (a : Nat) (limit : Int) (w : World) (h : Rd w p inp l e a) :
    Calls Tryz.prog 60 #[.pointer (some ⟨p, 0, none⟩), .int .i64 limit] w (RdPost w p inp l e ((pCount l limit a).map ival)) := by
  cases hg : pGroup l 9 0 0 a with
  | error k =>
    rw [show pCount l limit a = .error k by unfold pCount; rw [hg]]
    have HG := Lib.hid hg
    clear hg
    go_enter Tryz.func60, Tryz.ntmps60
    go_wp2_with fail
    refine (group_any p inp l e a 9 w h (by omega)).mono ?_
    rintro r w1 hr
    obtain ⟨ht, rfl, a1, hr1⟩ := hr.err HG.out
    unfold bad
    go_wp2_with fail
    exact ⟨rfl, ht, rfl, a1, hr1⟩
  | ok x =>
    obtain ⟨n, a1⟩ := x
    have hn := (pGroup9 hg).1
    simp only at hn
    have hp : pCount l limit a = if limit < 0 then .error 2 else if limit < (n : Int) then .error 7 else .ok ((n : Int), a1) := by unfold pCount; rw [hg]
    have HG := Lib.hid hg
    have HP := Lib.hid hp
    clear hg hp
    go_enter Tryz.func60, Tryz.ntmps60
    go_wp2_with fail
    refine (group_any p inp l e a 9 w h (by omega)).mono ?_
    rintro r w1 hr
    obtain ⟨ht, rfl, hr1⟩ := hr.val HG.out
    simp only [gval] at hr1 ⊢
    clear hr
    by_cases h1 : limit < 0
    · go_wp2_with fail
      refine ⟨rfl, ht, ?_⟩
      rw [HP.out, if_pos h1]
      exact ⟨rfl, a1, hr1⟩
    · by_cases h2 : limit < (n : Int)
      · go_wp2_with fail
        refine ⟨rfl, ht, ?_⟩
        rw [HP.out, if_neg (by omega), if_pos (by omega)]
        exact ⟨rfl, a1, hr1⟩
      · go_wp2_with fail
        go_ret
        refine ⟨ht, ?_⟩
        rw [HP.out, if_neg (by omega), if_neg (by omega)]
        exact ⟨rfl, hr1⟩

theorem Reads.part {w : World} {A : Option Addr} {len cap : Nat} {xs : List Value} (h : Reads w 1 (.slice A len cap) len xs) (lo hi : Nat) (h1 : lo ≤ hi) (h2 : hi ≤ len) : Reads w 1 (sliced A lo hi cap 1) (hi - lo) ((xs.drop lo).take (hi - lo)) := by
  obtain ⟨A', cap', e, hcap, hmax, hl, hc⟩ := h
  injection e with e1 e2 e3
  subst e1 e3
  unfold sliced
  refine ⟨_, _, rfl, by omega, by omega, by simp at hl ⊢; omega, fun hn => ?_⟩
  obtain ⟨b, off, rfl, hb, hcell⟩ := hc (by omega)
  rw [if_neg (by omega)]
  refine ⟨b, off + lo, by simp [add_lit], hb, fun j u hu => ?_⟩
  rw [List.getElem?_take] at hu
  split at hu
  · rw [List.getElem?_drop] at hu
    have := hcell _ _ hu
    rwa [← Nat.add_assoc] at this
  · cases hu

theorem pCount_ok {l : List UInt8} {limit : Int} {a : Nat} {x : Int × Nat} (h : pCount l limit a = .ok x) : 0 ≤ x.1 ∧ x.1 ≤ limit ∧ x.1 < 9223372036854775808 ∧ a < x.2 ∧ x.2 ≤ l.length := by
  unfold pCount at h
  split at h
  · cases h
  · rename_i y hy
    have := pGroup9 hy
    split at h
    · cases h
    · split at h
      · cases h
      · cases h
        simp only
        omega

end Go.Proofs.YtphpkalbbmlgoaaGreatDoor

namespace Go.Proofs.YtphpkalbbmlgoaaGreatDoor
open Go.RowKit

theorem Rd.move' {w : World} {p : Nat} {inp : Value} {l : List UInt8} {e : Int} {a : Nat} (h : Rd w p inp l e a) (a' : Nat) : Blk (w.setCell ⟨p, 3, none⟩ (.int .i64 a')) p 159 #[.int .i64 e, .bool true, inp, .int .i64 a'] := by
  have := h.1.set_ 3 (.int .i64 a')
  simpa using this

theorem catch_idle (a b : Value) (w : World) :
    CallsD Tryz.prog 107 #[a, b] .returning w fun e u' w' => e = .returned (.tuple #[]) ∧ u' = .returning ∧ w' = w := by
  refine callsD_of_wpS Tryz.func107 rfl fun c₀ cs hu => ?_
  simp only [Tryz.ntmps107, List.size_toArray, List.length_cons, List.length_nil, Nat.reduceAdd, Nat.reduceSub, Array.replicate_succ, Array.replicate_zero, List.push_toArray, List.append_toArray, List.nil_append, List.cons_append]
  apply wpS_seq
  apply wpS_region
  simp [wpOpsS, go_sem, recoverD, hu, Exit.thenS]
  refine wpS_of_wp ?_
  go_wp2
  cases c₀
  simp_all [bodyPostS, results, Tryz.results107]

theorem assert_errno (k : Int) (w : World) : (Instr.typeAssert (Value.iface 27 (Value.int IntKind.i64 k)) 20 27 true).run Tryz.prog w = .ok (.tuple #[.int .i64 k, .bool true]) w := by kernel_rfl

set_option maxRecDepth 100000 in
set_option maxHeartbeats 400000 in
theorem catch_bad (p ps pr : Nat) (inp : Value) (l : List UInt8) (a start : Nat) (k : Int) (w : World) (h : Rd w p inp l 0 a) (hs : w.cell? ⟨ps, 0, none⟩ = some (.int .i64 start)) (hr : w.cell? ⟨pr, 0, none⟩ = some (.pointer (some ⟨p, 0, none⟩))) :
    CallsD Tryz.prog 107 #[.pointer (some ⟨ps, 0, none⟩), .pointer (some ⟨pr, 0, none⟩)] (.panicking [{ v := .iface 27 (.int .i64 k), recovered := false }]) w fun e u' w' =>
      e = .returned (.tuple #[]) ∧ u' = .panicking [{ v := .iface 27 (.int .i64 k), recovered := true }] ∧ w' = (w.setCell ⟨p, 3, none⟩ (.int .i64 start)).setCell ⟨p, 0, none⟩ (.int .i64 k) := by
  have h3 := h.1.cell 3
  have hf := h.1.frozen 3
  simp at h3
  have hta := assert_errno k
  have hr2 : (w.setCell ⟨p, 3, none⟩ (.int .i64 start)).cell? ⟨pr, 0, none⟩ = some (.pointer (some ⟨p, 0, none⟩)) := by
    rw [World.cell?_setCell_other _ _ _ _ (by simp)]
    exact hr
  have hm := h.move' start
  refine callsD_of_wpS Tryz.func107 rfl fun c₀ cs hu => ?_
  simp only [Tryz.ntmps107, List.size_toArray, List.length_cons, List.length_nil, Nat.reduceAdd, Nat.reduceSub, Array.replicate_succ, Array.replicate_zero, List.push_toArray, List.append_toArray, List.nil_append, List.cons_append]
  apply wpS_seq
  apply wpS_region
  simp [wpOpsS, go_sem, recoverD, hu, Exit.thenS]
  refine wpS_of_wp ?_
  go_wp2_with fail
  refine (note_first p _ _ k _ hm (by simp)).mono ?_
  rintro r w' ⟨rfl, rfl⟩
  go_wp2
  cases c₀
  simp_all [bodyPostS, results, Tryz.results107]

set_option maxRecDepth 100000 in
set_option maxHeartbeats 400000 in
theorem valid_any (p : Nat) (t : TypeId) (cs : Array Value) (b : Bool) (w : World) (hb : Blk w p t cs) (h1 : cs[1]? = some (.bool b)) :
    Calls Tryz.prog 63 #[.pointer (some ⟨p, 0, none⟩)] w fun r w' => r = .returned (.bool b) ∧ w = w' := by
  have hc := hb.cell 1
  rw [h1] at hc
  clear h1
  go_enter Tryz.func63, Tryz.ntmps63
  go_wp2
  go_ret
  exact ⟨rfl, rfl⟩

theorem valid_nil (w : World) : Calls Tryz.prog 63 #[.pointer none] w fun r w' => r = .returned (.bool false) ∧ w = w' := by
  go_enter Tryz.func63, Tryz.ntmps63
  go_wp2
  go_ret
  exact ⟨rfl, rfl⟩

theorem Rd.valid {w : World} {p : Nat} {inp : Value} {l : List UInt8} {e : Int} {a : Nat} (h : Rd w p inp l e a) : Calls Tryz.prog 63 #[.pointer (some ⟨p, 0, none⟩)] w fun r w' => r = .returned (.bool true) ∧ w = w' :=
  valid_any p _ _ true w h.1 (by simp)

def ClPost (w : World) (p : Nat) (inp : Value) (l : List UInt8) (C : List Nat) (res : Except Int Nat) (G : World → Prop) (r : Ending) (w' : World) : Prop := match res with
  | .ok a' => r = .returned (.tuple #[]) ∧ Rd w' p inp l 0 a' ∧ Touch (p :: C) w w' ∧ G w'
  | .error k => r = bad k ∧ (∃ a', Rd w' p inp l 0 a') ∧ Touch [p] w w'

def ValPost (w : World) (p : Nat) (inp : Value) (l : List UInt8) (a : Nat) (C : List Nat) (res : Except Int Nat) (G : World → Prop) (r : Ending) (w' : World) : Prop := r = .returned (.tuple #[]) ∧ match res with
  | .ok a' => Rd w' p inp l 0 a' ∧ Touch (p :: C) w w' ∧ G w'
  | .error k => Rd w' p inp l k a ∧ Touch [p] w w'

theorem make_func : ∀ (fn : Fn) (first cap : Array Value) (w : World), (Instr.makeFunc fn first cap).run Tryz.prog w = .ok (.func fn first cap) w := fun _ _ _ _ => rfl

set_option maxRecDepth 100000 in
set_option maxHeartbeats 400000 in
theorem value_any (p : Nat) (inp : Value) (l : List UInt8) (a : Nat) (F : FuncId) (caps : Array Value) (C : List Nat) (res : Except Int Nat) (G : World → Prop) (w : World) (h : Rd w p inp l 0 a)
    (hF : ∀ W, (callFunc F caps).run Tryz.prog W = .ok (.enter F caps) W) (hcl : ∀ w1, Touch [] w w1 → Calls Tryz.prog F caps w1 (ClPost w1 p inp l C res G)) :
    Calls Tryz.prog 58 #[.pointer (some ⟨p, 0, none⟩), .func (.func F) #[] caps] w (ValPost w p inp l a C res G) := by
  have HC := Lib.hid hcl
  clear hcl
  have hmf := make_func
  have hp := h.1.lt
  have hin : ∀ b ∈ rb inp, b ∉ ([] : List Nat) := fun _ _ => by simp
  have h1 := h.touch ((Touch.refl [] w).alloc (.cells #[.pointer (some ⟨p, 0, none⟩)] 103)) (by simp) hin
  have h0 := h1.1.cell 0
  have h3 := h1.1.cell 3
  simp at h0 h3
  clear hin
  go_enter_defers Tryz.func58, Tryz.ntmps58
  go_wp2_with fail
  refine (h1.valid).mono ?_
  rintro r w' ⟨rfl, rfl⟩
  go_wp2_with fail
  have ht2 : Touch [] w ((w.alloc (.cells #[.pointer (some ⟨p, 0, none⟩)] 103)).alloc (.cells #[.int .i64 (a : Int)] 3)) := ((Touch.refl [] w).alloc _).alloc _
  have hbr : Blk ((w.alloc (.cells #[.pointer (some ⟨p, 0, none⟩)] 103)).alloc (.cells #[.int .i64 (a : Int)] 3)) w.heap.size 103 #[.pointer (some ⟨p, 0, none⟩)] := (Blk.new _ _ _).alloc _
  have hbs : Blk ((w.alloc (.cells #[.pointer (some ⟨p, 0, none⟩)] 103)).alloc (.cells #[.int .i64 (a : Int)] 3)) (w.heap.size + 1) 3 #[.int .i64 (a : Int)] := by
    have := Blk.new (w.alloc (.cells #[.pointer (some ⟨p, 0, none⟩)] 103)) 3 #[.int .i64 (a : Int)]
    simpa using this
  generalize (w.alloc (.cells #[.pointer (some ⟨p, 0, none⟩)] 103)).alloc (.cells #[.int .i64 (a : Int)] 3) = w2 at *
  refine ((HC.out) w2 ht2).mono ?_
  clear h0 h3 h1
  intro r w3 hr
  cases res with
  | error k =>
    obtain ⟨rfl, ⟨a', hr'⟩, ht3⟩ := hr
    unfold bad
    have c1 := (hbr.touch ht3 (by simp; omega)).cell 0
    have c2 := (hbs.touch ht3 (by simp; omega)).cell 0
    simp at c1 c2
    go_wp2_with fail
    refine leaves_cons (f := 107) (args := #[.pointer (some ⟨w.heap.size + 1, 0, none⟩), .pointer (some ⟨w.heap.size, 0, none⟩)]) (by simp) (by simp [go_sem]) ?_
    refine (catch_bad p (w.heap.size + 1) w.heap.size inp l a' a k w3 hr' c2 c1).mono ?_
    rintro e u' w4 ⟨rfl, rfl, rfl⟩
    have hend : ValPost w p inp l a C (.error k) G (.returned (.tuple #[])) ((w3.setCell ⟨p, 3, none⟩ (.int .i64 a)).setCell ⟨p, 0, none⟩ (.int .i64 k)) :=
      ⟨rfl, (hr'.move a h.2.2.2.1).note k, ((((Touch.refl [p] w).then0 ht2).trans ht3).setCell (.inl (by simp)) _).setCell (.inl (by simp)) _⟩
    have HE := Lib.hid hend
    clear hend
    simp [Leaves, settle, results, Tryz.results58, go_sem]
    exact HE.out
  | ok a' =>
    obtain ⟨rfl, hr', ht3, hG⟩ := hr
    have hend : ValPost w p inp l a C (.ok a') G (.returned (.tuple #[])) w3 :=
      ⟨rfl, hr', ((Touch.refl (p :: C) w).then0 ht2).trans ht3, hG⟩
    have HE := Lib.hid hend
    clear hend hG
    go_wp2_with fail
    refine leaves_cons (f := 107) (args := #[.pointer (some ⟨w.heap.size + 1, 0, none⟩), .pointer (some ⟨w.heap.size, 0, none⟩)]) (by simp) (by simp [go_sem]) ?_
    refine (catch_idle _ _ w3).mono ?_
    rintro e u' w4 ⟨rfl, rfl, rfl⟩
    simp [Leaves, settle, results, Tryz.results58, go_sem]
    exact HE.out

set_option maxRecDepth 100000 in
set_option maxHeartbeats 400000 in

theorem value_err (p : Nat) (inp : Value) (l : List UInt8) (e : Int) (a : Nat) (f : Value) (w : World) (h : Rd w p inp l e a) (he : ¬ e = 0) :
    Calls Tryz.prog 58 #[.pointer (some ⟨p, 0, none⟩), f] w fun r w' => r = .returned (.tuple #[]) ∧ Touch [] w w' := by
  have hp := h.1.lt
  have hin : ∀ b ∈ rb inp, b ∉ ([] : List Nat) := fun _ _ => by simp
  have h1 := h.touch ((Touch.refl [] w).alloc (.cells #[.pointer (some ⟨p, 0, none⟩)] 103)) (by simp) hin
  have h0 := h1.1.cell 0
  simp at h0
  clear hin
  have he' : (e != 0) = true := by simpa using he
  go_enter_defers Tryz.func58, Tryz.ntmps58
  go_wp2_with fail
  refine (h1.valid).mono ?_
  rintro r w' ⟨rfl, rfl⟩
  go_wp2_with fail
  simp [bodyPostD, Leaves, results, Tryz.results58, go_sem]
  exact (Touch.refl [] w).alloc _

set_option maxRecDepth 100000 in
set_option maxHeartbeats 400000 in
theorem value_nil (f : Value) (w : World) :
    Calls Tryz.prog 58 #[.pointer none, f] w fun r w' => r = .returned (.tuple #[]) ∧ Touch [] w w' := by
  go_enter_defers Tryz.func58, Tryz.ntmps58
  go_wp2_with fail
  refine (valid_nil _).mono ?_
  rintro r w' ⟨rfl, rfl⟩
  go_wp2_with fail
  simp [bodyPostD, Leaves, results, Tryz.results58, go_sem]
  exact (Touch.refl [] w).alloc _

set_option maxRecDepth 100000 in
set_option maxHeartbeats 400000 in
theorem value_zero (p : Nat) (t : TypeId) (cs : Array Value) (f : Value) (w : World) (hb : Blk w p t cs) (h1 : cs[1]? = some (.bool false)) :
    Calls Tryz.prog 58 #[.pointer (some ⟨p, 0, none⟩), f] w fun r w' => r = .returned (.tuple #[]) ∧ Touch [] w w' := by
  have H1 := Lib.hid h1
  clear h1
  go_enter_defers Tryz.func58, Tryz.ntmps58
  go_wp2_with fail
  refine (valid_any p t cs false _ (hb.alloc _) H1.out).mono ?_
  rintro r w' ⟨rfl, rfl⟩
  go_wp2_with fail
  simp [bodyPostD, Leaves, results, Tryz.results58, go_sem]
  exact (Touch.refl [] w).alloc _

end Go.Proofs.YtphpkalbbmlgoaaGreatDoor

namespace Go.Proofs.YtphpkalbbmlgoaaGreatDoor
open Go.RowKit

def rRead {α : Type} (zero : α) (res : Nat → Except Int (α × Nat)) (s : Int × Nat) : α × (Int × Nat) :=
  if s.1 = 0 then (match res s.2 with | .ok x => (x.1, (0, x.2)) | .error k => (zero, (k, s.2))) else (zero, s)

def RdOut (w : World) (p : Nat) (inp : Value) (l : List UInt8) (v : Value) (s' : Int × Nat) (r : Ending) (w' : World) : Prop := r = .returned v ∧ Rd w' p inp l s'.1 s'.2 ∧ Touch [p] w w'

theorem Rd.store {w : World} {p : Nat} {inp : Value} {l : List UInt8} {e : Int} {a : Nat} (h : Rd w p inp l e a) {c : Nat} (hp : c ≠ p) (hi : c ∉ rb inp) (o : Nat) (u : Value) : Rd (w.setCell ⟨c, o, none⟩ u) p inp l e a :=
  h.touch ((Touch.refl [c] w).setCell (.inl (by simp)) _) (by simp; omega) (fun b hb hm => by simp at hm; subst hm; exact hi hb)

set_option maxRecDepth 100000 in
set_option maxHeartbeats 400000 in
theorem uint_cl (p N c : Nat) (inp : Value) (l : List UInt8) (a : Nat) (w : World) (h : Rd w p inp l 0 a) (hN : Blk w N 103 #[.pointer (some ⟨p, 0, none⟩)]) (hc : Blk w c 3 #[.int .i64 0]) (hp : c ≠ p) (hi : c ∉ rb inp) :
    Calls Tryz.prog 61 #[.pointer (some ⟨N, 0, none⟩), .pointer (some ⟨c, 0, none⟩)] w (ClPost w p inp l [c] ((pUint l  a).map (·.2)) fun w' => ∀ x, pUint l  a = .ok x → Blk w' c 3 #[.int .i64 x.1]) := by
  have c0 := hN.cell 0
  simp at c0
  cases hg : pGroup l 9 0 0 a with
  | error k =>
    have e1 : pUint l  a = .error k := by unfold pUint; rw [hg]; rfl
    first | rw [e1] | skip
    have HG := Lib.hid hg
    clear hg e1
    go_enter Tryz.func61, Tryz.ntmps61
    go_wp2_with fail
    refine (group_any p inp l 0 a 9 w h (by omega)).mono ?_
    rintro r w1 hr
    obtain ⟨ht, rfl, a1, hr1⟩ := hr.err HG.out
    unfold bad
    go_wp2_with fail
    exact ⟨rfl, rfl, ⟨a1, hr1⟩, ht⟩
  | ok x =>
    obtain ⟨n, a1⟩ := x
    have hn := (pGroup9 hg).1
    simp only at hn
    have e1 : pUint l  a = .ok ((n : Int), a1) := by unfold pUint; rw [hg]; rfl
    first | rw [e1] | skip
    have HG := Lib.hid hg
    clear hg e1
    go_enter Tryz.func61, Tryz.ntmps61
    go_wp2_with fail
    refine (group_any p inp l 0 a 9 w h (by omega)).mono ?_
    rintro r w1 hr
    obtain ⟨ht, rfl, hr1⟩ := hr.val HG.out
    simp only [gval] at hr1 ⊢
    clear hr
    have hc1 := hc.touch ht (by simpa using hp)
    have c1 := hc1.cell 0
    have c2 := hc1.frozen 0
    simp at c1
    go_wp2_with fail
    go_end0
    refine ⟨rfl, hr1.store hp hi _ _, (ht.mono (by simp)).setCell (.inl (by simp)) _, fun x hx => ?_⟩
    cases hx
    have := hc1.set_ 0 (.int .i64 ((n : Int)))
    simpa using this

set_option maxRecDepth 100000 in
set_option maxHeartbeats 400000 in
theorem rd_uint (p : Nat) (inp : Value) (l : List UInt8) (s : Int × Nat) (w : World) (h : Rd w p inp l s.1 s.2) :
    Calls Tryz.prog 29 #[.pointer (some ⟨p, 0, none⟩)] w (RdOut w p inp l (.int .i64 (rRead 0 (pUint l ) s).1) (rRead 0 (pUint l ) s).2) := by
  obtain ⟨e, a⟩ := s
  simp only at h
  have hmf := make_func
  have hp := h.1.lt
  have hi := Lib.hid h.2.2.2.2.1
  have ht2 : Touch [] w ((w.alloc (.cells #[.pointer (some ⟨p, 0, none⟩)] 103)).alloc (.cells #[.int .i64 0] 3)) := ((Touch.refl [] w).alloc _).alloc _
  have hN : Blk ((w.alloc (.cells #[.pointer (some ⟨p, 0, none⟩)] 103)).alloc (.cells #[.int .i64 0] 3)) w.heap.size 103 #[.pointer (some ⟨p, 0, none⟩)] := (Blk.new _ _ _).alloc _
  have hc : Blk ((w.alloc (.cells #[.pointer (some ⟨p, 0, none⟩)] 103)).alloc (.cells #[.int .i64 0] 3)) (w.heap.size + 1) 3 #[.int .i64 0] := by
    have := Blk.new (w.alloc (.cells #[.pointer (some ⟨p, 0, none⟩)] 103)) 3 #[.int .i64 0]
    simpa using this
  have h2 := h.touch ht2 (by simp) (fun _ _ => by simp)
  by_cases he : e = 0
  · subst he
    go_enter Tryz.func29, Tryz.ntmps29
    go_wp2_with fail
    generalize (w.alloc (.cells #[.pointer (some ⟨p, 0, none⟩)] 103)).alloc (.cells #[.int .i64 0] 3) = w2 at *
    refine (value_any p inp l a 61 _ [(w.heap.size + 1)] ((pUint l  a).map (·.2)) (fun w' => ∀ x, pUint l  a = .ok x → Blk w' (w.heap.size + 1) 3 #[.int .i64 x.1]) w2 h2 (fun W => by simp [go_sem]) (fun w1 ht1 => ?_)).mono ?_
    · exact uint_cl p w.heap.size (w.heap.size + 1)  inp l a  w1 (h2.touch ht1 (by simp) (fun _ _ => by simp)) (hN.touch ht1 (by simp)) (hc.touch ht1 (by simp)) (by omega) (fun hm => by have := hi.out _ hm; omega)
    rintro r w3 ⟨rfl, hr⟩
    cases hu : pUint l  a with
    | error k =>
      rw [hu] at hr
      obtain ⟨hr1, ht3⟩ := hr
      have e1 : rRead 0 (pUint l ) (0, a) = (0, (k, a)) := by unfold rRead; simp only [if_true]; rw [hu]
      have HE := Lib.hid e1
      have c1 := (hc.touch ht3 (by simp; omega)).cell 0
      simp at c1
      clear hu e1
      go_wp2_with fail
      go_ret
      rw [HE.out]
      exact ⟨rfl, hr1, ((Touch.refl [p] w).then0 ht2).trans ht3⟩
    | ok x =>
      rw [hu] at hr
      obtain ⟨hr1, ht3, hG⟩ := hr
      have e1 : rRead 0 (pUint l ) (0, a) = (x.1, (0, x.2)) := by unfold rRead; simp only [if_true]; rw [hu]
      have HE := Lib.hid e1
      have c1 := (hG x rfl).cell 0
      simp at c1
      clear hu e1 hG
      go_wp2_with fail
      go_ret
      rw [HE.out]
      exact ⟨rfl, hr1, ((Touch.refl [p] w).then0 ht2).step ht3 (by simp)⟩
  · have e1 : rRead 0 (pUint l ) (e, a) = (0, (e, a)) := by unfold rRead; rw [if_neg he]
    have HE := Lib.hid e1
    clear e1
    go_enter Tryz.func29, Tryz.ntmps29
    go_wp2_with fail
    generalize (w.alloc (.cells #[.pointer (some ⟨p, 0, none⟩)] 103)).alloc (.cells #[.int .i64 0] 3) = w2 at *
    refine (value_err p inp l e a _ w2 h2 he).mono ?_
    rintro r w3 ⟨rfl, ht3⟩
    have c1 := (hc.touch ht3 (by simp)).cell 0
    simp at c1
    go_wp2_with fail
    go_ret
    rw [HE.out]
    exact ⟨rfl, h2.touch ht3 (by simp) (fun _ _ => by simp), ((Touch.refl [p] w).then0 ht2).then0 ht3⟩

set_option maxRecDepth 100000 in
set_option maxHeartbeats 400000 in
theorem count_cl (p N c L : Nat) (inp : Value) (l : List UInt8) (a : Nat) (limit : Int) (w : World) (h : Rd w p inp l 0 a) (hN : Blk w N 103 #[.pointer (some ⟨p, 0, none⟩)]) (hL : Blk w L 3 #[.int .i64 limit]) (hc : Blk w c 3 #[.int .i64 0]) (hp : c ≠ p) (hi : c ∉ rb inp) :
    Calls Tryz.prog 59 #[.pointer (some ⟨N, 0, none⟩), .pointer (some ⟨L, 0, none⟩), .pointer (some ⟨c, 0, none⟩)] w (ClPost w p inp l [c] ((pCount l limit a).map (·.2)) fun w' => ∀ x, pCount l limit a = .ok x → Blk w' c 3 #[.int .i64 x.1]) := by
  have c0 := hN.cell 0
  simp at c0
  have cL := hL.cell 0
  simp at cL
  cases hg : pCount l limit a with
  | error k =>
    have e1 : pCount l limit a = .error k := by exact hg
    first | rw [e1] | skip
    have HG := Lib.hid hg
    clear hg e1
    go_enter Tryz.func59, Tryz.ntmps59
    go_wp2_with fail
    refine (count_any p inp l 0 a limit w h).mono ?_
    rintro r w1 hr
    obtain ⟨ht, rfl, a1, hr1⟩ := hr.err HG.out
    unfold bad
    go_wp2_with fail
    exact ⟨rfl, rfl, ⟨a1, hr1⟩, ht⟩
  | ok x =>
    obtain ⟨n, a1⟩ := x
    have e1 : pCount l limit a = .ok (n, a1) := by exact hg
    first | rw [e1] | skip
    have HG := Lib.hid hg
    clear hg e1
    go_enter Tryz.func59, Tryz.ntmps59
    go_wp2_with fail
    refine (count_any p inp l 0 a limit w h).mono ?_
    rintro r w1 hr
    obtain ⟨ht, rfl, hr1⟩ := hr.val HG.out
    simp only [ival] at hr1 ⊢
    clear hr
    have hc1 := hc.touch ht (by simpa using hp)
    have c1 := hc1.cell 0
    have c2 := hc1.frozen 0
    simp at c1
    go_wp2_with fail
    go_end0
    refine ⟨rfl, hr1.store hp hi _ _, (ht.mono (by simp)).setCell (.inl (by simp)) _, fun x hx => ?_⟩
    cases hx
    have := hc1.set_ 0 (.int .i64 (n))
    simpa using this

set_option maxRecDepth 100000 in
set_option maxHeartbeats 400000 in
theorem rd_count (p : Nat) (inp : Value) (l : List UInt8) (s : Int × Nat) (limit : Int) (w : World) (h : Rd w p inp l s.1 s.2) :
    Calls Tryz.prog 28 #[.pointer (some ⟨p, 0, none⟩), .int .i64 limit] w (RdOut w p inp l (.int .i64 (rRead 0 (pCount l limit) s).1) (rRead 0 (pCount l limit) s).2) := by
  obtain ⟨e, a⟩ := s
  simp only at h
  have hmf := make_func
  have hp := h.1.lt
  have hi := Lib.hid h.2.2.2.2.1
  have ht2 : Touch [] w (((w.alloc (.cells #[.pointer (some ⟨p, 0, none⟩)] 103)).alloc (.cells #[.int .i64 limit] 3)).alloc (.cells #[.int .i64 0] 3)) := (((Touch.refl [] w).alloc _).alloc _).alloc _
  have hN : Blk (((w.alloc (.cells #[.pointer (some ⟨p, 0, none⟩)] 103)).alloc (.cells #[.int .i64 limit] 3)).alloc (.cells #[.int .i64 0] 3)) w.heap.size 103 #[.pointer (some ⟨p, 0, none⟩)] := ((Blk.new _ _ _).alloc _).alloc _
  have hL : Blk (((w.alloc (.cells #[.pointer (some ⟨p, 0, none⟩)] 103)).alloc (.cells #[.int .i64 limit] 3)).alloc (.cells #[.int .i64 0] 3)) (w.heap.size + 1) 3 #[.int .i64 limit] := by
    have := (Blk.new (w.alloc (.cells #[.pointer (some ⟨p, 0, none⟩)] 103)) 3 #[.int .i64 limit]).alloc (.cells #[.int .i64 0] 3)
    simpa using this
  have hc : Blk (((w.alloc (.cells #[.pointer (some ⟨p, 0, none⟩)] 103)).alloc (.cells #[.int .i64 limit] 3)).alloc (.cells #[.int .i64 0] 3)) (w.heap.size + 2) 3 #[.int .i64 0] := by
    have := Blk.new ((w.alloc (.cells #[.pointer (some ⟨p, 0, none⟩)] 103)).alloc (.cells #[.int .i64 limit] 3)) 3 #[.int .i64 0]
    simpa using this
  have h2 := h.touch ht2 (by simp) (fun _ _ => by simp)
  by_cases he : e = 0
  · subst he
    go_enter Tryz.func28, Tryz.ntmps28
    go_wp2_with fail
    generalize ((w.alloc (.cells #[.pointer (some ⟨p, 0, none⟩)] 103)).alloc (.cells #[.int .i64 limit] 3)).alloc (.cells #[.int .i64 0] 3) = w2 at *
    refine (value_any p inp l a 59 _ [(w.heap.size + 2)] ((pCount l limit a).map (·.2)) (fun w' => ∀ x, pCount l limit a = .ok x → Blk w' (w.heap.size + 2) 3 #[.int .i64 x.1]) w2 h2 (fun W => by simp [go_sem]) (fun w1 ht1 => ?_)).mono ?_
    · exact count_cl p w.heap.size (w.heap.size + 2) (w.heap.size + 1) inp l a limit w1 (h2.touch ht1 (by simp) (fun _ _ => by simp)) (hN.touch ht1 (by simp)) (hL.touch ht1 (by simp)) (hc.touch ht1 (by simp)) (by omega) (fun hm => by have := hi.out _ hm; omega)
    rintro r w3 ⟨rfl, hr⟩
    cases hu : pCount l limit a with
    | error k =>
      rw [hu] at hr
      obtain ⟨hr1, ht3⟩ := hr
      have e1 : rRead 0 (pCount l limit) (0, a) = (0, (k, a)) := by unfold rRead; simp only [if_true]; rw [hu]
      have HE := Lib.hid e1
      have c1 := (hc.touch ht3 (by simp; omega)).cell 0
      simp at c1
      clear hu e1
      go_wp2_with fail
      go_ret
      rw [HE.out]
      exact ⟨rfl, hr1, ((Touch.refl [p] w).then0 ht2).trans ht3⟩
    | ok x =>
      rw [hu] at hr
      obtain ⟨hr1, ht3, hG⟩ := hr
      have e1 : rRead 0 (pCount l limit) (0, a) = (x.1, (0, x.2)) := by unfold rRead; simp only [if_true]; rw [hu]
      have HE := Lib.hid e1
      have c1 := (hG x rfl).cell 0
      simp at c1
      clear hu e1 hG
      go_wp2_with fail
      go_ret
      rw [HE.out]
      exact ⟨rfl, hr1, ((Touch.refl [p] w).then0 ht2).step ht3 (by simp)⟩
  · have e1 : rRead 0 (pCount l limit) (e, a) = (0, (e, a)) := by unfold rRead; rw [if_neg he]
    have HE := Lib.hid e1
    clear e1
    go_enter Tryz.func28, Tryz.ntmps28
    go_wp2_with fail
    generalize ((w.alloc (.cells #[.pointer (some ⟨p, 0, none⟩)] 103)).alloc (.cells #[.int .i64 limit] 3)).alloc (.cells #[.int .i64 0] 3) = w2 at *
    refine (value_err p inp l e a _ w2 h2 he).mono ?_
    rintro r w3 ⟨rfl, ht3⟩
    have c1 := (hc.touch ht3 (by simp)).cell 0
    simp at c1
    go_wp2_with fail
    go_ret
    rw [HE.out]
    exact ⟨rfl, h2.touch ht3 (by simp) (fun _ _ => by simp), ((Touch.refl [p] w).then0 ht2).then0 ht3⟩

end Go.Proofs.YtphpkalbbmlgoaaGreatDoor
