/- The reader of package wire: bytes and groups. -/
import Derived.Test.YtpbknnkobhjjcaaWriter4
namespace Go.Proofs.Ytpbknnkobhjjcaa
open Go.RowKit

/-- A reader in block p over the bytes l. -/
def Rd (w : World) (p : Nat) (inp : Value) (l : List UInt8) (e : Int) (a : Nat) : Prop :=
  Blk w p 78 #[.int .i64 e, .bool true, inp, .int .i64 a] ∧ Bytes w inp l ∧ p ∉ rb inp ∧ a ≤ l.length ∧ (∀ b ∈ rb inp, b < w.heap.size) ∧ l.length ≤ 1099511627776
theorem Rd.drewN {w : World} {p : Nat} {inp : Value} {l : List UInt8} {e : Int} {a : Nat} (h : Rd w p inp l e a) (n : Nat) : Rd (w.drewN n) p inp l e a := ⟨h.1, h.2.1.touch0 ((Touch.refl _ _).drewN n), h.2.2⟩
theorem Rd.touch {w w' : World} {p : Nat} {inp : Value} {l : List UInt8} {e : Int} {a : Nat} {L : List Nat} (h : Rd w p inp l e a) (ht : Touch L w w') (hp : p ∉ L) (hi : ∀ b ∈ rb inp, b ∉ L) : Rd w' p inp l e a :=
  ⟨h.1.touch ht hp, Reads.touch h.2.1 ht hi, h.2.2.1, h.2.2.2.1, fun b hb => Nat.lt_of_lt_of_le (h.2.2.2.2.1 b hb) ht.size, h.2.2.2.2.2⟩
theorem Rd.move {w : World} {p : Nat} {inp : Value} {l : List UInt8} {e : Int} {a : Nat} (h : Rd w p inp l e a) (a' : Nat) (ha : a' ≤ l.length) : Rd (w.setCell ⟨p, 3, none⟩ (.int .i64 a')) p inp l e a' := by
  refine ⟨?_, Reads.touch h.2.1 ((Touch.refl [p] w).setCell (.inl (by simp)) _) (fun b hb hm => ?_), h.2.2.1, ha, fun b hb => by simpa [World.setCell] using h.2.2.2.2.1 b hb, h.2.2.2.2.2⟩
  · have := h.1.set_ 3 (.int .i64 a')
    simpa using this
  · simp at hm; subst hm; exact h.2.2.1 hb
theorem Rd.note {w : World} {p : Nat} {inp : Value} {l : List UInt8} {e : Int} {a : Nat} (h : Rd w p inp l e a) (k : Int) : Rd (w.setCell ⟨p, 0, none⟩ (.int .i64 k)) p inp l k a := by
  refine ⟨?_, Reads.touch h.2.1 ((Touch.refl [p] w).setCell (.inl (by simp)) _) (fun b hb hm => ?_), h.2.2.1, h.2.2.2.1, fun b hb => by simpa [World.setCell] using h.2.2.2.2.1 b hb, h.2.2.2.2.2⟩
  · have := h.1.set_ 0 (.int .i64 k)
    simpa using this
  · simp at hm; subst hm; exact h.2.2.1 hb

/-- The panic with an error of the layer. -/
def bad (k : Int) : Ending := .panicked [{ v := .iface 25 (.int .i64 k), recovered := false }]
/-- What a function of the reader that may panic leaves. -/
def RdPost (w : World) (p : Nat) (inp : Value) (l : List UInt8) (e : Int) (res : Except Int (Value × Nat)) (r : Ending) (w' : World) : Prop :=
  Touch [p] w w' ∧ match res with
    | .ok (v, a) => r = .returned v ∧ Rd w' p inp l e a
    | .error k => r = bad k ∧ ∃ a, Rd w' p inp l e a

def pNext (l : List UInt8) (a : Nat) : Except Int (UInt8 × Nat) := match l[a]? with | some b => .ok (b, a + 1) | none => .error 4

set_option maxRecDepth 100000 in
set_option maxHeartbeats 400000 in
theorem next_ok (p : Nat) (inp : Value) (l : List UInt8) (e : Int) (a : Nat) (w : World) (h : Rd w p inp l e a) (ha : a < l.length) :
    Calls Try.prog 90 #[.pointer (some ⟨p, 0, none⟩)] w fun r w' => r = .returned (B l[a]) ∧ Rd w' p inp l e (a + 1) ∧ Touch [p] w w' := by
  have h2 := h.1.cell 2
  have h3 := h.1.cell 3
  have hf := h.1.frozen 3
  simp at h2 h3
  obtain ⟨A, cap, rfl, hcap, hmax, _, hcells⟩ := id h.2.1
  unfold maxLen at hmax
  obtain ⟨b, off, rfl, hb, hc⟩ := hcells (by omega)
  have hca : w.cell? ⟨b, off + a, none⟩ = some (.int .u8 (l[a].toNat : Int)) := hc a _ (by simp [B, ha])
  clear hc hcells
  have hlt : ¬ (l.length : Int) ≤ (a : Int) := by omega
  have hlt2 : (a : Int) < (l.length : Int) := by omega
  go_enter Try.func90, Try.ntmps90
  go_wp2_with fail
  go_quiet (fail)
  go_wp2_with fail
  go_quiet (fail)
  go_wp2_with fail
  go_ret
  refine ⟨rfl, ?_, ?_⟩
  · exact (h.move (a + 1) ha).drewN _
  · exact ((Touch.refl [p] w).setCell (.inl (by simp)) _).drewN _

set_option maxRecDepth 100000 in
set_option maxHeartbeats 400000 in
theorem next_bad (p : Nat) (inp : Value) (l : List UInt8) (e : Int) (a : Nat) (w : World) (h : Rd w p inp l e a) (ha : ¬ a < l.length) :
    Calls Try.prog 90 #[.pointer (some ⟨p, 0, none⟩)] w fun r w' => r = bad 4 ∧ Rd w' p inp l e a ∧ Touch [p] w w' := by
  have h2 := h.1.cell 2
  have h3 := h.1.cell 3
  simp at h2 h3
  obtain ⟨A, cap, rfl, hcap, hmax, _, hcells⟩ := id h.2.1
  clear hcells
  have hlt : (l.length : Int) ≤ (a : Int) := by omega
  go_enter Try.func90, Try.ntmps90
  go_wp2_with fail
  go_quiet (fail)
  go_wp2_with fail
  exact ⟨rfl, rfl, h.drewN _, (Touch.refl _ _).drewN _⟩

/-- A group encoding of at most f more bytes, i bytes of which have been read as n. -/
def pGroup (l : List UInt8) : Nat → Nat → Nat → Nat → Except Int (Nat × Nat)
  | 0, _, _, _ => .error 6
  | f + 1, i, n, a => match l[a]? with
    | none => .error 4
    | some b => if i = 9 ∧ 1 < b.toNat % 128 then .error 6
      else if b.toNat < 128 then (if b.toNat = 0 ∧ 0 < i then .error 6 else .ok (n + b.toNat % 128 * 2 ^ (7 * i), a + 1))
      else pGroup l f (i + 1) (n + b.toNat % 128 * 2 ^ (7 * i)) (a + 1)

section
variable {l : List UInt8} {most i n a : Nat}
theorem pg_step (hlt : i < most) : pGroup l (most - i) i n a = match l[a]? with
    | none => .error 4
    | some b => if i = 9 ∧ 1 < b.toNat % 128 then .error 6
      else if b.toNat < 128 then (if b.toNat = 0 ∧ 0 < i then .error 6 else .ok (n + b.toNat % 128 * 2 ^ (7 * i), a + 1))
      else pGroup l (most - (i + 1)) (i + 1) (n + b.toNat % 128 * 2 ^ (7 * i)) (a + 1) := by
  rw [show most - i = (most - (i + 1)) + 1 by omega]
  rfl
theorem pg_short (hlt : i < most) (ha : ¬ a < l.length) : pGroup l (most - i) i n a = .error 4 := by
  rw [pg_step hlt, List.getElem?_eq_none (by omega)]
theorem pg_big (hlt : i < most) (ha : a < l.length) (h9 : i = 9) (hb : 1 < l[a].toNat % 128) : pGroup l (most - i) i n a = .error 6 := by
  rw [pg_step hlt, List.getElem?_eq_getElem ha]
  simp only
  rw [if_pos ⟨h9, hb⟩]
theorem pg_zero (hlt : i < most) (ha : a < l.length) (hi : 0 < i) (hb : l[a].toNat = 0) : pGroup l (most - i) i n a = .error 6 := by
  rw [pg_step hlt, List.getElem?_eq_getElem ha]
  simp only
  rw [if_neg (by omega), if_pos (by omega), if_pos ⟨hb, hi⟩]
theorem pg_last (hlt : i < most) (ha : a < l.length) (h9 : ¬ (i = 9 ∧ 1 < l[a].toNat % 128)) (h0 : ¬ (l[a].toNat = 0 ∧ 0 < i)) (hb : l[a].toNat < 128) : pGroup l (most - i) i n a = .ok (n + l[a].toNat % 128 * 2 ^ (7 * i), a + 1) := by
  rw [pg_step hlt, List.getElem?_eq_getElem ha]
  simp only
  rw [if_neg h9, if_pos hb, if_neg h0]
theorem pg_more (hlt : i < most) (ha : a < l.length) (h9 : ¬ (i = 9 ∧ 1 < l[a].toNat % 128)) (hb : 128 ≤ l[a].toNat) : pGroup l (most - i) i n a = pGroup l (most - (i + 1)) (i + 1) (n + l[a].toNat % 128 * 2 ^ (7 * i)) (a + 1) := by
  rw [pg_step hlt, List.getElem?_eq_getElem ha]
  simp only
  rw [if_neg h9, if_neg (by omega)]
theorem pg_end (hlt : ¬ i < most) : pGroup l (most - i) i n a = .error 6 := by
  rw [show most - i = 0 by omega]
  rfl
end
theorem and127 (b : Nat) (h : b < 256) : bits .and .u8 (b : Int) 127 = ((b % 128 : Nat) : Int) := by
  rw [u8_and _ _ (by omega) (by omega) (by omega) (by omega)]
  have : ((127 : Int)).toNat = 127 := rfl
  rw [this, Int.toNat_natCast, nat_mask7]
theorem two_pow7 (i : Nat) : 2 ^ (7 * (i + 1)) = 128 * 2 ^ (7 * i) := by rw [show 7 * (i + 1) = 7 * i + 7 by omega, Nat.pow_add]; omega
theorem pow7_le (i : Nat) (h : i ≤ 8) : 2 ^ (7 * i) ≤ 2 ^ 56 := Nat.pow_le_pow_right (by omega) (by omega)
theorem orshift (i n q : Nat) (hi : i ≤ 8) (hn : n < 2 ^ (7 * i)) (hq : q < 128) : bits .or .u64 (n : Int) (IntKind.u64.wrap ((q : Int) * 2 ^ (7 * i))) = ((n + q * 2 ^ (7 * i) : Nat) : Int) := by
  have hp := pow7_le i hi
  have e1 : ((q : Int) * 2 ^ (7 * i)) = ((q * 2 ^ (7 * i) : Nat) : Int) := by rw [Int.natCast_mul, Int.natCast_pow]; rfl
  have h2 : q * 2 ^ (7 * i) ≤ 127 * 2 ^ 56 := Nat.mul_le_mul (by omega) hp
  generalize hx : 2 ^ (7 * i) = x at *
  rw [e1]
  have e2 : IntKind.u64.wrap ((q * x : Nat) : Int) = ((q * x : Nat) : Int) := by rw [IntKind.wrap_u64]; omega
  rw [e2, u64_or_nat _ _ (by omega) (by omega), Nat.or_comm]
  have := nat_join (7 * i) (q * x) n (by rw [hx]; exact Nat.mul_mod_left q x) (by rw [hx]; exact hn)
  rw [this]
  omega
theorem orshift9 (n q : Nat) (hn : n < 2 ^ 63) (hq : q ≤ 1) : bits .or .u64 (n : Int) ((q : Int) * 9223372036854775808) = ((n + q * 2 ^ (7 * 9) : Nat) : Int) := by
  have e2 : (q : Int) * 9223372036854775808 = ((q * 9223372036854775808 : Nat) : Int) := by omega
  rw [e2, u64_or_nat _ _ (by omega) (by omega), Nat.or_comm]
  have := nat_join 63 (q * 9223372036854775808) n (by omega) (by omega)
  rw [this]
  omega

def GroupRel (w : World) (p : Nat) (inp : Value) (l : List UInt8) (e : Int) (most : Nat) (res : Except Int (Nat × Nat)) (tn ti : Value) (wr : World) : Prop :=
  ∃ i n a : Nat, i ≤ most ∧ tn = .int .u64 n ∧ ti = .int .i64 i ∧ n < 2 ^ (7 * i) ∧ Rd wr p inp l e a ∧ Touch [p] w wr ∧ res = pGroup l (most - i) i n a

def gval (x : Nat × Nat) : Value × Nat := (.int .u64 x.1, x.2)

set_option maxRecDepth 100000 in
set_option maxHeartbeats 1000000 in
theorem group_any (p : Nat) (inp : Value) (l : List UInt8) (e : Int) (a most : Nat) (w : World) (h : Rd w p inp l e a) (hm : most ≤ 10) :
    Calls Try.prog 88 #[.pointer (some ⟨p, 0, none⟩), .int .i64 most] w (RdPost w p inp l e ((pGroup l most 0 0 a).map gval)) := by
  have hst : GroupRel w p inp l e most (pGroup l most 0 0 a) (.int .u64 0) (.int .i64 0) w := ⟨0, 0, a, by omega, rfl, rfl, by simp, h, Touch.refl _ _, rfl⟩
  generalize pGroup l most 0 0 a = res at *
  clear h
  go_enter Try.func88, Try.ntmps88
  go_wp2_with fail
  go_loopw [5, 10] (fun tn ti wr => GroupRel w p inp l e most res tn ti wr) (fun _ t _ => most - (intOf t).toNat)
  case atStart => exact hst
  case round =>
    clear hst
    obtain ⟨i, n, a1, hi, rfl, rfl, hn, hr, ht, hres⟩ := hrel
    have HN := Lib.hid hn
    have HRes := Lib.hid hres
    clear hn hres
    by_cases hlt : i < most
    · have hlt' : (i : Int) < (most : Int) := by omega
      by_cases ha : a1 < l.length
      · have hbyte : l[a1].toNat < 256 := UInt8.toNat_lt _
        have HB := Lib.hid (show B l[a1] = .int .u8 (l[a1].toNat : Int) from rfl)
        have HA := Lib.hid (and127 l[a1].toNat hbyte)
        by_cases h9 : i = 9
        · subst h9
          go_wp2_with fail
          refine (next_ok p inp l e a1 wr hr ha).mono ?_
          rintro r w1 ⟨rfl, hr1, ht1⟩
          rw [HB.out]
          have hand := HA.out
          obtain ⟨q, hq⟩ : ∃ q, q = l[a1].toNat % 128 := ⟨_, rfl⟩
          rw [← hq] at hand
          have hq' : q < 128 := by omega
          have HQ := Lib.hid hq
          clear hq
          generalize hbb : l[a1].toNat = b at *
          have HBB := Lib.hid hbb
          clear hbb
          have htt := ht.trans ht1
          by_cases hbig : 1 < q
          · go_wp2_with fail
            refine ⟨rfl, htt, ?_⟩
            rw [HRes.out, pg_big hlt ha rfl (by rw [HBB.out, ← HQ.out]; exact hbig)]
            exact ⟨rfl, _, hr1⟩
          · have HO := Lib.hid (orshift9 n q (HN.out) (by omega))
            go_wp2_with fail
            · refine ⟨rfl, htt, ?_⟩
              rw [HRes.out, pg_zero hlt ha (by omega) (by rw [HBB.out]; omega)]
              exact ⟨rfl, _, hr1⟩
            · go_ret
              refine ⟨htt, ?_⟩
              rw [HRes.out, pg_last hlt ha (by rw [HBB.out, ← HQ.out]; omega) (by rw [HBB.out]; omega) (by rw [HBB.out]; omega)]
              refine ⟨?_, hr1⟩
              rw [HBB.out, ← HQ.out]
              exact congrArg (fun z => Ending.returned (.int .u64 z)) HO.out
            · go_roundw
              case rel =>
                rw [HO.out]
                refine ⟨10, n + q * 2 ^ (7 * 9), a1 + 1, by omega, rfl, rfl, by have := HN.out; omega, hr1, htt, ?_⟩
                rw [HRes.out, pg_more hlt ha (by rw [HBB.out, ← HQ.out]; omega) (by rw [HBB.out]; omega), HBB.out, ← HQ.out]
              case measure => simp [intOf]; omega
        · have h9' : ((i : Int) == 9) = false := by simp; omega
          go_wp2_with fail
          refine (next_ok p inp l e a1 wr hr ha).mono ?_
          rintro r w1 ⟨rfl, hr1, ht1⟩
          rw [HB.out]
          have hand := HA.out
          obtain ⟨q, hq⟩ : ∃ q, q = l[a1].toNat % 128 := ⟨_, rfl⟩
          rw [← hq] at hand
          have hq' : q < 128 := by omega
          have HQ := Lib.hid hq
          clear hq
          generalize hbb : l[a1].toNat = b at *
          have HBB := Lib.hid hbb
          clear hbb
          have htt := ht.trans ht1
          have HO := Lib.hid (orshift i n q (by omega) (HN.out) (by omega))
          go_wp2_with fail
          · refine ⟨rfl, htt, ?_⟩
            rw [HRes.out, pg_zero hlt ha (by omega) (by rw [HBB.out]; omega)]
            exact ⟨rfl, _, hr1⟩
          · go_ret
            refine ⟨htt, ?_⟩
            rw [HRes.out, pg_last hlt ha (by omega) (by rw [HBB.out]; omega) (by rw [HBB.out]; omega)]
            refine ⟨?_, hr1⟩
            rw [HBB.out, ← HQ.out]
            exact congrArg (fun z => Ending.returned (.int .u64 z)) HO.out
          · go_ret
            refine ⟨htt, ?_⟩
            rw [HRes.out, pg_last hlt ha (by omega) (by rw [HBB.out]; omega) (by rw [HBB.out]; omega)]
            refine ⟨?_, hr1⟩
            rw [HBB.out, ← HQ.out]
            exact congrArg (fun z => Ending.returned (.int .u64 z)) HO.out
          · go_roundw
            case rel =>
              rw [HO.out]
              refine ⟨i + 1, n + q * 2 ^ (7 * i), a1 + 1, by omega, rfl, by go_num, ?_, hr1, htt, ?_⟩
              · have h1 := HN.out
                rw [two_pow7]
                have h2 : q * 2 ^ (7 * i) ≤ 127 * 2 ^ (7 * i) := Nat.mul_le_mul_right _ (by omega)
                omega
              · rw [HRes.out, pg_more hlt ha (by omega) (by rw [HBB.out]; omega), HBB.out, ← HQ.out]
            case measure => simp [intOf]; omega
      · go_wp2_with fail
        refine (next_bad p inp l e a1 wr hr ha).mono ?_
        rintro r w1 ⟨rfl, hr1, ht1⟩
        unfold bad
        go_wp2_with fail
        refine ⟨rfl, ht.trans ht1, ?_⟩
        rw [HRes.out, pg_short hlt ha]
        exact ⟨rfl, _, hr1⟩
    · go_wp2_with fail
      refine ⟨rfl, ht, ?_⟩
      rw [HRes.out, pg_end hlt]
      exact ⟨rfl, _, hr⟩
end Go.Proofs.Ytpbknnkobhjjcaa
