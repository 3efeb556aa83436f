/- The law WireReads: what a call does to a reader, as a plain function. -/
import Derived.Test.YtpbknnkobhjjcaaRd5
import Derived.Test.YtpbknnkobhjjcaaOnce
import Derived.Test.YtpbknnkobhjjcaaAgain0
namespace Go.Proofs.Ytpbknnkobhjjcaa
open Go.RowKit

/-- The state of a reader behind a call of the kind q. -/
def actSt (l : List UInt8) (q : Nat) (lim : Int) (s : Int × Nat) : Int × Nat :=
  if q = 0 then (rRead 0 (pUint l) s).2 else if q = 1 then (rRead 0 (pInt l) s).2 else if q = 2 then (rRead false (pBool l) s).2
  else if q = 3 then (rRead 0 (pCount l lim) s).2 else if q = 4 then (rRead [] (pPart l lim) s).2 else if q = 5 then (rRead [] (pPart l lim) s).2
  else if q = 6 then (rRead [] (pInts l lim) s).2 else rFail s (bits .and .i64 lim 3)
/-- The values that the reference has read. -/
structure Vals6 (l : List UInt8) (q : Nat) (lim : Int) (s : Int × Nat) (s13 s14 s15 s16 : Value) (w : World) : Prop where
  v0 : q = 0 → s13 = .int .i64 (rRead 0 (pUint l) s).1
  v1 : q = 1 → s13 = .int .i64 (rRead 0 (pInt l) s).1
  v2 : q = 2 → s14 = .bool (rRead false (pBool l) s).1
  v3 : q = 3 → s13 = .int .i64 (rRead 0 (pCount l lim) s).1
  v4 : q = 4 → Bytes w s15 (rRead [] (pPart l lim) s).1
  v5 : q = 5 → Bytes w s15 (rRead [] (pPart l lim) s).1
  v6 : q = 6 → RowI w s16 (rRead [] (pInts l lim) s).1 ∧ ∀ n ∈ (rRead [] (pInts l lim) s).1, Fits n
theorem rRead_bad {α : Type} (z : α) (res : Nat → Except Int (α × Nat)) (s : Int × Nat) (h : (rRead z res s).2.1 ≠ 0) : (rRead z res s).2.2 = s.2 ∧ (rRead z res s).1 = z := by
  unfold rRead at h ⊢
  by_cases h0 : s.1 = 0
  · rw [if_pos h0] at h ⊢
    cases hr : res s.2 with
    | ok x => rw [hr] at h; exact absurd rfl h
    | error k => exact ⟨rfl, rfl⟩
  · rw [if_neg h0]; exact ⟨rfl, rfl⟩
theorem act_bad {l : List UInt8} {q : Nat} {lim : Int} {s : Int × Nat} (w : World) (h : (actSt l q lim s).1 ≠ 0) : (actSt l q lim s).2 = s.2 ∧ Vals6 l q lim s (.int .i64 0) (.bool false) (.slice none 0 0) (.slice none 0 0) w := by
  by_cases h0 : q = 0
  · subst h0; obtain ⟨h1, h2⟩ := rRead_bad 0 (pUint l) s h
    exact ⟨h1, fun _ => by rw [h2], nofun, nofun, nofun, nofun, nofun, nofun⟩
  by_cases h0 : q = 1
  · subst h0; obtain ⟨h1, h2⟩ := rRead_bad 0 (pInt l) s h
    exact ⟨h1, nofun, fun _ => by rw [h2], nofun, nofun, nofun, nofun, nofun⟩
  by_cases h0 : q = 2
  · subst h0; obtain ⟨h1, h2⟩ := rRead_bad false (pBool l) s h
    exact ⟨h1, nofun, nofun, fun _ => by rw [h2], nofun, nofun, nofun, nofun⟩
  by_cases h0 : q = 3
  · subst h0; obtain ⟨h1, h2⟩ := rRead_bad 0 (pCount l lim) s h
    exact ⟨h1, nofun, nofun, nofun, fun _ => by rw [h2], nofun, nofun, nofun⟩
  by_cases h0 : q = 4
  · subst h0; obtain ⟨h1, h2⟩ := rRead_bad [] (pPart l lim) s h
    exact ⟨h1, nofun, nofun, nofun, nofun, fun _ => by rw [h2]; exact Reads.nil w 1, nofun, nofun⟩
  by_cases h0 : q = 5
  · subst h0; obtain ⟨h1, h2⟩ := rRead_bad [] (pPart l lim) s h
    exact ⟨h1, nofun, nofun, nofun, nofun, nofun, fun _ => by rw [h2]; exact Reads.nil w 1, nofun⟩
  by_cases h0 : q = 6
  · subst h0; obtain ⟨h1, h2⟩ := rRead_bad [] (pInts l lim) s h
    exact ⟨h1, nofun, nofun, nofun, nofun, nofun, nofun, fun _ => by rw [h2]; exact ⟨RowI.nil w, by simp⟩⟩
  have e : actSt l q lim s = rFail s (bits .and .i64 lim 3) := by unfold actSt; simp [*]
  refine ⟨?_, by omega, by omega, by omega, by omega, by omega, by omega, by omega⟩
  rw [e]; unfold rFail; split <;> rfl
theorem Vals6.touch0 {l : List UInt8} {q : Nat} {lim : Int} {s : Int × Nat} {s13 s14 s15 s16 : Value} {w w' : World} (h : Vals6 l q lim s s13 s14 s15 s16 w) (ht : Touch [] w w') : Vals6 l q lim s s13 s14 s15 s16 w' :=
  ⟨h.v0, h.v1, h.v2, h.v3, fun e => Reads.touch0 (h.v4 e) ht, fun e => Reads.touch0 (h.v5 e) ht, fun e => ⟨Own.touch0 (h.v6 e).1 ht, (h.v6 e).2⟩⟩
/-- What stands in the slots behind the reference's part. -/
def RefRel (l : List UInt8) (q : Nat) (lim : Int) (s : Int × Nat) (W : World) (s13 s14 s15 s16 s17 s18 : Value) (wx : World) : Prop :=
  s18 = .int .i64 (actSt l q lim s).1 ∧ Touch [] W wx ∧ ((actSt l q lim s).1 = 0 → s17 = .int .i64 ((actSt l q lim s).2 - s.2 : Nat) ∧ s.2 ≤ (actSt l q lim s).2 ∧ Vals6 l q lim s s13 s14 s15 s16 wx)
def RefRel2 (l : List UInt8) (q : Nat) (lim : Int) (s : Int × Nat) (W : World) (s13 s14 s15 s16 s17 s18 : Value) (wx : World) : Prop :=
  s18 = .int .i64 (actSt l q lim s).1 ∧ Touch [] W wx ∧ s17 = .int .i64 ((actSt l q lim s).2 - s.2 : Nat) ∧ s.2 ≤ (actSt l q lim s).2 ∧ Vals6 l q lim s s13 s14 s15 s16 wx
theorem RefRel.zero {l : List UInt8} {q : Nat} {lim : Int} {s : Int × Nat} {W : World} (s13 s14 s15 s16 s17 : Value) (h : s.1 ≠ 0) : RefRel l q lim s W s13 s14 s15 s16 s17 (.int .i64 s.1) W := by
  have e : ∀ {α : Type} (z : α) (res : Nat → Except Int (α × Nat)), (rRead z res s).2 = s := fun z res => by unfold rRead; rw [if_neg h]
  have e1 : actSt l q lim s = s := by
    unfold actSt
    simp only [e, rFail, if_neg h, ite_self]
  refine ⟨by rw [e1], Touch.refl _ _, fun h1 => absurd (by rw [e1] at h1; exact h1) h⟩
section
variable {α : Type} {z : α} {res : Nat → Except Int (α × Nat)} {a : Nat} {l : List UInt8}
theorem rRead_at {x : α} {b : Nat} (h : res a = .ok (x, b)) : rRead z res (0, a) = (x, (0, b)) := by unfold rRead; simp [h]
theorem rRead_no {k : Int} (h : res a = .error k) : rRead z res (0, a) = (z, (k, a)) := by unfold rRead; simp [h]
end
section
variable {l : List UInt8} {q : Nat} {lim : Int} {a : Nat} {W wx : World}
theorem RefRel.err0 {k : Int} (s13 s14 s15 s16 s17 : Value) (h : actSt l q lim (0, a) = (k, a)) (hk : k ≠ 0) (ht : Touch [] W wx) : RefRel l q lim (0, a) W s13 s14 s15 s16 s17 (.int .i64 k) wx :=
  ⟨by rw [h], ht, fun h1 => absurd (by rw [h] at h1; exact h1) hk⟩
theorem RefRel.ok0 {s13 s14 s15 s16 : Value} {x2 : Nat} (h : actSt l q lim (0, a) = (0, a + x2)) (hV : Vals6 l q lim (0, a) s13 s14 s15 s16 wx) (ht : Touch [] W wx) : RefRel l q lim (0, a) W s13 s14 s15 s16 (.int .i64 (x2 : Nat)) (.int .i64 0) wx :=
  ⟨by rw [h], ht, fun _ => ⟨by rw [h]; simp, by rw [h]; simp, hV⟩⟩
theorem RefRel.fail0 (s13 s14 s15 s16 : Value) (hq : q = 7) : RefRel l q lim (0, a) W s13 s14 s15 s16 (.int .i64 0) (.int .i64 (bits .and .i64 lim 3)) W := by
  subst hq
  have e : actSt l 7 lim (0, a) = (bits .and .i64 lim 3, a) := by simp [actSt, rFail]
  exact ⟨by rw [e], Touch.refl _ _, fun _ => ⟨by rw [e]; simp, by rw [e]; exact Nat.le_refl _, nofun, nofun, nofun, nofun, nofun, nofun, nofun⟩⟩
theorem RefRel.two {s : Int × Nat} {s13 s14 s15 s16 s17 : Value} (h : RefRel l q lim s W s13 s14 s15 s16 s17 (.int .i64 (actSt l q lim s).1) wx) (h0 : (actSt l q lim s).1 = 0) : RefRel2 l q lim s W s13 s14 s15 s16 s17 (.int .i64 (actSt l q lim s).1) wx :=
  ⟨rfl, h.2.1, (h.2.2 h0).1, (h.2.2 h0).2.1, (h.2.2 h0).2.2⟩
theorem RefRel.two' {s : Int × Nat} {s13 s14 s15 s16 s17 : Value} (h : RefRel l q lim s W s13 s14 s15 s16 s17 (.int .i64 (actSt l q lim s).1) wx) (h0 : (actSt l q lim s).1 ≠ 0) : RefRel2 l q lim s W (.int .i64 0) (.bool false) (.slice none 0 0) (.slice none 0 0) (.int .i64 0) (.int .i64 (actSt l q lim s).1) wx := by
  obtain ⟨h1, h2⟩ := act_bad wx h0
  exact ⟨rfl, h.2.1, by rw [h1]; simp, by rw [h1]; exact Nat.le_refl _, h2⟩
end
/-- Bytes that are read do not lie in a reader's own block. -/
theorem Rd.bytes_ne {w : World} {p : Nat} {inp : Value} {l x : List UInt8} {e : Int} {a : Nat} {v : Value} (h : Rd w p inp l e a) (hv : Bytes w v x) : p ∉ rb v := by
  obtain ⟨A, cap, rfl, h1, h2, h3, h4⟩ := hv
  intro hm
  match x, h4, hm with
  | [], h4, hm => cases A <;> simp [rb] at hm
  | y :: x, h4, hm =>
    obtain ⟨b, off, rfl, hb, hc⟩ := h4 (by simp)
    have : p = b := by simpa [rb] using hm
    subst this
    have hc0 := hc 0 (B y) (by simp)
    rw [Nat.add_zero, h.1.cell] at hc0
    match off, hc0 with
    | 0, hc0 => simp [B] at hc0
    | 1, hc0 => simp [B] at hc0
    | 2, hc0 =>
      obtain ⟨A5, cap5, e5, -⟩ := h.2.1
      subst e5
      simp [B] at hc0
    | 3, hc0 => simp [B] at hc0
    | n + 4, hc0 => simp at hc0
end Go.Proofs.Ytpbknnkobhjjcaa
