/- What is read has one encoding alone: the bytes that were read are those that writing gives. No program is walked. -/
import Derived.Test.YtpbknnkobhjjcaaRound2
namespace Go.Proofs.Ytpbknnkobhjjcaa
open Go.RowKit

theorem pGroup_canon (l : List UInt8) : ∀ (k f i n a m a' : Nat), pGroup l k i n a = .ok (m, a') → k ≤ f + 1 → ∃ q, m = n + q * 2 ^ (7 * i) ∧ (0 < i → 0 < q) ∧ a < a' ∧ a' ≤ l.length ∧ l.drop a = grpF f q ++ l.drop a'
  | 0, f, i, n, a, m, a', h, _ => by unfold pGroup at h; cases h
  | k + 1, f, i, n, a, m, a', h, hf => by
    unfold pGroup at h
    rcases Nat.lt_or_ge a l.length with ha | ha
    · rw [List.getElem?_eq_getElem ha] at h
      have hd : l.drop a = l[a] :: l.drop (a + 1) := List.drop_eq_getElem_cons ha
      generalize l[a] = b at *
      simp only at h
      by_cases h9 : i = 9 ∧ 1 < b.toNat % 128
      · rw [if_pos h9] at h; cases h
      · rw [if_neg h9] at h
        by_cases hb : b.toNat < 128
        · rw [if_pos hb] at h
          by_cases h0 : b.toNat = 0 ∧ 0 < i
          · rw [if_pos h0] at h; cases h
          · rw [if_neg h0] at h
            injection h with h
            injection h with h1 h2
            subst h2
            have e : b.toNat % 128 = b.toNat := by omega
            rw [e] at h1
            refine ⟨b.toNat, h1.symm, fun hi => by omega, by omega, by omega, ?_⟩
            have eb : UInt8.ofNat b.toNat = b := by simp
            have e2 : grpF f b.toNat = [b] := by cases f with
              | zero => unfold grpF; rw [eb]
              | succ f => unfold grpF; rw [if_pos hb, eb]
            rw [e2, hd]
            rfl
        · rw [if_neg hb] at h
          cases f with
          | zero =>
            obtain rfl : k = 0 := by omega
            unfold pGroup at h
            cases h
          | succ f =>
            obtain ⟨q, hm, hq, ha1, ha2, hdd⟩ := pGroup_canon l k f (i + 1) _ (a + 1) m a' h (by omega)
            have hq0 := hq (by omega)
            have hlt := UInt8.toNat_lt b
            refine ⟨b.toNat % 128 + 128 * q, ?_, fun _ => by omega, by omega, ha2, ?_⟩
            · rw [hm, two_pow7, Nat.add_mul]
              have : q * (128 * 2 ^ (7 * i)) = 128 * q * 2 ^ (7 * i) := by rw [← Nat.mul_assoc, Nat.mul_comm q 128]
              omega
            · have e2 : grpF (f + 1) (b.toNat % 128 + 128 * q) = b :: grpF f q := by
                rw [grpF, if_neg (by omega)]
                have e3 : (b.toNat % 128 + 128 * q) % 128 + 128 = b.toNat := by omega
                have e4 : (b.toNat % 128 + 128 * q) / 128 = q := by omega
                rw [e3, e4]
                simp
              rw [e2, hd, hdd]
              rfl
    · rw [List.getElem?_eq_none ha] at h
      cases h

/-- The bytes between two offsets. -/
def Part (l : List UInt8) (a a' : Nat) (e : List UInt8) : Prop := a ≤ a' ∧ a' ≤ l.length ∧ l.drop a = e ++ l.drop a'
theorem Part.take {l e : List UInt8} {a a' : Nat} (h : Part l a a' e) : l.take a' = l.take a ++ e := by
  have h1 : l.take a ++ e ++ l.drop a' = l.take a' ++ l.drop a' := by rw [List.append_assoc, ← h.2.2, List.take_append_drop, List.take_append_drop]
  exact (List.append_cancel_right h1).symm
theorem Part.trans {l e f : List UInt8} {a b c : Nat} (h : Part l a b e) (h2 : Part l b c f) : Part l a c (e ++ f) :=
  ⟨Nat.le_trans h.1 h2.1, h2.2.1, by rw [h.2.2, h2.2.2, List.append_assoc]⟩
section
variable {l : List UInt8} {a : Nat}
theorem canon_group {k m a' : Nat} (h : pGroup l k 0 0 a = .ok (m, a')) (hk : k ≤ 10) : Part l a a' (grp m) := by
  obtain ⟨q, hm, _, h1, h2, h3⟩ := pGroup_canon l k 9 0 0 a m a' h hk
  have : m = q := by simpa using hm
  subst this
  exact ⟨by omega, h2, h3⟩
theorem canon_uint {x : Int} {a' : Nat} (h : pUint l a = .ok (x, a')) : 0 ≤ x ∧ Part l a a' (grp x.toNat) := by
  unfold pUint at h
  cases hg : pGroup l 9 0 0 a with
  | error k => rw [hg] at h; cases h
  | ok y =>
    rw [hg] at h
    injection h with h
    injection h with h1 h2
    subst h1 h2
    exact ⟨by omega, by simpa using canon_group hg (by omega)⟩
theorem fold_unfold (u : Nat) : fold (unfold' u) = u := by
  unfold fold unfold'
  by_cases h : u % 2 = 1
  · rw [if_pos h, if_pos (by omega)]
    omega
  · rw [if_neg h, if_neg (by omega)]
    omega
theorem canon_int {x : Int} {a' : Nat} (h : pInt l a = .ok (x, a')) : Part l a a' (grp (fold x)) := by
  unfold pInt at h
  cases hg : pGroup l 10 0 0 a with
  | error k => rw [hg] at h; cases h
  | ok y =>
    rw [hg] at h
    injection h with h
    injection h with h1 h2
    subst h1 h2
    rw [fold_unfold]
    exact canon_group hg (by omega)
theorem canon_bool {x : Bool} {a' : Nat} (h : pBool l a = .ok (x, a')) : Part l a a' [if x then 1 else 0] := by
  unfold pBool at h
  rcases Nat.lt_or_ge a l.length with ha | ha
  · rw [List.getElem?_eq_getElem ha] at h
    have hd : l.drop a = l[a] :: l.drop (a + 1) := List.drop_eq_getElem_cons ha
    generalize l[a] = b at *
    simp only at h
    by_cases hb : 1 < b.toNat
    · rw [if_pos hb] at h; cases h
    · rw [if_neg hb] at h
      injection h with h
      injection h with h1 h2
      subst h1 h2
      refine ⟨by omega, by omega, ?_⟩
      rw [hd]
      have hb' : b.toNat = 0 ∨ b.toNat = 1 := by omega
      rcases hb' with h0 | h0
      · have : b = 0 := UInt8.toNat_inj.1 (by simpa using h0)
        subst this
        rfl
      · have : b = 1 := UInt8.toNat_inj.1 (by simpa using h0)
        subst this
        rfl
  · rw [List.getElem?_eq_none ha] at h
    cases h
theorem canon_count {limit x : Int} {a' : Nat} (h : pCount l limit a = .ok (x, a')) : 0 ≤ x ∧ x ≤ limit ∧ Part l a a' (grp x.toNat) := by
  have h0 := pCount_ok h
  unfold pCount at h
  cases hg : pGroup l 9 0 0 a with
  | error k => rw [hg] at h; cases h
  | ok y =>
    rw [hg] at h
    simp only at h
    split at h
    · cases h
    · split at h
      · cases h
      · injection h with h
        injection h with h1 h2
        subst h1 h2
        exact ⟨by omega, h0.2.1, by simpa using canon_group hg (by omega)⟩
theorem canon_part {limit : Int} {x : List UInt8} {a' : Nat} (h : pPart l limit a = .ok (x, a')) : (x.length : Int) ≤ limit ∧ Part l a a' (grp x.length ++ x) := by
  unfold pPart at h
  cases hg : pCount l limit a with
  | error k => rw [hg] at h; cases h
  | ok y =>
    rw [hg] at h
    simp only at h
    obtain ⟨h0, h1, h2⟩ := canon_count hg
    split at h
    · cases h
    · rename_i hlt
      injection h with h
      injection h with e1 e2
      subst e1 e2
      have hlen : ((l.drop y.2).take y.1.toNat).length = y.1.toNat := by rw [List.length_take, List.length_drop]; omega
      rw [hlen]
      refine ⟨by omega, h2.trans ⟨by omega, by have := h2.2.1; omega, ?_⟩⟩
      rw [← List.drop_drop, List.take_append_drop]
theorem canon_list : ∀ (n a : Nat) (xs : List Int) (a' : Nat), a ≤ l.length → pList l n a = .ok (xs, a') → xs.length = n ∧ Part l a a' (encs xs)
  | 0, a, xs, a', ha, h => by
    unfold pList at h
    injection h with h
    injection h with h1 h2
    subst h1 h2
    exact ⟨rfl, Nat.le_refl _, ha, rfl⟩
  | n + 1, a, xs, a', ha, h => by
    unfold pList at h
    cases hi : pInt l a with
    | error k => rw [hi] at h; cases h
    | ok x =>
      rw [hi] at h
      simp only at h
      have hp := canon_int hi
      cases hl : pList l n x.2 with
      | error k => rw [hl] at h; cases h
      | ok ys =>
        rw [hl] at h
        injection h with h
        injection h with h1 h2
        subst h1 h2
        obtain ⟨e1, e2⟩ := canon_list n x.2 ys.1 ys.2 hp.2.1 hl
        exact ⟨by simp [e1], hp.trans e2⟩
theorem canon_ints {limit : Int} {x : List Int} {a' : Nat} (h : pInts l limit a = .ok (x, a')) : (x.length : Int) ≤ limit ∧ Part l a a' (grp x.length ++ encs x) := by
  unfold pInts at h
  cases hg : pCount l limit a with
  | error k => rw [hg] at h; cases h
  | ok y =>
    rw [hg] at h
    simp only at h
    obtain ⟨h0, h1, h2⟩ := canon_count hg
    obtain ⟨e1, e2⟩ := canon_list _ _ _ _ h2.2.1 h
    rw [← e1] at h2
    exact ⟨by omega, h2.trans e2⟩
end
theorem pGroup_err (l : List UInt8) : ∀ (k i n a : Nat) (e : Int), pGroup l k i n a = .error e → e ≠ 0
  | 0, i, n, a, e, h => by unfold pGroup at h; cases h; decide
  | k + 1, i, n, a, e, h => by
    unfold pGroup at h
    cases hb : l[a]? with
    | none => rw [hb] at h; cases h; decide
    | some b =>
      rw [hb] at h
      simp only at h
      repeat' split at h
      · cases h; decide
      · cases h; decide
      · cases h
      · exact pGroup_err l k _ _ _ e h
section
variable {l : List UInt8} {a : Nat} {e : Int}
theorem pUint_err (h : pUint l a = .error e) : e ≠ 0 := by
  unfold pUint at h
  cases hg : pGroup l 9 0 0 a with
  | error k => rw [hg] at h; cases h; exact pGroup_err l _ _ _ _ _ hg
  | ok y => rw [hg] at h; cases h
theorem pInt_err (h : pInt l a = .error e) : e ≠ 0 := by
  unfold pInt at h
  cases hg : pGroup l 10 0 0 a with
  | error k => rw [hg] at h; cases h; exact pGroup_err l _ _ _ _ _ hg
  | ok y => rw [hg] at h; cases h
theorem pBool_err (h : pBool l a = .error e) : e ≠ 0 := by
  unfold pBool at h
  split at h
  · cases h; decide
  · split at h
    · cases h; decide
    · cases h
theorem pCount_err {limit : Int} (h : pCount l limit a = .error e) : e ≠ 0 := by
  unfold pCount at h
  cases hg : pGroup l 9 0 0 a with
  | error k => rw [hg] at h; cases h; exact pGroup_err l _ _ _ _ _ hg
  | ok y =>
    rw [hg] at h
    simp only at h
    split at h
    · cases h; decide
    · split at h
      · cases h; decide
      · cases h
theorem pPart_err {limit : Int} (h : pPart l limit a = .error e) : e ≠ 0 := by
  unfold pPart at h
  cases hg : pCount l limit a with
  | error k => rw [hg] at h; cases h; exact pCount_err hg
  | ok y =>
    rw [hg] at h
    simp only at h
    split at h
    · cases h; decide
    · cases h
theorem pList_err : ∀ (n a : Nat), pList l n a = .error e → e ≠ 0
  | 0, a, h => by unfold pList at h; cases h
  | n + 1, a, h => by
    unfold pList at h
    cases hi : pInt l a with
    | error k => rw [hi] at h; cases h; exact pInt_err hi
    | ok x =>
      rw [hi] at h
      simp only at h
      cases hl : pList l n x.2 with
      | error k => rw [hl] at h; cases h; exact pList_err n _ hl
      | ok ys => rw [hl] at h; cases h
theorem pInts_err {limit : Int} (h : pInts l limit a = .error e) : e ≠ 0 := by
  unfold pInts at h
  cases hg : pCount l limit a with
  | error k => rw [hg] at h; cases h; exact pCount_err hg
  | ok y =>
    rw [hg] at h
    exact pList_err _ _ h
end
/-- One value is read and written again. -/
theorem once_step {α : Type} {l : List UInt8} {z : α} {res : Nat → Except Int (α × Nat)} {enc : α → List UInt8} (hz : enc z = [0]) (hres : ∀ a x a', res a = .ok (x, a') → Part l a a' (enc x)) (herr : ∀ a e, res a = .error e → e ≠ 0) (s : Int × Nat) (bs : List UInt8) (hi : s.1 = 0 → bs = l.take s.2) :
    ((rRead z res s).2.1 = 0 → bs ++ enc (rRead z res s).1 = l.take (rRead z res s).2.2) ∧ ((bs ++ enc (rRead z res s).1).length ≤ l.length ∨ (bs ++ enc (rRead z res s).1).length = bs.length + 1) ∧ ((rRead z res s).1 = z ∨ ∃ a', res s.2 = .ok ((rRead z res s).1, a')) := by
  unfold rRead
  by_cases h0 : s.1 = 0
  · rw [if_pos h0]
    cases hr : res s.2 with
    | error k =>
      simp only
      exact ⟨fun hk => absurd hk (herr _ _ hr), .inr (by rw [hz]; simp), .inl (by trivial)⟩
    | ok x =>
      simp only
      have hp := hres _ _ _ hr
      have e : bs ++ enc x.1 = l.take x.2 := by rw [hi h0, hp.take]
      exact ⟨fun _ => e, .inl (by rw [e, List.length_take]; omega), .inr ⟨x.2, rfl⟩⟩
  · rw [if_neg h0]
    exact ⟨fun h => absurd h h0, .inr (by simp [hz]), .inl (by trivial)⟩
end Go.Proofs.Ytpbknnkobhjjcaa
