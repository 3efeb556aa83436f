/- Bids: what is encoded is decoded again, what is decoded has one encoding; what is picked. No program is walked. -/
import Derived.Test.YtpbknnkobhjjcaaDec7
namespace Go.Proofs.Ytpbknnkobhjjcaa
open Go.RowKit

theorem pNums_enc {L : List UInt8} : ∀ (l : List Int) (rest : List UInt8) (a : Nat), L.drop a = l.flatMap encN ++ rest → (∀ n ∈ l, 0 ≤ n ∧ Fits n) → pNums L l.length a = .ok (l, a + (l.flatMap encN).length)
  | [], rest, a, _, _ => rfl
  | n :: l, rest, a, h, hf => by
    rw [List.flatMap_cons, List.append_assoc] at h
    have hn := hf n (by simp)
    show pNums L (l.length + 1) a = _
    unfold pNums
    unfold encN at h
    rw [pUint_grp h hn.1 hn.2]
    simp only
    have h2 := drop_app h
    have ih := pNums_enc l rest _ h2 (fun m hm => hf m (by simp [hm]))
    rw [ih, List.flatMap_cons, List.length_append]
    simp only [encN, Nat.add_assoc]
theorem bidB_nums {x : Bx} (h : bidB x = true) : 0 ≤ x.st ∧ x.st ≤ 511 ∧ x.fb.length ≤ 3 ∧ ∀ n ∈ x.names, 0 ≤ n ∧ n ≤ 3 := by
  unfold bidB headB at h
  rw [Bool.and_eq_true, decide_eq_true_eq] at h
  refine ⟨h.1.1, h.1.2.1, h.1.2.2, fun n hn => ?_⟩
  obtain ⟨k, hk, rfl⟩ := List.getElem_of_mem hn
  have := names_all.1 h.2 k hk
  rw [nmB_at hk, Bool.and_eq_true] at this
  have := this.1
  unfold optB at this
  simpa using this
theorem bidsB_one (x : Bx) : bidsB [x] = bidB x := by
  have e : bidsB [x] = (adjB [x] 0 && true) := rfl
  rw [e, Bool.and_true]
  rfl
theorem dec_one {x : Bx} (h : bidB x = true) : decOf (encBids [x]) = (0, [x.data]) := by
  obtain ⟨h1, h2, h3, h4⟩ := bidB_nums h
  have hp := h4 x.pf (by simp [Bx.names])
  have hfb : ∀ n ∈ x.fb, 0 ≤ n ∧ Fits n := fun n hn => by
    have := h4 n (by simp [Bx.names, hn])
    exact ⟨this.1, fit_near (by omega) (by omega)⟩
  obtain ⟨L, hL⟩ : ∃ L, L = encBids [x] := ⟨_, rfl⟩
  have d0 : L.drop 0 = grp 1 ++ (grp x.st.toNat ++ (grp x.pf.toNat ++ (grp x.fb.length ++ (x.fb.flatMap encN ++ [])))) := by
    rw [hL]
    simp [encBids, encBid, encHd, encN]
  have g0 := pCount_grp (limit := 512) (m := 1) d0 (by omega) (by omega)
  have d1 := drop_app d0
  have g1 := pUint_grp d1 h1 (fit_near (by omega) (by omega))
  have d2 := drop_app d1
  have g2 := pUint_grp d2 hp.1 (fit_near (by omega) (by omega))
  have d3 := drop_app d2
  have g3 := pCount_grp (limit := 3) d3 (by omega) (by omega)
  have d4 := drop_app d3
  have g4 := pNums_enc x.fb [] _ d4 hfb
  have gl := congrArg List.length d0
  simp only [List.drop_zero, List.length_append, List.length_nil] at gl
  rw [← hL]
  unfold decOf
  rw [g0]
  simp only
  have e1 : ((1 : Nat) : Int).toNat = 0 + 1 := rfl
  rw [e1]
  unfold pBids pBid
  rw [g1]
  simp only
  rw [g2]
  simp only
  rw [g3]
  simp only [Int.toNat_natCast]
  rw [g4]
  simp only [pBids]
  rw [if_neg (by omega)]
  have e2 : bidsB ([(x.st, x.pf, x.fb)].map Bd.bx) = true := by
    have := bidsB_data [x]
    rw [bidsB_one, h] at this
    exact this.symm
  rw [if_pos e2]
  rfl
theorem pNums_err {L : List UInt8} : ∀ (n a : Nat) (k : Int), pNums L n a = .error k → k ≠ 0
  | 0, a, k, h => by unfold pNums at h; cases h
  | n + 1, a, k, h => by
    unfold pNums at h
    cases g : pUint L a with
    | error e => rw [g] at h; cases h; exact pUint_err g
    | ok x =>
      rw [g] at h
      simp only at h
      cases g2 : pNums L n x.2 with
      | error e => rw [g2] at h; cases h; exact pNums_err n x.2 _ g2
      | ok z => rw [g2] at h; cases h
theorem pBid_err {L : List UInt8} {a : Nat} {k : Int} (h : pBid L a = .error k) : k ≠ 0 := by
  unfold pBid at h
  cases g : pUint L a with
  | error e => rw [g] at h; cases h; exact pUint_err g
  | ok x =>
  rw [g] at h
  simp only at h
  cases g2 : pUint L x.2 with
  | error e => rw [g2] at h; cases h; exact pUint_err g2
  | ok y =>
  rw [g2] at h
  simp only at h
  cases g3 : pCount L 3 y.2 with
  | error e => rw [g3] at h; cases h; exact pCount_err g3
  | ok c =>
  rw [g3] at h
  simp only at h
  cases g4 : pNums L c.1.toNat c.2 with
  | error e => rw [g4] at h; cases h; exact pNums_err _ _ _ g4
  | ok z => rw [g4] at h; cases h
theorem pBids_err {L : List UInt8} : ∀ (n a : Nat) (k : Int), pBids L n a = .error k → k ≠ 0
  | 0, a, k, h => by unfold pBids at h; cases h
  | n + 1, a, k, h => by
    unfold pBids at h
    cases g : pBid L a with
    | error e => rw [g] at h; cases h; exact pBid_err g
    | ok x =>
      rw [g] at h
      simp only at h
      cases g2 : pBids L n x.2 with
      | error e => rw [g2] at h; cases h; exact pBids_err n x.2 _ g2
      | ok z => rw [g2] at h; cases h
theorem canon_nums {L : List UInt8} : ∀ (n a : Nat) (y : List Int × Nat), a ≤ L.length → pNums L n a = .ok y → y.1.length = n ∧ Part L a y.2 (y.1.flatMap encN)
  | 0, a, y, ha, h => by
    unfold pNums at h
    cases h
    exact ⟨rfl, Nat.le_refl _, ha, rfl⟩
  | n + 1, a, y, ha, h => by
    unfold pNums at h
    cases g : pUint L a with
    | error e => rw [g] at h; cases h
    | ok x =>
      rw [g] at h
      simp only at h
      cases g2 : pNums L n x.2 with
      | error e => rw [g2] at h; cases h
      | ok z =>
        rw [g2] at h
        cases h
        have h1 := (canon_uint g).2
        obtain ⟨i1, i2⟩ := canon_nums n x.2 z h1.2.1 g2
        exact ⟨by simp [i1], by rw [List.flatMap_cons]; exact h1.trans i2⟩
theorem canon_bid {L : List UInt8} {a : Nat} {d : Bd × Nat} (h : pBid L a = .ok d) : Part L a d.2 (encBid (Bd.bx d.1)) := by
  unfold pBid at h
  cases g : pUint L a with
  | error e => rw [g] at h; cases h
  | ok x =>
  rw [g] at h
  simp only at h
  cases g2 : pUint L x.2 with
  | error e => rw [g2] at h; cases h
  | ok y =>
  rw [g2] at h
  simp only at h
  cases g3 : pCount L 3 y.2 with
  | error e => rw [g3] at h; cases h
  | ok c =>
  rw [g3] at h
  simp only at h
  cases g4 : pNums L c.1.toNat c.2 with
  | error e => rw [g4] at h; cases h
  | ok z =>
  rw [g4] at h
  cases h
  have h1 := (canon_uint g).2
  have h2 := (canon_uint g2).2
  obtain ⟨-, -, h3⟩ := canon_count g3
  obtain ⟨h4, h5⟩ := canon_nums _ _ _ h3.2.1 g4
  rw [← h4] at h3
  exact ((h1.trans h2).trans h3).trans h5
theorem canon_bids {L : List UInt8} : ∀ (n a : Nat) (y : List Bd × Nat), a ≤ L.length → pBids L n a = .ok y → y.1.length = n ∧ Part L a y.2 (y.1.flatMap fun d => encBid (Bd.bx d))
  | 0, a, y, ha, h => by
    unfold pBids at h
    cases h
    exact ⟨rfl, Nat.le_refl _, ha, rfl⟩
  | n + 1, a, y, ha, h => by
    unfold pBids at h
    cases g : pBid L a with
    | error e => rw [g] at h; cases h
    | ok x =>
      rw [g] at h
      simp only at h
      cases g2 : pBids L n x.2 with
      | error e => rw [g2] at h; cases h
      | ok z =>
        rw [g2] at h
        cases h
        have h1 := canon_bid g
        obtain ⟨i1, i2⟩ := canon_bids n x.2 z h1.2.1 g2
        exact ⟨by simp [i1], by rw [List.flatMap_cons]; exact h1.trans i2⟩
theorem enc_dec {L : List UInt8} {xs : List Bx} (h : decOf L = (0, xs.map Bx.data)) : bidsB xs = true ∧ encBids xs = L ∧ xs.length ≤ 512 := by
  unfold decOf at h
  cases g : pCount L 512 0 with
  | error k =>
    rw [g] at h
    injection h with h1 _
    exact absurd h1 (pCount_err g)
  | ok c =>
  rw [g] at h
  simp only at h
  obtain ⟨c1, c2, c3⟩ := canon_count g
  cases g2 : pBids L c.1.toNat c.2 with
  | error k =>
    rw [g2] at h
    injection h with h1 _
    exact absurd h1 (pBids_err _ _ _ g2)
  | ok y =>
  rw [g2] at h
  simp only at h
  obtain ⟨i1, i2⟩ := canon_bids _ _ _ c3.2.1 g2
  by_cases hy : y.2 < L.length
  · rw [if_pos hy] at h
    injection h with h1 _
    exact absurd h1 (by decide)
  rw [if_neg hy] at h
  cases hb : bidsB (y.1.map Bd.bx) with
  | false =>
    rw [hb] at h
    injection h with h1 _
    exact absurd h1 (by decide)
  | true =>
  rw [hb] at h
  injection h with _ h2
  rw [h2] at hb i1 i2
  rw [← bidsB_data] at hb
  rw [List.length_map] at i1
  refine ⟨hb, ?_, by omega⟩
  have hp := c3.trans i2
  have he : L.drop y.2 = [] := List.drop_eq_nil_of_le (by omega)
  have h0 := hp.2.2
  rw [he, List.append_nil, List.drop_zero] at h0
  rw [h0, List.flatMap_map, ← i1]
  rfl
theorem dec_zero {L : List UInt8} {xs : List Bx} (h : xs.map Bx.data = (decOf L).2) (h0 : (decOf L).1 = 0) : bidsB xs = true ∧ encBids xs = L ∧ xs.length ≤ 512 := enc_dec (by rw [h, ← h0])
theorem pick_before {c : Int} {F : List Int} : ∀ (L : List Int) (i : Nat) (hi : i < L.length), (∀ (j : Nat) (hj : j ≤ i), L[j]'(by omega) ≠ pickOf L c F) → hitB c F L[i] = false
  | [], i, hi, _ => by simp at hi
  | a :: l, i, hi, h => by
    cases ha : hitB c F a with
    | true =>
      have e : pickOf (a :: l) c F = a := by unfold pickOf; rw [List.find?_cons_of_pos ha]; rfl
      exact absurd e.symm (h 0 (by omega))
    | false =>
      have e : pickOf (a :: l) c F = pickOf l c F := by unfold pickOf; rw [List.find?_cons_of_neg (by simp [ha])]
      cases i with
      | zero => exact ha
      | succ i =>
        have hi2 : i < l.length := by simpa using hi
        refine pick_before l i hi2 (fun j hj he => h (j + 1) (by omega) ?_)
        rw [e]
        exact he
theorem pick_hit (L : List Int) (c : Int) (F : List Int) (h : pickOf L c F ≠ c) : hasB F (pickOf L c F) = true ∧ pickOf L c F ∈ L := by
  unfold pickOf at *
  cases g : L.find? (hitB c F) with
  | none => rw [g] at h; exact absurd rfl h
  | some y =>
    rw [g] at h
    have h1 := List.find?_some g
    have h2 := List.mem_of_find?_eq_some g
    unfold hitB at h1
    rw [Bool.or_eq_true] at h1
    refine ⟨?_, h2⟩
    rcases h1 with h1 | h1
    · exact absurd (by simpa using h1) h
    · exact h1
theorem pick_allowed {x : Bx} {h c : Int} {F : List Int} (hc : chooseOk x h c F = true) : allowB h c (pickOf x.names c F) = true := by
  unfold chooseOk forB at hc
  simp only [Bool.and_eq_true, List.all_eq_true] at hc
  have ha := hc.1.2
  by_cases e : pickOf x.names c F = c
  · rw [e]
    have := ha x.pf (by simp [Bx.names])
    unfold allowB at this ⊢
    rw [Bool.and_eq_true] at this
    rw [this.1]
    have h2 := goodB_iff.1 this.1
    simp; omega
  · exact ha _ (pick_hit _ _ _ e).2
theorem pick_first {x : Bx} {c : Int} {F : List Int} (h : hasB F x.pf = true) : pickOf x.names c F = x.pf := by
  have hh : hitB c F x.pf = true := by unfold hitB; rw [h, Bool.or_true]
  unfold pickOf Bx.names
  rw [List.find?_cons_of_pos hh]
  rfl
theorem choose_bid {x : Bx} {h c : Int} {F : List Int} (hc : bidB x = false) : chooseOk x h c F = false := by
  unfold chooseOk forB
  rw [hc]
  rfl
end Go.Proofs.Ytpbknnkobhjjcaa
