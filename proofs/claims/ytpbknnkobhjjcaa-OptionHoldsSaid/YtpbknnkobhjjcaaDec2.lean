/- Reading of bids: the plain side. -/
import Derived.Test.YtpbknnkobhjjcaaDec1
import Derived.Test.YtpbknnkobhjjcaaOnce
namespace Go.Proofs.Ytpbknnkobhjjcaa
open Go.RowKit

/-- The data of a bid. -/
abbrev Bd := Int × Int × List Int
def Bx.data (x : Bx) : Bd := (x.st, x.pf, x.fb)
def Bd.bx (d : Bd) : Bx := ⟨d.1, d.2.1, .slice none 0 0, d.2.2⟩
def pNums (L : List UInt8) : Nat → Nat → Except Int (List Int × Nat)
  | 0, a => .ok ([], a)
  | n + 1, a => match pUint L a with
    | .error k => .error k
    | .ok x => match pNums L n x.2 with
      | .error k => .error k
      | .ok ys => .ok (x.1 :: ys.1, ys.2)
def pBid (L : List UInt8) (a : Nat) : Except Int (Bd × Nat) := match pUint L a with
  | .error k => .error k
  | .ok s => match pUint L s.2 with
    | .error k => .error k
    | .ok p => match pCount L 3 p.2 with
      | .error k => .error k
      | .ok c => match pNums L c.1.toNat c.2 with
        | .error k => .error k
        | .ok f => .ok ((s.1, p.1, f.1), f.2)
def pBids (L : List UInt8) : Nat → Nat → Except Int (List Bd × Nat)
  | 0, a => .ok ([], a)
  | n + 1, a => match pBid L a with
    | .error k => .error k
    | .ok x => match pBids L n x.2 with
      | .error k => .error k
      | .ok ys => .ok (x.1 :: ys.1, ys.2)
def contX {α : Type} (xs : List α) : Except Int (List α × Nat) → Except Int (List α × Nat)
  | .error k => .error k
  | .ok ys => .ok (xs ++ ys.1, ys.2)
theorem contX_nil {α : Type} (r : Except Int (List α × Nat)) : contX [] r = r := by cases r <;> rfl
theorem nums_bad {L : List UInt8} {n a : Nat} {xs : List Int} {k : Int} (h : pUint L a = .error k) : contX xs (pNums L (n + 1) a) = .error k := by unfold pNums; rw [h]; rfl
theorem nums_step {L : List UInt8} {n a : Nat} {xs : List Int} {x : Int × Nat} (h : pUint L a = .ok x) : contX xs (pNums L (n + 1) a) = contX (xs ++ [x.1]) (pNums L n x.2) := by
  conv => lhs; rw [pNums]
  rw [h]
  simp only
  cases pNums L n x.2 with
  | error k => rfl
  | ok ys => simp [contX]
theorem bids_badX {L : List UInt8} {n a : Nat} {xs : List Bd} {k : Int} (h : pBid L a = .error k) : contX xs (pBids L (n + 1) a) = .error k := by unfold pBids; rw [h]; rfl
theorem bids_step {L : List UInt8} {n a : Nat} {xs : List Bd} {x : Bd × Nat} (h : pBid L a = .ok x) : contX xs (pBids L (n + 1) a) = contX (xs ++ [x.1]) (pBids L n x.2) := by
  conv => lhs; rw [pBids]
  rw [h]
  simp only
  cases pBids L n x.2 with
  | error k => rfl
  | ok ys => simp [contX]
/-- What is decoded: the error and the list. -/
def decOf (L : List UInt8) : Int × List Bd := match pCount L 512 0 with
  | .error k => (k, [])
  | .ok c => match pBids L c.1.toNat c.2 with
    | .error k => (k, [])
    | .ok y => if y.2 < L.length then (5, []) else if bidsB (y.1.map Bd.bx) then (0, y.1) else (6, [])
theorem bidB_data (x : Bx) : bidB x = bidB (Bd.bx x.data) := rfl
theorem adjB_data (xs : List Bx) (k : Nat) : adjB xs k = adjB ((xs.map Bx.data).map Bd.bx) k := by
  cases k with
  | zero =>
    simp only [adjB, List.getElem?_map]
    cases xs[0]? with
    | none => rfl
    | some x => rfl
  | succ j =>
    simp only [adjB, List.getElem?_map]
    cases xs[j + 1]? with
    | none => rfl
    | some x =>
      cases xs[j]? with
      | none => rfl
      | some y => rfl
theorem bidsB_data (xs : List Bx) : bidsB xs = bidsB ((xs.map Bx.data).map Bd.bx) := by
  unfold bidsB
  rw [List.length_map, List.length_map]
  exact congrArg (List.all (List.range xs.length)) (funext fun k => adjB_data xs k)
/-- The head of a bid: two numbers and a count. -/
theorem bid_head (L : List UInt8) (a : Nat) (s1 s2 s3 : Int × Nat) (st pf n : Int) (h1 : rRead 0 (pUint L) (0, a) = (st, s1)) (h2 : rRead 0 (pUint L) s1 = (pf, s2)) (h3 : rRead 0 (pCount L 3) s2 = (n, s3)) :
    (s3.1 ≠ 0 ∧ n = 0 ∧ pBid L a = .error s3.1 ∧ Fits st ∧ Fits pf) ∨ (s3.1 = 0 ∧ 0 ≤ n ∧ n ≤ 3 ∧ Fits st ∧ Fits pf ∧ pBid L a = match pNums L n.toNat s3.2 with
        | .error k => .error k
        | .ok f => .ok ((st, pf, f.1), f.2)) := by
  unfold rRead at h1
  simp only [if_true] at h1
  cases g1 : pUint L a with
  | error k =>
    rw [g1] at h1
    simp only [Prod.mk.injEq] at h1
    obtain ⟨rfl, rfl⟩ := h1
    have hk := pUint_err g1
    unfold rRead at h2
    rw [if_neg hk] at h2
    simp only [Prod.mk.injEq] at h2
    obtain ⟨rfl, rfl⟩ := h2
    unfold rRead at h3
    rw [if_neg hk] at h3
    simp only [Prod.mk.injEq] at h3
    obtain ⟨rfl, rfl⟩ := h3
    exact .inl ⟨hk, rfl, by unfold pBid; rw [g1], fit_near (by omega) (by omega), fit_near (by omega) (by omega)⟩
  | ok x =>
    rw [g1] at h1
    simp only [Prod.mk.injEq] at h1
    obtain ⟨rfl, rfl⟩ := h1
    have fx : Fits x.1 := ⟨by have := (canon_uint g1).1; omega, pUint_le g1⟩
    unfold rRead at h2
    simp only [if_true] at h2
    cases g2 : pUint L x.2 with
    | error k =>
      rw [g2] at h2
      simp only [Prod.mk.injEq] at h2
      obtain ⟨rfl, rfl⟩ := h2
      have hk := pUint_err g2
      unfold rRead at h3
      rw [if_neg hk] at h3
      simp only [Prod.mk.injEq] at h3
      obtain ⟨rfl, rfl⟩ := h3
      exact .inl ⟨hk, rfl, by unfold pBid; rw [g1]; simp only; rw [g2], fx, fit_near (by omega) (by omega)⟩
    | ok y =>
      rw [g2] at h2
      simp only [Prod.mk.injEq] at h2
      obtain ⟨rfl, rfl⟩ := h2
      have fy : Fits y.1 := ⟨by have := (canon_uint g2).1; omega, pUint_le g2⟩
      unfold rRead at h3
      simp only [if_true] at h3
      cases g3 : pCount L 3 y.2 with
      | error k =>
        rw [g3] at h3
        simp only [Prod.mk.injEq] at h3
        obtain ⟨rfl, rfl⟩ := h3
        exact .inl ⟨pCount_err g3, rfl, by unfold pBid; rw [g1]; simp only; rw [g2]; simp only; rw [g3], fx, fy⟩
      | ok c =>
        rw [g3] at h3
        simp only [Prod.mk.injEq] at h3
        obtain ⟨rfl, rfl⟩ := h3
        have := pCount_ok g3
        exact .inr ⟨rfl, this.1, this.2.1, fx, fy, by unfold pBid; rw [g1]; simp only; rw [g2]; simp only; rw [g3]⟩
/-- One more number of the fallbacks. -/
theorem nums_next {L : List UInt8} {n j : Nat} {fs : List Int} {s s' : Int × Nat} {x : Int} {res : Except Int (List Int × Nat)} (hj : j < n) (h : rRead 0 (pUint L) s = (x, s')) (h0 : s.1 = 0 → res = contX fs (pNums L (n - j) s.2)) (h1 : s.1 ≠ 0 → res = .error s.1) :
    (s'.1 = 0 → res = contX (fs ++ [x]) (pNums L (n - (j + 1)) s'.2)) ∧ (s'.1 ≠ 0 → res = .error s'.1) ∧ Fits x := by
  unfold rRead at h
  by_cases hs : s.1 = 0
  · rw [if_pos hs] at h
    have hr := h0 hs
    rw [show n - j = (n - (j + 1)) + 1 by omega] at hr
    cases g : pUint L s.2 with
    | error k =>
      rw [g] at h
      simp only [Prod.mk.injEq] at h
      obtain ⟨rfl, rfl⟩ := h
      rw [nums_bad g] at hr
      exact ⟨fun e => absurd e (pUint_err g), fun _ => hr, fit_near (by omega) (by omega)⟩
    | ok y =>
      rw [g] at h
      simp only [Prod.mk.injEq] at h
      obtain ⟨rfl, rfl⟩ := h
      rw [nums_step g] at hr
      exact ⟨fun _ => hr, fun e => absurd rfl e, by have := (canon_uint g).1; omega, pUint_le g⟩
  · rw [if_neg hs] at h
    simp only [Prod.mk.injEq] at h
    obtain ⟨rfl, rfl⟩ := h
    exact ⟨fun e => absurd e hs, fun _ => h1 hs, fit_near (by omega) (by omega)⟩
theorem pUint_at {L : List UInt8} {a : Nat} {x : Int × Nat} (h : pUint L a = .ok x) : a ≤ x.2 ∧ x.2 ≤ L.length := by
  have := (canon_uint h).2
  exact ⟨this.1, this.2.1⟩
theorem pNums_le {L : List UInt8} : ∀ (n a : Nat) (y : List Int × Nat), a ≤ L.length → pNums L n a = .ok y → y.1.length = n ∧ y.2 ≤ L.length ∧ ∀ m ∈ y.1, Fits m
  | 0, a, y, ha, h => by
    unfold pNums at h
    cases h
    exact ⟨rfl, ha, by simp⟩
  | n + 1, a, y, ha, h => by
    unfold pNums at h
    cases g : pUint L a with
    | error k => rw [g] at h; cases h
    | ok x =>
      rw [g] at h
      simp only at h
      cases g2 : pNums L n x.2 with
      | error k => rw [g2] at h; cases h
      | ok z =>
        rw [g2] at h
        cases h
        obtain ⟨h1, h2, h3⟩ := pNums_le n x.2 z (pUint_at g).2 g2
        refine ⟨by simp [h1], h2, fun m hm => ?_⟩
        rcases List.mem_cons.1 hm with rfl | hm
        · exact ⟨by have := (canon_uint g).1; omega, pUint_le g⟩
        · exact h3 m hm
end Go.Proofs.Ytpbknnkobhjjcaa
