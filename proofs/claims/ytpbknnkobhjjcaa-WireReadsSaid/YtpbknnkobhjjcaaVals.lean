/- The values of the laws of layer 6: how a list of them lies in memory; writing one. -/
import Derived.Test.YtpbknnkobhjjcaaRound2
import Derived.Test.YtpbknnkobhjjcaaHand
namespace Go.Proofs.Ytpbknnkobhjjcaa
open Go.RowKit

/-- A list of rows of equal length, laid end to end. -/
theorem flat_at {α β : Type} (f : α → List β) (c : Nat) (hc : ∀ x, (f x).length = c) : ∀ (xs : List α) (k j : Nat) (hk : k < xs.length), j < c → (xs.flatMap f)[k * c + j]? = (f xs[k])[j]?
  | [], k, j, hk, _ => absurd hk (by simp)
  | x :: xs, 0, j, hk, hj => by
    rw [List.flatMap_cons, List.getElem?_append_left (by rw [hc]; omega)]
    simp
  | x :: xs, k + 1, j, hk, hj => by
    have h1 : (k + 1) * c + j = (k * c + j) + c := by rw [Nat.add_mul]; omega
    rw [List.flatMap_cons, List.getElem?_append_right (by rw [hc]; omega), hc, h1, Nat.add_sub_cancel, flat_at f c hc xs k j (by simpa using hk) hj]
    simp
/-- The address of a slice that is not empty, and its cells, row by row. -/
theorem Reads.rows {α : Type} {w : World} {v : Value} {xs : List α} {c : Nat} {f : α → List Value} (h : Reads w c v xs.length (xs.flatMap f)) (hc : ∀ x, (f x).length = c) (hn : 0 < xs.length) :
    ∃ b off cap, v = .slice (some ⟨b, off, none⟩) xs.length cap ∧ b < w.heap.size ∧ xs.length ≤ cap ∧ cap ≤ maxLen ∧ ∀ (k j : Nat) (hk : k < xs.length) (u : Value), j < c → (f xs[k])[j]? = some u → w.cell? ⟨b, off + k * c + j, none⟩ = some u := by
  obtain ⟨A, cap, rfl, h1, h2, h3, h4⟩ := h
  obtain ⟨b, off, rfl, hb, hcell⟩ := h4 hn
  refine ⟨b, off, cap, rfl, hb, h1, h2, fun k j hk u hj hu => ?_⟩
  rw [← flat_at f c hc xs k j hk hj] at hu
  have := hcell _ u hu
  rwa [← Nat.add_assoc] at this

structure Vx where
  kind : UInt8
  n : Int
  tv : Value
  text : List UInt8
  lv : Value
  list : List Int
def Vx.cells (x : Vx) : List Value := [B x.kind, I x.n, x.tv, x.lv]
def Vx.Ok (w : World) (x : Vx) : Prop := Fits x.n ∧ Bytes w x.tv x.text ∧ Ints w x.lv x.list
def Vals (w : World) (v : Value) (xs : List Vx) : Prop := Reads w 4 v xs.length (xs.flatMap Vx.cells) ∧ ∀ x ∈ xs, x.Ok w
theorem Ints.touch {w w' : World} {v : Value} {l : List Int} {L : List Nat} (h : Ints w v l) (ht : Touch L w w') (hv : ∀ b ∈ rb v, b ∉ L) : Ints w' v l := ⟨h.1.touch ht hv, h.2⟩
theorem Ints.touch0 {w w' : World} {v : Value} {l : List Int} (h : Ints w v l) (ht : Touch [] w w') : Ints w' v l := ⟨h.1.touch0 ht, h.2⟩
theorem Vx.Ok.touch0 {w w' : World} {x : Vx} (h : x.Ok w) (ht : Touch [] w w') : x.Ok w' := ⟨h.1, Reads.touch0 h.2.1 ht, h.2.2.touch0 ht⟩
theorem Vals.touch0 {w w' : World} {v : Value} {xs : List Vx} (h : Vals w v xs) (ht : Touch [] w w') : Vals w' v xs := ⟨Reads.touch0 h.1 ht, fun x hx => (h.2 x hx).touch0 ht⟩
/-- What a value is read from lies in old memory. -/
theorem Vx.Ok.lt {w : World} {x : Vx} (h : x.Ok w) : (∀ g ∈ rb x.tv, g < w.heap.size) ∧ ∀ g ∈ rb x.lv, g < w.heap.size := ⟨Reads.lt h.2.1, Reads.lt h.2.2.1⟩

/-- What writing a value does. -/
def wVal (s : WS) (x : Vx) : WS :=
  if x.kind.toNat % 6 = 0 then wUint s x.n else if x.kind.toNat % 6 = 1 then wInt s x.n else if x.kind.toNat % 6 = 2 then wBool s (x.n != 0)
  else if x.kind.toNat % 6 = 3 then wBytes s x.text else if x.kind.toNat % 6 = 4 then wBytes s x.text else wInts s x.list

theorem WrDone.later {w w1 w' : World} {p : Nat} {out : Value} {s : WS} {r : Ending} (h : WrDone w1 p out s r w') (ht : Touch [] w w1) : WrDone w p out s r w' := by
  obtain ⟨rfl, out', h1, h2, h3⟩ := h
  exact ⟨rfl, out', h1, (ht.mono (by simp)).trans h2, fun g hg => by rcases h3 g hg with h | h; exact .inl h; exact .inr (Nat.le_trans ht.size h)⟩
theorem Wr.touch0 {w w' : World} {p : Nat} {out : Value} {s : WS} (h : Wr w p out s) (ht : Touch [] w w') : Wr w' p out s :=
  ⟨h.1.touch ht (by simp), fun he => ⟨Own.touch0 (h.2 he).1 ht, (h.2 he).2⟩⟩

set_option maxRecDepth 100000 in
set_option maxHeartbeats 1000000 in
theorem write_any (p : Nat) (out : Value) (s : WS) (x : Vx) (w : World) (h : Wr w p out s) (hx : x.Ok w) (hd : s.1 = 0 → (∀ g ∈ rb x.tv, g ∉ blk out) ∧ ∀ g ∈ rb x.lv, g ∉ blk out) :
    Calls Try.prog 20 #[.pointer (some ⟨p, 0, none⟩), .agg #[B x.kind, I x.n, x.tv, x.lv]] w (WrDone w p out (wVal s x)) := by
  obtain ⟨kind, n, tv, text, lv, list⟩ := x
  obtain ⟨⟨hf1, hf2⟩, hT, hL⟩ := hx
  simp only at hf1 hf2 hT hL hd
  unfold B I wVal
  simp only
  have hk := UInt8.toNat_lt kind
  generalize kind.toNat = k at *
  have hp : p < w.heap.size := h.1.lt
  have ha := (Touch.refl [] w).alloc (.cells #[.int .u8 k, .int .i64 n, tv, lv] 35)
  have h' := h.touch0 ha
  have hT' : Bytes _ tv text := Reads.touch0 hT ha
  have hL' := hL.touch0 ha
  clear h hT hL
  have hTl : text.length ≤ maxLen := by obtain ⟨_, _, _, h1, h2, _⟩ := hT'; omega
  have hcase : k % 6 = 0 ∨ k % 6 = 1 ∨ k % 6 = 2 ∨ k % 6 = 3 ∨ k % 6 = 4 ∨ k % 6 = 5 := by omega
  rcases hcase with hk6 | hcase
  · have q0 : (((k : Int) % 6) == 0) = true := by simp; omega
    have e : (if k % 6 = 0 then wUint s n else if k % 6 = 1 then wInt s n else if k % 6 = 2 then wBool s (n != 0) else if k % 6 = 3 then wBytes s text else if k % 6 = 4 then wBytes s text else wInts s list) = wUint s n := by rw [if_pos hk6]
    rw [e]
    clear e hk6
    go_enter Try.func20, Try.ntmps20
    go_wp2_with fail
    refine (wr_uint _ _ _ n _ h' hf2).mono ?_
    intro r w1 hd1
    obtain ⟨rfl, -⟩ := id hd1
    go_wp2_with fail
    go_end0
    exact hd1.later ha
  rcases hcase with hk6 | hcase
  · have q0 : (((k : Int) % 6) == 0) = false := by simp; omega
    have q1 : (((k : Int) % 6) == 1) = true := by simp; omega
    have e : (if k % 6 = 0 then wUint s n else if k % 6 = 1 then wInt s n else if k % 6 = 2 then wBool s (n != 0) else if k % 6 = 3 then wBytes s text else if k % 6 = 4 then wBytes s text else wInts s list) = wInt s n := by rw [if_neg (by omega)] ; rw [if_pos hk6]
    rw [e]
    clear e hk6
    go_enter Try.func20, Try.ntmps20
    go_wp2_with fail
    refine (wr_int _ _ _ n _ h' hf1 hf2).mono ?_
    intro r w1 hd1
    obtain ⟨rfl, -⟩ := id hd1
    go_wp2_with fail
    go_end0
    exact hd1.later ha
  rcases hcase with hk6 | hcase
  · have q0 : (((k : Int) % 6) == 0) = false := by simp; omega
    have q1 : (((k : Int) % 6) == 1) = false := by simp; omega
    have q2 : (((k : Int) % 6) == 2) = true := by simp; omega
    have e : (if k % 6 = 0 then wUint s n else if k % 6 = 1 then wInt s n else if k % 6 = 2 then wBool s (n != 0) else if k % 6 = 3 then wBytes s text else if k % 6 = 4 then wBytes s text else wInts s list) = wBool s (n != 0) := by rw [if_neg (by omega)] ; rw [if_neg (by omega)] ; rw [if_pos hk6]
    rw [e]
    clear e hk6
    go_enter Try.func20, Try.ntmps20
    go_wp2_with fail
    refine (wr_bool _ _ _ (n != 0) _ h').mono ?_
    intro r w1 hd1
    obtain ⟨rfl, -⟩ := id hd1
    go_wp2_with fail
    go_end0
    exact hd1.later ha
  rcases hcase with hk6 | hcase
  · have q0 : (((k : Int) % 6) == 0) = false := by simp; omega
    have q1 : (((k : Int) % 6) == 1) = false := by simp; omega
    have q2 : (((k : Int) % 6) == 2) = false := by simp; omega
    have q3 : (((k : Int) % 6) == 3) = true := by simp; omega
    have e : (if k % 6 = 0 then wUint s n else if k % 6 = 1 then wInt s n else if k % 6 = 2 then wBool s (n != 0) else if k % 6 = 3 then wBytes s text else if k % 6 = 4 then wBytes s text else wInts s list) = wBytes s text := by rw [if_neg (by omega)] ; rw [if_neg (by omega)] ; rw [if_neg (by omega)] ; rw [if_pos hk6]
    rw [e]
    clear e hk6
    go_enter Try.func20, Try.ntmps20
    go_wp2_with fail
    refine (wr_bytes _ _ _ _ text _ h' hT' (fun e => (hd e).1)).mono ?_
    intro r w1 hd1
    obtain ⟨rfl, -⟩ := id hd1
    go_wp2_with fail
    go_end0
    exact hd1.later ha
  rcases hcase with hk6 | hcase
  · have q0 : (((k : Int) % 6) == 0) = false := by simp; omega
    have q1 : (((k : Int) % 6) == 1) = false := by simp; omega
    have q2 : (((k : Int) % 6) == 2) = false := by simp; omega
    have q3 : (((k : Int) % 6) == 3) = false := by simp; omega
    have q4 : (((k : Int) % 6) == 4) = true := by simp; omega
    have e : (if k % 6 = 0 then wUint s n else if k % 6 = 1 then wInt s n else if k % 6 = 2 then wBool s (n != 0) else if k % 6 = 3 then wBytes s text else if k % 6 = 4 then wBytes s text else wInts s list) = wBytes s text := by rw [if_neg (by omega)] ; rw [if_neg (by omega)] ; rw [if_neg (by omega)] ; rw [if_neg (by omega)] ; rw [if_pos hk6]
    rw [e]
    clear e hk6
    have kc := run_str hT'
    go_enter Try.func20, Try.ntmps20
    go_wp2_with fail
    refine (wr_str _ _ _ ⟨text.toArray⟩ _ h' (by show text.toArray.size ≤ maxLen; simpa using hTl)).mono ?_
    intro r w1 hd1
    obtain ⟨rfl, -⟩ := id hd1
    go_wp2_with fail
    go_end0
    exact hd1.later ha
  have hk6 := hcase
  have q0 : (((k : Int) % 6) == 0) = false := by simp; omega
  have q1 : (((k : Int) % 6) == 1) = false := by simp; omega
  have q2 : (((k : Int) % 6) == 2) = false := by simp; omega
  have q3 : (((k : Int) % 6) == 3) = false := by simp; omega
  have q4 : (((k : Int) % 6) == 4) = false := by simp; omega
  have e : (if k % 6 = 0 then wUint s n else if k % 6 = 1 then wInt s n else if k % 6 = 2 then wBool s (n != 0) else if k % 6 = 3 then wBytes s text else if k % 6 = 4 then wBytes s text else wInts s list) = wInts s list := by rw [if_neg (by omega)] ; rw [if_neg (by omega)] ; rw [if_neg (by omega)] ; rw [if_neg (by omega)] ; rw [if_neg (by omega)] ; skip
  rw [e]
  clear e hk6
  go_enter Try.func20, Try.ntmps20
  go_wp2_with fail
  refine (wr_ints _ _ _ _ list _ h' hL' (fun e => (hd e).2)).mono ?_
  intro r w1 hd1
  obtain ⟨rfl, -⟩ := id hd1
  go_wp2_with fail
  go_end0
  exact hd1.later ha
end Go.Proofs.Ytpbknnkobhjjcaa
