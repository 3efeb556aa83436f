/- What is written is read again: strings, lists, truth values. No program is walked. -/
import Derived.Test.YtpbknnkobhjjcaaRound
namespace Go.Proofs.Ytpbknnkobhjjcaa
open Go.RowKit

theorem drop_app {α : Type} {L x y : List α} {a : Nat} (h : L.drop a = x ++ y) : L.drop (a + x.length) = y := by
  rw [← List.drop_drop, h, List.drop_left]
theorem len_app {α : Type} {L x y : List α} {a : Nat} (h : L.drop a = x ++ y) (hx : 0 < x.length) : L.length = a + x.length + y.length := by
  have h1 := congrArg List.length h
  rw [List.length_drop, List.length_append] at h1
  omega
theorem grp_pos (n : Nat) : 0 < (grp n).length := grpF_pos 9 n

theorem pCount_grp {L rest : List UInt8} {a m : Nat} {limit : Int} (h : L.drop a = grp m ++ rest) (hm : (m : Int) ≤ limit) (hl : limit ≤ 9223372036854775807) :
    pCount L limit a = .ok ((m : Int), a + (grp m).length) := by
  unfold pCount
  rw [pGroup9_grp h (by omega)]
  simp only
  rw [if_neg (by omega), if_neg (by omega)]
theorem pPart_grp {L l rest : List UInt8} {a : Nat} {limit : Int} (h : L.drop a = grp l.length ++ (l ++ rest)) (hm : (l.length : Int) ≤ limit) (hl : limit ≤ 9223372036854775807) :
    pPart L limit a = .ok (l, a + (grp l.length ++ l).length) := by
  unfold pPart
  rw [pCount_grp h hm hl]
  simp only [Int.toNat_natCast]
  have h1 := len_app h (grp_pos _)
  rw [List.length_append] at h1
  rw [if_neg (by omega), drop_app h, List.take_left]
  rw [List.length_append, Nat.add_assoc]
theorem pBool_enc {L rest : List UInt8} {a : Nat} {b : Bool} (h : L.drop a = (if b then (1 : UInt8) else 0) :: rest) : pBool L a = .ok (b, a + 1) := by
  unfold pBool
  rw [(at_of_drop h).1]
  cases b <;> rfl
theorem pList_encs {L : List UInt8} : ∀ (l : List Int) (rest : List UInt8) (a : Nat), L.drop a = encs l ++ rest → (∀ n ∈ l, Fits n) → pList L l.length a = .ok (l, a + (encs l).length)
  | [], rest, a, _, _ => rfl
  | n :: l, rest, a, h, hf => by
    have e : encs (n :: l) = grp (fold n) ++ encs l := rfl
    rw [e, List.append_assoc] at h
    show pList L (l.length + 1) a = _
    unfold pList
    rw [pInt_grp h (hf n (by simp))]
    simp only
    rw [pList_encs l rest _ (drop_app h) (fun m hm => hf m (by simp [hm])), e]
    simp only [List.length_append, Nat.add_assoc]
theorem pInts_grp {L rest : List UInt8} {l : List Int} {a : Nat} {limit : Int} (h : L.drop a = grp l.length ++ (encs l ++ rest)) (hf : ∀ n ∈ l, Fits n) (hm : (l.length : Int) ≤ limit) (hl : limit ≤ 9223372036854775807) :
    pInts L limit a = .ok (l, a + (grp l.length ++ encs l).length) := by
  unfold pInts
  rw [pCount_grp h hm hl]
  simp only [Int.toNat_natCast]
  rw [pList_encs l rest _ (drop_app h) hf, List.length_append, Nat.add_assoc]
/-- A step of a reader that has not failed. -/
theorem rRead_ok {α : Type} {z : α} {res : Nat → Except Int (α × Nat)} {a : Nat} {x : α} {a' : Nat} (h : res a = .ok (x, a')) : rRead z res (0, a) = (x, (0, a')) := by
  unfold rRead
  rw [if_pos rfl]
  simp only [h]

theorem frame_form (k : Int) (l : List UInt8) (hk : 0 ≤ k) (hl : l.length ≤ 65000) : wBytes (wUint (0, []) k) l = (0, grp k.toNat ++ (grp l.length ++ l)) := by
  have h1 := grp_len k.toNat
  have h2 := grp_len l.length
  have e : wUint (0, []) k = (0, grp k.toNat) := by
    unfold wUint wPut
    rw [if_neg (by omega)]
    simp only [if_true]
    rw [if_pos (by simp; omega)]
    rfl
  rw [e]
  unfold wBytes wPut
  simp only [if_true]
  rw [if_pos (by rw [List.length_append]; omega)]
theorem frame_neg (k : Int) (l : List UInt8) (hk : k < 0) : wBytes (wUint (0, []) k) l = (2, []) := by
  unfold wUint wErr
  rw [if_pos hk]
  rfl
theorem frame_again (k : Int) (l : List UInt8) (h0 : 0 ≤ k) (hk : Fits k) (hl : l.length ≤ 65536) : uFrame (grp k.toNat ++ (grp l.length ++ l)) = (k, l, 0) := by
  have h1 : rRead 0 (pUint (grp k.toNat ++ (grp l.length ++ l))) (0, 0) = (k, (0, (grp k.toNat).length)) := by
    have := rRead_ok (z := (0 : Int)) (pUint_grp (l := grp k.toNat ++ (grp l.length ++ l)) (rest := grp l.length ++ l) (a := 0) (by simp) h0 hk)
    simpa using this
  have hd : (grp k.toNat ++ (grp l.length ++ l)).drop (grp k.toNat).length = grp l.length ++ (l ++ []) := by rw [List.drop_left, List.append_nil]
  have h2 : rRead [] (pPart (grp k.toNat ++ (grp l.length ++ l)) 65536) (0, (grp k.toNat).length) = (l, (0, (grp k.toNat).length + (grp l.length ++ l).length)) :=
    rRead_ok (pPart_grp (limit := 65536) hd (by omega) (by omega))
  have h3 : rEnd (grp k.toNat ++ (grp l.length ++ l)) 0 ((grp k.toNat).length + (grp l.length ++ l).length) = 0 := by
    unfold rEnd
    rw [if_pos rfl, if_neg (by simp)]
  unfold uFrame
  simp only [h1, h2, h3, if_true]
end Go.Proofs.Ytpbknnkobhjjcaa
