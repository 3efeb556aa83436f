/- Reading behind an offset is reading from what lies behind it. No program is walked. -/
import Derived.Test.YtpbknnkobhjjcaaRd3
namespace Go.Proofs.Ytpbknnkobhjjcaa
open Go.RowKit

/-- The offset is moved. -/
def shiftR {α : Type} (a : Nat) (r : Except Int (α × Nat)) : Except Int (α × Nat) := match r with
  | .error k => .error k
  | .ok x => .ok (x.1, a + x.2)
theorem pGroup_sh (l : List UInt8) (a f : Nat) : pGroup l f 0 0 a = shiftR a (pGroup (l.drop a) f 0 0 0) := by
  have := pGroup_drop l a f 0 0 0
  rw [Nat.add_zero] at this
  rw [this]
  cases pGroup (l.drop a) f 0 0 0 <;> rfl
theorem pUint_sh (l : List UInt8) (a : Nat) : pUint l a = shiftR a (pUint (l.drop a) 0) := by
  unfold pUint
  rw [pGroup_sh]
  cases pGroup (l.drop a) 9 0 0 0 <;> rfl
theorem pInt_sh (l : List UInt8) (a : Nat) : pInt l a = shiftR a (pInt (l.drop a) 0) := by
  unfold pInt
  rw [pGroup_sh]
  cases pGroup (l.drop a) 10 0 0 0 <;> rfl
theorem pCount_sh (l : List UInt8) (limit : Int) (a : Nat) : pCount l limit a = shiftR a (pCount (l.drop a) limit 0) := by
  unfold pCount
  rw [pGroup_sh]
  cases pGroup (l.drop a) 9 0 0 0 with
  | error k => rfl
  | ok x =>
    simp only [shiftR]
    split
    · rfl
    · split <;> rfl
theorem pBool_sh (l : List UInt8) (a : Nat) : pBool l a = shiftR a (pBool (l.drop a) 0) := by
  unfold pBool
  rw [List.getElem?_drop, Nat.add_zero]
  cases l[a]? with
  | none => rfl
  | some b =>
    simp only
    split <;> rfl
theorem pPart_sh (l : List UInt8) (limit : Int) (a : Nat) : pPart l limit a = shiftR a (pPart (l.drop a) limit 0) := by
  unfold pPart
  rw [pCount_sh]
  cases pCount (l.drop a) limit 0 with
  | error k => rfl
  | ok x =>
    simp only [shiftR, List.length_drop, List.drop_drop, Nat.sub_sub]
    by_cases h : l.length - (a + x.2) < x.1.toNat
    · rw [if_pos h, if_pos h]
    · rw [if_neg h, if_neg h, Nat.add_assoc]
theorem pInt_sh2 (l : List UInt8) (a b : Nat) : pInt l (a + b) = shiftR a (pInt (l.drop a) b) := by
  rw [pInt_sh l (a + b), pInt_sh (l.drop a) b, List.drop_drop]
  cases pInt (l.drop (a + b)) 0 with
  | error k => rfl
  | ok x => simp only [shiftR, Nat.add_assoc]
theorem pList_sh (l : List UInt8) (a : Nat) : ∀ n b : Nat, pList l n (a + b) = shiftR a (pList (l.drop a) n b)
  | 0, b => rfl
  | n + 1, b => by
    unfold pList
    rw [pInt_sh2]
    cases pInt (l.drop a) b with
    | error k => rfl
    | ok x =>
      simp only [shiftR]
      rw [pList_sh l a n x.2]
      cases pList (l.drop a) n x.2 with
      | error k => rfl
      | ok y => rfl
theorem pInts_sh (l : List UInt8) (limit : Int) (a : Nat) : pInts l limit a = shiftR a (pInts (l.drop a) limit 0) := by
  unfold pInts
  rw [pCount_sh]
  cases pCount (l.drop a) limit 0 with
  | error k => rfl
  | ok x =>
    simp only [shiftR]
    rw [pList_sh l a]
    rfl
end Go.Proofs.Ytpbknnkobhjjcaa
