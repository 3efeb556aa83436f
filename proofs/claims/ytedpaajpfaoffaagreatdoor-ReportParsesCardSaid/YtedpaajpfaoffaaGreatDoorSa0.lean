/- The errors of the reader are no zero (as in XCanon, for seats that need no more of it). No program in sight. -/
import Derived.Test.YtedpaajpfaoffaaGreatDoorRdB
import Derived.Deep.DeepCutAuto
import Derived.Deep.RegionWith
set_option linter.all false
namespace Go.Proofs.YtedpaajpfaoffaaGreatDoor
open Go.RowKit
theorem pGroup_err (l : List UInt8) : ∀ (k i n a : Nat) (e : Int), pGroup l k i n a = .error e → e ≠ 0 := by
 intro k
 induction k with
 | zero => intro i n a e h; cases h; omega
 | succ k ih =>
  intro i n a e h
  unfold pGroup at h
  split at h
  ·cases h; omega
  ·split at h
   ·cases h; omega
   ·split at h
    ·split at h
     ·cases h; omega
     ·cases h
    ·exact ih _ _ _ _ h
theorem pUint_err {l : List UInt8} {a : Nat} {e : Int} (h : pUint l a = .error e) : e ≠ 0 := by
 unfold pUint at h
 cases hg : pGroup l 9 0 0 a with
 | error k => rw [hg] at h; cases h; exact pGroup_err l _ _ _ _ _ hg
 | ok x => rw [hg] at h; cases h
theorem pCount_err {l : List UInt8} {lim : Int} {a : Nat} {e : Int} (h : pCount l lim a = .error e) : e ≠ 0 := by
 unfold pCount at h
 split at h
 ·cases h; rename_i k hk; exact pGroup_err l _ _ _ _ _ hk
 ·split at h
  ·cases h; omega
  ·split at h
   ·cases h; omega
   ·cases h
theorem pPart_err {l : List UInt8} {lim : Int} {a : Nat} {e : Int} (h : pPart l lim a = .error e) : e ≠ 0 := by
 unfold pPart at h
 split at h
 ·cases h; rename_i k hk; exact pCount_err hk
 ·split at h
  ·cases h; omega
  ·cases h
end Go.Proofs.YtedpaajpfaoffaaGreatDoor
