/- Plain facts on group encodings: no program in sight. -/
import Derived.WalkKit
namespace Go.Proofs.Ytpbknnkobhjjcaa

/-- A byte as a value. -/
def B (x : UInt8) : Value := .int .u8 (x.toNat : Int)
/-- The group encoding with at most f continuation bytes. -/
def grpF : Nat → Nat → List UInt8
  | 0, n => [UInt8.ofNat n]
  | f + 1, n => if n < 128 then [UInt8.ofNat n] else UInt8.ofNat (n % 128 + 128) :: grpF f (n / 128)
def grp (n : Nat) : List UInt8 := grpF 9 n

theorem grpF_len (f : Nat) : ∀ n, (grpF f n).length ≤ f + 1 := by
  induction f with
  | zero => intro n; simp [grpF]
  | succ f ih => intro n; unfold grpF; split; simp; have := ih (n / 128); simp; omega
theorem grp_len (n : Nat) : (grp n).length ≤ 10 := grpF_len 9 n
theorem grpF_pos (f n : Nat) : 0 < (grpF f n).length := by cases f <;> simp [grpF]; split <;> simp
/-- The bound is not felt where the number is small. -/
theorem grpF_more (f : Nat) : ∀ n, n < 128 ^ (f + 1) → grpF (f + 1) n = grpF f n := by
  induction f with
  | zero => intro n h; unfold grpF; rw [if_pos (by omega)]
  | succ f ih =>
    intro n h
    rw [grpF]
    conv => rhs; rw [grpF]
    by_cases hn : n < 128
    · rw [if_pos hn, if_pos hn]
    · rw [if_neg hn, if_neg hn, ih (n / 128) (by rw [Nat.pow_succ] at h; omega)]

theorem bits_or128 : ∀ k : Fin 256, bits .or .u8 (k.val : Int) 128 = ((k.val % 128 + 128 : Nat) : Int) := by decide +kernel
theorem B_or128 (m : Nat) : Value.int .u8 (bits .or .u8 ((m : Int) % 256) 128) = B (UInt8.ofNat (m % 128 + 128)) := by
  have h := bits_or128 ⟨m % 256, by omega⟩
  simp only at h
  have e : ((m : Int) % 256) = ((m % 256 : Nat) : Int) := by omega
  rw [e, h]
  unfold B
  congr 2
  rw [UInt8.toNat_ofNat']
  omega
theorem B_small (m : Nat) (h : m < 256) : Value.int .u8 (m : Int) = B (UInt8.ofNat m) := by
  unfold B
  congr 2
  rw [UInt8.toNat_ofNat']
  omega

/-- How a signed number is folded. -/
def fold (n : Int) : Nat := if n < 0 then (2 * (-(n + 1)) + 1).toNat else (2 * n).toNat
theorem fold_lt (n : Int) (h1 : -9223372036854775808 ≤ n) (h2 : n ≤ 9223372036854775807) : fold n < 18446744073709551616 := by
  unfold fold; split <;> omega
theorem or_one (n : Int) (h1 : -9223372036854775808 ≤ n) (h2 : n < 0) : bits .or .u64 (-(n + 1) * 2) 1 = (fold n : Int) := by
  rw [u64_or _ _ (by omega) (by omega) (by omega) (by omega)]
  have e : (-(n + 1) * 2).toNat ||| (1 : Int).toNat = (-(n + 1) * 2).toNat + 1 := nat_join 1 _ _ (by omega) (by decide)
  rw [e]
  unfold fold
  rw [if_pos h2]
  omega

/-- What a writer comes to: its first error and its encoding. -/
abbrev WS := Int × List UInt8
def wPut (s : WS) (enc : List UInt8) : WS := if s.1 = 0 then (if s.2.length + enc.length ≤ 65536 then (0, s.2 ++ enc) else (7, s.2)) else s
def wErr (s : WS) (k : Int) : WS := if s.1 = 0 then (k, s.2) else s
def wUint (s : WS) (n : Int) : WS := if n < 0 then wErr s 2 else wPut s (grp n.toNat)
def wInt (s : WS) (n : Int) : WS := wPut s (grp (fold n))
def wBool (s : WS) (b : Bool) : WS := wPut s [if b then 1 else 0]
def wBytes (s : WS) (l : List UInt8) : WS := wPut s (grp l.length ++ l)
def wInts (s : WS) (l : List Int) : WS := wPut s (grp l.length ++ l.flatMap fun n => grp (fold n))
theorem wPut_bad (s : WS) (enc : List UInt8) (h : ¬ s.1 = 0) : wPut s enc = s := if_neg h
theorem wErr_bad (s : WS) (k : Int) (h : ¬ s.1 = 0) : wErr s k = s := if_neg h
theorem wUint_bad (s : WS) (n : Int) (h : ¬ s.1 = 0) : wUint s n = s := by unfold wUint; rw [wErr_bad s _ h, wPut_bad s _ h]; split <;> rfl

end Go.Proofs.Ytpbknnkobhjjcaa
