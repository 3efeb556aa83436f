/- An abstract interpreter of the model's code, twenty-fourth part: a fast layer for the kernel: whole numbers. -/
import Derived.Test.YtmnaddlniaklcaaGreatDoorEv23
import Derived.IntWalk
namespace Go.Proofs.YtmnaddlniaklcaaGreatDoor.Ev
open Go

def addI : Int → Int → Int
  | .ofNat x, .ofNat y => .ofNat (Nat.add x y)
  | a, b => a + b
def subI : Int → Int → Int
  | .ofNat x, .ofNat y => match Nat.ble y x with | true => .ofNat (Nat.sub x y) | false => Int.ofNat x - Int.ofNat y
  | a, b => a - b
def mulI : Int → Int → Int
  | .ofNat x, .ofNat y => .ofNat (Nat.mul x y)
  | a, b => a * b
def ltI : Int → Int → Bool
  | .ofNat x, .ofNat y => Nat.blt x y
  | .ofNat _, .negSucc _ => false
  | .negSucc _, .ofNat _ => true
  | .negSucc x, .negSucc y => Nat.blt y x
def eqI : Int → Int → Bool
  | .ofNat x, .ofNat y => Nat.beq x y
  | .negSucc x, .negSucc y => Nat.beq x y
  | _, _ => false
def wrapF (k : IntKind) (n : Int) : Int :=
  match n with
  | .ofNat m => match k with
    | .i64 => match Nat.blt m 9223372036854775808 with | true => .ofNat m | false => k.wrap (.ofNat m)
    | .u64 => match Nat.blt m 18446744073709551616 with | true => .ofNat m | false => k.wrap (.ofNat m)
    | _ => k.wrap (.ofNat m)
  | .negSucc m => k.wrap (.negSucc m)

theorem addI_eq (a b : Int) : addI a b = a + b := by cases a <;> cases b <;> rfl
theorem mulI_eq (a b : Int) : mulI a b = a * b := by cases a <;> cases b <;> rfl
theorem subI_eq (a b : Int) : subI a b = a - b := by
  cases a with
  | negSucc _ => cases b <;> rfl
  | ofNat x => cases b with
    | negSucc _ => rfl
    | ofNat y =>
      simp only [subI]
      split
      · rename_i h
        have := Nat.le_of_ble_eq_true h
        show ((x - y : Nat) : Int) = (x : Int) - (y : Int)
        omega
      · rfl
theorem blt_iff (a b : Nat) : Nat.blt a b = decide (a < b) := by
  rw [Bool.eq_iff_iff]
  simp [Nat.blt, Nat.ble_eq]
  omega
theorem ltI_eq (a b : Int) : ltI a b = decide (a < b) := by
  cases a <;> cases b <;> simp only [ltI, blt_iff]
  · simp
  · rename_i x y; simp; have : Int.negSucc y < 0 := Int.negSucc_lt_zero y; omega
  · rename_i x y; simp; have : Int.negSucc x < 0 := Int.negSucc_lt_zero x; omega
  · rename_i x y; simp only [Int.negSucc_eq]; rw [decide_eq_decide]; omega
theorem eqI_eq (a b : Int) : eqI a b = (a == b) := by
  cases a <;> cases b <;> simp only [eqI] <;> rw [Bool.eq_iff_iff] <;> simp <;> try omega
theorem wrapF_eq (k : IntKind) (n : Int) : wrapF k n = k.wrap n := by
  unfold wrapF
  split
  · rename_i m
    split
    · split
      · rename_i h; have := blt_lt h; exact (IntWalk.i64_in _ ⟨by show (-9223372036854775808 : Int) ≤ (m : Int); omega, by show (m : Int) ≤ _; omega⟩).symm
      · rfl
    · split
      · rename_i h
        have := blt_lt h
        show (m : Int) = IntKind.u64.wrap (m : Int)
        unfold IntKind.wrap
        simp [IntKind.signed, IntKind.bits]
        omega
      · rfl
    · rfl
  · rfl

/-- An operation on two whole numbers of one kind. -/
def fbin (op : BinOp) (k : IntKind) (a b : Int) : Option At :=
  match op with
  | .add => some (.int k (wrapF k (addI a b)))
  | .sub => some (.int k (wrapF k (subI a b)))
  | .mul => some (.int k (wrapF k (mulI a b)))
  | .lss => some (.bool (ltI a b))
  | .leq => some (.bool (!ltI b a))
  | .gtr => some (.bool (ltI b a))
  | .geq => some (.bool (!ltI a b))
  | .eql => some (.bool (eqI a b))
  | .neq => some (.bool (!eqI a b))
  | _ => none

theorem fbin_ok {op : BinOp} {k : IntKind} {a b : Int} {r : At} (h : fbin op k a b = some r) (t : TypeId) : ∃ v, absV v = some (.one r) ∧ Go.binOp op t (.int k a) (.int k b) = pure v := by
  have e1 : ∀ x y : Int, (!ltI y x) = decide (x ≤ y) := fun x y => by rw [ltI_eq, ← decide_not, decide_eq_decide]; omega
  cases op <;> simp only [fbin] at h <;> cases h
  · exact ⟨.int k (k.wrap (a + b)), by simp [absV, absC, absAt, wrapF_eq, addI_eq], by simp [Go.binOp, Op.intArith]⟩
  · exact ⟨.int k (k.wrap (a - b)), by simp [absV, absC, absAt, wrapF_eq, subI_eq], by simp [Go.binOp, Op.intArith]⟩
  · exact ⟨.int k (k.wrap (a * b)), by simp [absV, absC, absAt, wrapF_eq, mulI_eq], by simp [Go.binOp, Op.intArith]⟩
  · exact ⟨.bool (a == b), by simp [absV, absC, absAt, eqI_eq], by simp [Go.binOp, Op.intCmp]⟩
  · exact ⟨.bool (a != b), by simp [absV, absC, absAt, eqI_eq, bne], by simp [Go.binOp, Op.intCmp]⟩
  · exact ⟨.bool (decide (a < b)), by simp [absV, absC, absAt, ltI_eq], by simp [Go.binOp, Op.intCmp]⟩
  · exact ⟨.bool (decide (a ≤ b)), by simp only [absV, absC, absAt, e1], by simp [Go.binOp, Op.intCmp]⟩
  · exact ⟨.bool (decide (a > b)), by simp [absV, absC, absAt, ltI_eq], by simp [Go.binOp, Op.intCmp]⟩
  · exact ⟨.bool (decide (a ≥ b)), by simp only [absV, absC, absAt, e1], by simp [Go.binOp, Op.intCmp]⟩

theorem evPure_bin {P : Program} {dst : Option Tmp} {op : BinOp} {t yt : TypeId} {x y : Operand} {type : TypeId} {pos : String} {after : Array Edge} {guard : Option (Nat × Bool)} {tm : Tr V} {k : IntKind} {a b : Int} {r : At}
    (hx : evO P tm x = some (.one (.int k a))) (hy : evO P tm y = some (.one (.int k b))) (h : fbin op k a b = some r) : evPure P ⟨dst, .binOp op t x y yt, type, pos, after, guard⟩ tm = some (.one r) := by
  obtain ⟨v, h1, h2⟩ := fbin_ok h t
  have rx : rho0 P tm x = .int k a := by simp [rho0, hx, V.conc, comp, concs, At.conc]
  have ry : rho0 P tm y = .int k b := by simp [rho0, hy, V.conc, comp, concs, At.conc]
  have fx : flatO P tm x = true := by simp [flatO, hx, V.conc, comp, concs, At.conc]
  have fy : flatO P tm y = true := by simp [flatO, hy, V.conc, comp, concs, At.conc]
  have hg : eqGuard op t x y (.int k a) (.int k b) = pure () := by cases op <;> rfl
  have hl : flatL P tm (Op.operands (.binOp op t x y yt)).toList = true := by simp [Op.operands, flatL, fx, fy]
  have he : execOp (rho0 P tm) ⟨dst, .binOp op t x y yt, type, pos, after, guard⟩ = pure (.value v) := by
    simp only [execOp, rx, ry, hg, h2]; rfl
  unfold evPure
  simp only [isSelect, hl, he]
  exact h1

end Go.Proofs.YtmnaddlniaklcaaGreatDoor.Ev
