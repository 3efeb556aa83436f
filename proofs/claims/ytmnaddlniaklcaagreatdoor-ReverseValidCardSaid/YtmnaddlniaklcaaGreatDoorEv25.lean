/- An abstract interpreter of the model's code, twenty-fifth part: a fast layer for the kernel: regions in the order of their text. -/
import Derived.Test.YtmnaddlniaklcaaGreatDoorEv24
namespace Go.Proofs.YtmnaddlniaklcaaGreatDoor.Ev
open Go
noncomputable section

def kindN : IntKind → Nat
  | .i8 => 0 | .i16 => 1 | .i32 => 2 | .i64 => 3 | .u8 => 4 | .u16 => 5 | .u32 => 6 | .u64 => 7
theorem kindN_inj {a b : IntKind} (h : Nat.beq (kindN a) (kindN b) = true) : a = b := by
  cases a <;> cases b <;> first | rfl | cases h

/-- An operation, read once. -/
inductive Cls where
  | mv (d : Option Tmp) (x : Operand)
  | bin (d : Option Tmp) (op : BinOp) (x y : Operand) (o : Oper)
  | gen (o : Oper)
def cls (o : Oper) : Cls :=
  match o.guard with
  | some _ => .gen o
  | none => match o.op with
    | .move x => .mv o.dst x
    | .assign x => .mv o.dst x
    | .binOp op _ x y _ => .bin o.dst op x y o
    | _ => .gen o
def clsL : List Oper → List Cls
  | [] => []
  | o :: l => cls o :: clsL l

def fbinV (op : BinOp) : V → V → Option V
  | .c false [.int k a], .c false [.int k' b] => match Nat.beq (kindN k) (kindN k') with
    | true => match fbin op k a b with | some r => some (.one r) | none => none
    | false => none
  | _, _ => none
def fbinO (P : Program) (tm : Tr V) (op : BinOp) (x y : Operand) : Option V :=
  match evO P tm x with
  | some u => match evO P tm y with | some v => fbinV op u v | none => none
  | none => none

/-- One operation of a region. -/
def gen1 (F : Fns) (P : Program) (ops : Array Oper) (nt : Nat) (o : Oper) (tm : Tr V) (H : Tr AObj) (nx : Nat) : Option (Tr V × Tr AObj × Nat) :=
  match evGuard ops o tm with
  | some true => match (match isCall o.op with | true => evB F P o tm H nx | false => evS P o tm H nx) with
    | some (v, H', nx') => match putA nt tm o.dst v with
      | some tm' => some (tm', H', nx')
      | none => none
    | none => none
  | some false => match putA nt tm o.dst V.undef with
    | some tm' => some (tm', H, nx)
    | none => none
  | none => none

theorem evOps_gen {F : Fns} {P : Program} {ops : Array Oper} {nt : Nat} (o : Oper) (l : List Oper) (tm : Tr V) (H : Tr AObj) (nx : Nat) :
    evOps F P ops nt (o :: l) tm H nx = match gen1 F P ops nt o tm H nx with | some (tm', H', nx') => evOps F P ops nt l tm' H' nx' | none => none := by
  simp only [evOps, gen1]
  generalize evGuard ops o tm = g
  cases g with
  | none => rfl
  | some b =>
    cases b with
    | false => simp only; cases putA nt tm o.dst V.undef <;> rfl
    | true =>
      cases isCall o.op with
      | true =>
        simp only
        cases evB F P o tm H nx with
        | none => rfl
        | some q => obtain ⟨v, H', nx'⟩ := q; simp only; cases putA nt tm o.dst v <;> rfl
      | false =>
        simp only
        cases evS P o tm H nx with
        | none => rfl
        | some q => obtain ⟨v, H', nx'⟩ := q; simp only; cases putA nt tm o.dst v <;> rfl

def evOpsF (F : Fns) (P : Program) (ops : Array Oper) (nt : Nat) : List Cls → Tr V → Tr AObj → Nat → Option (Tr V × Tr AObj × Nat)
  | [], tm, H, nx => some (tm, H, nx)
  | c :: l, tm, H, nx => match c with
    | .mv d x => match evO P tm x with
      | some v => match putA nt tm d v with | some tm' => evOpsF F P ops nt l tm' H nx | none => none
      | none => none
    | .bin d op x y o => match fbinO P tm op x y with
      | some v => match putA nt tm d v with | some tm' => evOpsF F P ops nt l tm' H nx | none => none
      | none => match gen1 F P ops nt o tm H nx with | some (tm', H', nx') => evOpsF F P ops nt l tm' H' nx' | none => none
    | .gen o => match gen1 F P ops nt o tm H nx with | some (tm', H', nx') => evOpsF F P ops nt l tm' H' nx' | none => none

theorem evEq_int {P : Program} {H : Tr AObj} {t : TypeId} {k k' : IntKind} {a b : Int} : evEq P H t (.int k a) (.int k' b) = none := by
  unfold evEq
  split <;> first | rfl | (rename_i h1 h2; cases h1) | (rename_i h1; cases h1)

theorem gen1_bin {F : Fns} {P : Program} {ops : Array Oper} {nt : Nat} {o : Oper} {op : BinOp} {x y : Operand} {tm : Tr V} {H : Tr AObj} {nx : Nat} {v : V} {t yt : TypeId} (hg : o.guard = none) (hop : o.op = .binOp op t x y yt) (h : fbinO P tm op x y = some v) :
    gen1 F P ops nt o tm H nx = match putA nt tm o.dst v with | some tm' => some (tm', H, nx) | none => none := by
  obtain ⟨dst, op', type, pos, after, guard⟩ := o
  simp only at hg hop
  subst hg; subst hop
  unfold fbinO at h
  split at h
  · rename_i u hu
    split at h
    · rename_i w hw
      unfold fbinV at h
      split at h
      · rename_i k a k' b
        split at h
        · rename_i hk
          obtain rfl := kindN_inj hk
          split at h
          · rename_i r hr
            cases h
            have hp := evPure_bin (P := P) (dst := dst) (t := t) (yt := yt) (type := type) (pos := pos) (after := after) (guard := none) hu hw hr
            have hR : evR P ⟨dst, .binOp op t x y yt, type, pos, after, none⟩ tm H = some (.one r) := by
              cases op <;> simp only [evR] <;> first | exact hp | (unfold evBin; simp only [hu, hw, evEq_int]; exact hp)
            simp only [gen1, evGuard, isCall, evS, hR]
          · cases h
        · cases h
      · cases h
    · cases h
  · cases h

theorem evOpsF_eq {F : Fns} {P : Program} {ops : Array Oper} {nt : Nat} : ∀ (l : List Oper) (tm : Tr V) (H : Tr AObj) (nx : Nat), evOpsF F P ops nt (clsL l) tm H nx = evOps F P ops nt l tm H nx := by
  intro l
  induction l with
  | nil => intro tm H nx; rfl
  | cons o l ih =>
    intro tm H nx
    rw [evOps_gen]
    have hmv : ∀ x, o.guard = none → (o.op = .move x ∨ o.op = .assign x) → gen1 F P ops nt o tm H nx = match evO P tm x with | some v => (match putA nt tm o.dst v with | some tm' => some (tm', H, nx) | none => none) | none => none := by
      intro x hg hop
      obtain ⟨dst, op', type, pos, after, guard⟩ := o
      simp only at hg hop
      subst hg
      rcases hop with rfl | rfl <;> simp only [gen1, evGuard, isCall, evS, evR, evW] <;> cases evO P tm x <;> rfl
    simp only [clsL, cls]
    split
    · simp only [evOpsF]
      cases gen1 F P ops nt o tm H nx with
      | none => rfl
      | some q => obtain ⟨a, b, c⟩ := q; exact ih a b c
    · rename_i hg
      split
      · rename_i x hop
        rw [hmv x hg (.inl hop)]
        simp only [evOpsF]
        cases evO P tm x with
        | none => rfl
        | some v => simp only; cases putA nt tm o.dst v with
          | none => rfl
          | some tm' => exact ih tm' H nx
      · rename_i x hop
        rw [hmv x hg (.inr hop)]
        simp only [evOpsF]
        cases evO P tm x with
        | none => rfl
        | some v => simp only; cases putA nt tm o.dst v with
          | none => rfl
          | some tm' => exact ih tm' H nx
      · rename_i op t x y yt hop
        simp only [evOpsF]
        cases hf : fbinO P tm op x y with
        | none =>
          simp only
          cases gen1 F P ops nt o tm H nx with
          | none => rfl
          | some q => obtain ⟨a, b, c⟩ := q; exact ih a b c
        | some v =>
          rw [gen1_bin hg hop hf]
          simp only
          cases putA nt tm o.dst v with
          | none => rfl
          | some tm' => exact ih tm' H nx
      · simp only [evOpsF]
        cases gen1 F P ops nt o tm H nx with
        | none => rfl
        | some q => obtain ⟨a, b, c⟩ := q; exact ih a b c

end
end Go.Proofs.YtmnaddlniaklcaaGreatDoor.Ev
