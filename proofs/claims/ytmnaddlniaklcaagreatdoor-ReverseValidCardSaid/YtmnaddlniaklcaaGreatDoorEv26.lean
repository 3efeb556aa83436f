/- An abstract interpreter of the model's code, twenty-sixth part: a fast layer for the kernel: statements. -/
import Derived.Test.YtmnaddlniaklcaaGreatDoorEv25
namespace Go.Proofs.YtmnaddlniaklcaaGreatDoor.Ev
open Go
noncomputable section

def fRegion (F : Fns) (P : Program) (ops : Array Oper) (draw : Bool) (nt : Nat) (tm : Tr V) (H : Tr AObj) (nx : Nat) (ds : List Nat) : Res :=
  match draw with
  | true => match evDraw F P ops nt tm H nx with
    | some (tm', H', nx') => some (.normal, tm', H', nx', ds)
    | none => none
  | false => match evOpsF F P ops nt (clsL ops.toList) tm H nx with
    | some (tm', H', nx') => some (.normal, tm', H', nx', ds)
    | none => none
def fSeq (F : Fns) (b : Code) (nt : Nat) (ro : Option Nat) : Res → Res
  | some (.normal, tm', H', nx', ds') => F.code b nt ro tm' H' nx' ds'
  | r => r
def fCond (F : Fns) (a b : Code) (nt : Nat) (ro : Option Nat) (tm : Tr V) (H : Tr AObj) (nx : Nat) (ds : List Nat) : Option Bool → Res
  | some true => F.code a nt ro tm H nx ds
  | some false => F.code b nt ro tm H nx ds
  | none => none
def fBlock (id : Nat) : Res → Res
  | some (.exit j, tm', H', nx', ds') => match Nat.beq j id with
    | true => some (.normal, tm', H', nx', ds')
    | false => some (.exit j, tm', H', nx', ds')
  | r => r
def stepCodeF (F : Fns) (P : Program) (c : Code) (nt : Nat) (ro : Option Nat) (tm : Tr V) (H : Tr AObj) (nx : Nat) (ds : List Nat) : Res :=
  match c with
  | .skip => some (.normal, tm, H, nx, ds)
  | .region _ ops draw => fRegion F P ops draw nt tm H nx ds
  | .seq a b => fSeq F b nt ro (F.code a nt ro tm H nx ds)
  | .cond x a b => fCond F a b nt ro tm H nx ds (evCond P tm x)
  | .block id b => fBlock id (F.code b nt ro tm H nx ds)
  | .loop b => fSeq F (.loop b) nt ro (F.code b nt ro tm H nx ds)
  | .exit id => some (.exit id, tm, H, nx, ds)
  | .ret => some (.ret, tm, H, nx, ds)
  | c => stepCode F P c nt ro tm H nx ds

theorem stepCodeF_eq (F : Fns) (P : Program) (c : Code) (nt : Nat) (ro : Option Nat) (tm : Tr V) (H : Tr AObj) (nx : Nat) (ds : List Nat) : stepCodeF F P c nt ro tm H nx ds = stepCode F P c nt ro tm H nx ds := by
  cases c <;> simp only [stepCodeF]
  case region id ops draw =>
    cases draw
    · simp only [fRegion, stepCode, evOpsF_eq]
      cases evOps F P ops nt ops.toList tm H nx <;> rfl
    · simp only [fRegion, stepCode]
      cases evDraw F P ops nt tm H nx <;> rfl
  case skip => rfl
  case exit => rfl
  case ret => rfl
  case seq a b =>
    simp only [stepCode]
    cases F.code a nt ro tm H nx ds with
    | none => rfl
    | some q => obtain ⟨ex, tm', H', nx', ds'⟩ := q; cases ex <;> rfl
  case cond x a b =>
    simp only [stepCode]
    cases evCond P tm x with
    | none => rfl
    | some q => cases q <;> rfl
  case block id b =>
    simp only [stepCode]
    cases F.code b nt ro tm H nx ds with
    | none => rfl
    | some q => obtain ⟨ex, tm', H', nx', ds'⟩ := q; cases ex <;> rfl
  case loop b =>
    simp only [stepCode]
    cases F.code b nt ro tm H nx ds with
    | none => rfl
    | some q => obtain ⟨ex, tm', H', nx', ds'⟩ := q; cases ex <;> rfl

/-- The interpreter, for the kernel. -/
def evF (P : Program) : Nat → Fns
  | 0 => ⟨fun _ _ _ _ _ _ _ => none, fun _ _ _ _ => none, fun _ _ _ _ => none, fun _ _ _ _ _ _ _ _ => none⟩
  | n + 1 => ⟨fun c nt ro tm H nx ds => stepCodeF (evF P n) P c nt ro tm H nx ds, fun f args H nx => stepCall (evF P n) P f args H nx, fun l args H nx => stepRound (evF P n) l args H nx, fun b r nt ro tm H nx ds => stepScope (evF P n) b r nt ro tm H nx ds⟩
theorem evF_eq (P : Program) : ∀ n, evF P n = ev P n
  | 0 => rfl
  | n + 1 => by
    simp only [evF, ev, evF_eq P n]
    congr 1
    funext c nt ro tm H nx ds
    exact stepCodeF_eq _ _ _ _ _ _ _ _ _

end
end Go.Proofs.YtmnaddlniaklcaaGreatDoor.Ev
