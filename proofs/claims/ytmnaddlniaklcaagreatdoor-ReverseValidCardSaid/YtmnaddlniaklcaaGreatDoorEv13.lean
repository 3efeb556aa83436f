/- An abstract interpreter of the model's code, thirteenth part: all operations that write; regions, statements, calls. The text of the interpreter. -/
import Derived.Test.YtmnaddlniaklcaaGreatDoorEv12
namespace Go.Proofs.YtmnaddlniaklcaaGreatDoor.Ev
open Go
noncomputable section

/-- An empty slice at the end of a row of unknown length. -/
def evEmp (P : Program) (H : Tr AObj) (nx : Nat) (t : TypeId) (x : At) (lo hi mx : Option At) : Option (V × Tr AObj × Nat) :=
  match P.underlying t with
  | some (.slice e) => match P.info? e, x with
    | some i, .slx b o n e' => match known H b o e' i.size with
      | some k => match mx with
        | some _ => none
        | none => match bnds n k lo hi none with
          | some (l, h, _) => match Nat.beq l h with
            | true => some (.one (.emp nx), H, nx + 1)
            | false => none
          | none => none
      | none => none
    | _, _ => none
  | _ => none

def evW (P : Program) (o : Oper) (tm : Tr V) (H : Tr AObj) (nx : Nat) : Option (V × Tr AObj × Nat) :=
  match o.op with
  | .alloc t => evAlloc P H nx t
  | .box t x => match evO P tm x with | some v => evBox H nx t v | none => none
  | .buildSlice t len ps => match evParts P tm ps.toList with | some l => evBuildSlice P H nx t len l | none => none
  | .store t a x => match evO P tm a, evO P tm x with
    | some (.c false [p]), some v => evStore P H nx t p v
    | _, _ => none
  | .makeSlice t l c => match evO P tm l, evO P tm c with
    | some (.c false [a]), some (.c false [b]) => evMakeSlice P H nx t a b
    | _, _ => none
  | .makeMap t r => match evOpt P tm r with | some a => evMakeMap P H nx t a | none => none
  | .mapUpdate t m k x => match evO P tm m, evO P tm k, evO P tm x with
    | some (.c false [a]), some u, some v => evMapUpdate P H nx t a u v
    | _, _, _ => none
  | .insert t m k x => match evO P tm m, evO P tm k, evO P tm x with
    | some (.c false [a]), some u, some v => evMapUpdate P H nx t a u v
    | _, _, _ => none
  | .range t x => match evO P tm x with | some (.c false [a]) => evRange P H nx t a | _ => none
  | .slice t x lo hi mx => match evO P tm x with
    | some (.c false [a]) => match evOpt P tm lo, evOpt P tm hi, evOpt P tm mx with
      | some l, some h, some m => evEmp P H nx t a l h m
      | _, _, _ => none
    | _ => none
  | .call c => match c.callee with
    | .builtin .append => match c.args.toList, c.argTypes.toList with
      | [s, x], [t, tx] => match evO P tm s, evO P tm x with
        | some (.c false [a]), some (.c false [b]) => evAppend P H nx t tx a b
        | _, _ => none
      | _, _ => none
    | .builtin .copy => match c.args.toList, c.argTypes.toList with
      | [s, x], [t, tx] => match evO P tm s, evO P tm x with
        | some (.c false [a]), some (.c false [b]) => evCopy P H nx t tx a b
        | _, _ => none
      | _, _ => none
    | .builtin .clear => match c.args.toList, c.argTypes.toList with
      | [s], [t] => match evO P tm s with
        | some (.c false [a]) => evClear P H nx t a
        | _ => none
      | _, _ => none
    | _ => none
  | _ => none

/-- A small operation: one that only reads, or one that writes. -/
def evS (P : Program) (o : Oper) (tm : Tr V) (H : Tr AObj) (nx : Nat) : Option (V × Tr AObj × Nat) :=
  match evR P o tm H with
  | some v => some (v, H, nx)
  | none => evW P o tm H nx

/-! ### Guards -/
def evGuard (ops : Array Oper) (o : Oper) (tm : Tr V) : Option Bool :=
  match o.guard with
  | none => some true
  | some (j, want) => match ops[j]? with
    | some oj => match oj.dst with
      | some d => match tm.get d with
        | some (.c false [.bool b]) => some (b == want)
        | some (.tup _) => some false
        | _ => none
      | none => some false
    | none => some false

def putA (nt : Nat) (tm : Tr V) (dst : Option Tmp) (v : V) : Option (Tr V) :=
  match dst with
  | none => some tm
  | some d => match Nat.blt d nt with | true => some (tm.put (some v) d) | false => none

/-! ### Calls -/
inductive Ex where
  | normal
  | exit (id : Nat)
  | goto (l : Nat)
  | ret
  deriving Inhabited

abbrev Res := Option (Ex × Tr V × Tr AObj × Nat × List Nat)
structure Fns where
  code : Code → Nat → Option Nat → Tr V → Tr AObj → Nat → List Nat → Res
  call : FuncId → List V → Tr AObj → Nat → Option (V × Tr AObj × Nat)
  round : Nat → List V → Tr AObj → Nat → Option (V × Tr AObj × Nat)
  scope : Code → Code → Nat → Option Nat → Tr V → Tr AObj → Nat → List Nat → Res

/-- Whom a call calls, and with which arguments. -/
inductive Whom where
  | fn (f : FuncId) (args : List V)
  | yld (l : Nat) (args : List V)

def capsV : List (Nat × Nat) → List V
  | [] => []
  | (b, o) :: l => .one (.ptr b o) :: capsV l
def absVs : List Fst → Option (List V)
  | [] => some []
  | .val v :: l => match absV v, absVs l with
    | some a, some ys => some (a :: ys)
    | _, _ => none
  | .ptr b o :: l => match absVs l with
    | some ys => some (.one (.ptr b o) :: ys)
    | none => none
def whom (P : Program) (c : Call) (tm : Tr V) : Option Whom :=
  match c.callee with
  | .value g => match evO P tm g, evOs P tm c.args.toList with
    | some (.c false [.fn f first caps]), some vs => match absVs first with | some us => some (.fn f (us ++ (vs ++ capsV caps))) | none => none
    | some (.c false [.yld l]), some vs => some (.yld l vs)
    | _, _ => none
  | _ => none

def evB (F : Fns) (P : Program) (o : Oper) (tm : Tr V) (H : Tr AObj) (nx : Nat) : Option (V × Tr AObj × Nat) :=
  match o.op with
  | .call c => match whom P c tm with
    | some (.fn f args) => F.call f args H nx
    | some (.yld l args) => F.round l args H nx
    | none => none
  | _ => none

def isCall : Op → Bool
  | .call { callee := .value _, .. } => true
  | _ => false

def evOps (F : Fns) (P : Program) (ops : Array Oper) (nt : Nat) : List Oper → Tr V → Tr AObj → Nat → Option (Tr V × Tr AObj × Nat)
  | [], tm, H, nx => some (tm, H, nx)
  | o :: l, tm, H, nx => match evGuard ops o tm with
    | some true => match (match isCall o.op with | true => evB F P o tm H nx | false => evS P o tm H nx) with
      | some (v, H', nx') => match putA nt tm o.dst v with
        | some tm' => evOps F P ops nt l tm' H' nx'
        | none => none
      | none => none
    | some false => match putA nt tm o.dst V.undef with
      | some tm' => evOps F P ops nt l tm' H nx
      | none => none
    | none => none

def tmOf : Nat → List V → Tr V
  | _, [] => .nil
  | i, v :: l => (tmOf (i + 1) l).put (some v) i

/-- The results, as 'results' hands them over. -/
def resC (P : Program) (tm : Tr V) (H : Tr AObj) : ResultVar → Option (Bool × List At)
  | .tmp t => match tm.get t with
    | some (.c g l) => some (g, l)
    | _ => none
  | .cell a t => match tm.get a with
    | some (.c false [p]) => match evLoad P H t p with | some (.c g l) => some (g, l) | _ => none
    | _ => none
def resCs (P : Program) (tm : Tr V) (H : Tr AObj) : List ResultVar → Option (List (Bool × List At))
  | [] => some []
  | r :: l => match resC P tm H r, resCs P tm H l with
    | some c, some cs => some (c :: cs)
    | _, _ => none
def resV : List (Bool × List At) → V
  | [(g, l)] => .c g l
  | l => .tup l

end
end Go.Proofs.YtmnaddlniaklcaaGreatDoor.Ev
