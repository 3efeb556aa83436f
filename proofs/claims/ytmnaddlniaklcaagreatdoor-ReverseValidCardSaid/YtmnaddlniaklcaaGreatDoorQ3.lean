/- A quick interpreter for the kernel, third part: regions that draw their order. -/
import Derived.Test.YtmnaddlniaklcaaGreatDoorQ2
namespace Go.Proofs.YtmnaddlniaklcaaGreatDoor.Ev
open Go
noncomputable section
set_option linter.unusedVariables false

/-! ### What is held against earlier steps: those that change blocks (or call), and those that only look -/
abbrev See := Nat × List Nat
abbrev KD := List Sp → List See → KK
def bitQ (a j : Nat) : Bool := Bool.rec true false (Nat.beq (Nat.land 1 (Nat.shiftRight a j)) 0)
def seeOk (s : Sp) (see : List Nat) : Bool := match s.big with
  | false => disj s.mods see
  | true => keptAt s see
def chkS (a : Nat) (see : List Nat) : List Sp → Bool
  | [] => true
  | m :: l => match bitQ a m.idx || seeOk m see with | true => chkS a see l | false => false
def chkM (a : Nat) (s : Sp) : List Sp → Bool
  | [] => true
  | m :: l => match bitQ a m.idx || pairB m s with | true => chkM a s l | false => false
def chkL (a : Nat) (s : Sp) : List See → Bool
  | [] => true
  | e :: l => match bitQ a e.1 || seeOk s e.2 with | true => chkL a s l | false => false
def chkSQ (a : Nat) (see : List Nat) (l : List Sp) : Bool := List.rec (motive := fun _ => Bool) true (fun m l _ => chkS a see (m :: l)) l

def quietS (s : Sp) : Bool := match s.mods, s.big with
  | [], false => true
  | _, _ => false
def contD (d : Dst) (fr : Fm) (v : V) (s : Sp) (k : KK) : RR :=
  forceH s.H' fun H' => forceN s.nx' fun nx' => FV.orK (FV.ofV v) (fun x => d.putK x fr fun fr' => k fr' H' nx') .no
def backD (a i : Nat) (ms : List Sp) (ls : List See) (d : Dst) (fr : Fm) (k : KD) : Option (V × Sp) → RR
  | some (v, s) => match quietS s with
    | true => match chkS a s.see ms with
      | true => contD d fr v s (k ms ((i, s.see) :: ls))
      | false => .no
    | false => match chkM a s ms && chkL a s ls with
      | true => contD d fr v s (k (s :: ms) ls)
      | false => .no
  | none => .no
def slowD (Q : QF) (P : Program) (ops : Array Oper) (A : List Nat) (a i : Nat) (ms : List Sp) (ls : List See) (fr : Fm) (H : Tr AObj) (nx : Nat) (k : KD) (o : Oper) : RR :=
  backD a i ms ls (dstOf o.dst) fr k (evD1 Q.f P A i ms o (restrF fr (o.looksAt ops)) H nx)

abbrev ClD := QF → Program → Array Oper → List Nat → Nat → Nat → List Sp → List See → Fm → Tr AObj → Nat → KD → RR
def qK (f : ClT) (Q : QF) (P : Program) (ops : Array Oper) (A : List Nat) (a i : Nat) (ms : List Sp) (ls : List See) (fr : Fm) (H : Tr AObj) (nx : Nat) (k : KD) : RR :=
  f Q P fr H nx (k ms ls) (slowD Q P ops A a i ms ls fr H nx k)
def ldD (d : Dst) (x : Opd) (g : Bool) (n : Nat) (o : Oper) (Q : QF) (P : Program) (ops : Array Oper) (A : List Nat) (a i : Nat) (ms : List Sp) (ls : List See) (fr : Fm) (H : Tr AObj) (nx : Nat) (k : KD) : RR :=
  FV.ptrK (x.get fr) (fun b f => Bool.rec .no (toQ (loadF g n H b f) d fr H nx (k ms ((i, [b]) :: ls)) .no) (chkSQ a [b] ms)) .no
def slowO (o : Oper) (Q : QF) (P : Program) (ops : Array Oper) (A : List Nat) (a i : Nat) (ms : List Sp) (ls : List See) (fr : Fm) (H : Tr AObj) (nx : Nat) (k : KD) : RR := slowD Q P ops A a i ms ls fr H nx k o
def mvS (d : Dst) (x : Opd) (Q : QF) (P : Program) (fr : Fm) (H : Tr AObj) (nx : Nat) (k : KK) (S : Oper → RR) : RR := toQ (x.get fr) d fr H nx k .no
def mvD (d : Dst) (x : Opd) : ClD := qK (mvS d x)
def binD (d : Dst) (g : Bin) (x y : Opd) (o : Oper) : ClD := qK (binQ d g x y o)
def eqD (d : Dst) (neg : Bool) (e : EqT) (x y : Opd) (o : Oper) : ClD := slowO o
def faD (d : Dst) (x : Opd) (off : Nat) (o : Oper) : ClD := qK (faQ d x off o)
def iaD (d : Dst) (x y : Opd) (l : Option Nat) (sz : Nat) (o : Oper) : ClD := qK (iaQ d x y l sz o)
def pkD (d : Dst) (c a b : Opd) (o : Oper) : ClD := qK (pkQ d c a b o)
def ncD (d : Dst) (x : Opd) (o : Oper) : ClD := qK (ncQ d x o)
def lnD (d : Dst) (x : Opd) (o : Oper) : ClD := slowO o
def ntD (d : Dst) (x : Opd) (o : Oper) : ClD := slowO o
def cvD (d : Dst) (kd : IntKind) (x : Opd) (o : Oper) : ClD := slowO o
def stD (a x : Opd) (n : Nat) (d : Dst) (o : Oper) : ClD := slowO o
def bxD (d : Dst) (t : TypeId) (x : Opd) (o : Oper) : ClD := slowO o
def alD (d : Dst) (w : AObj) (o : Oper) : ClD := slowO o
def caD (d : Dst) (f : FuncId) (xs : List Opd) (o : Oper) : ClD := slowO o
def exD (d : Dst) (x : Opd) (i : Nat) (o : Oper) : ClD := qK (exQ d x i o)
def grdD (s : Opd) (want : Bool) (d : Dst) (c : Cl) (ih : ClD) (Q : QF) (P : Program) (ops : Array Oper) (A : List Nat) (a i : Nat) (ms : List Sp) (ls : List See) (fr : Fm) (H : Tr AObj) (nx : Nat) (k : KD) : RR :=
  gdK (s.get fr) want (ih Q P ops A a i ms ls fr H nx k) (skipQ d fr H nx (k ms ls))
def runD (c : Cl) : ClD := Cl.rec (motive := fun _ => ClD) mvD binD eqD ldD faD iaD pkD ncD lnD ntD cvD stD bxD alD caD exD slowO grdD c

/-- An operation of such a region, and what stands ahead of it. -/
inductive DCl where
  | mk (c : Cl) (a : Nat)
def gdD (P : Program) (ops : Array Oper) (o : Oper) : Cl :=
  match o.guard with
  | none => cl P o
  | some (j, want) => match ops[j]? with
    | some oj => match oj.dst with
      | some d => .grd (opdT d) want (dstOf o.dst) (cl P o)
      | none => .mv .no (.k .no)
    | none => .mv .no (.k .no)
def gdsD (P : Program) (ops : Array Oper) (A : List Nat) : Nat → List Oper → List DCl
  | _, [] => []
  | i, o :: l => .mk (gdD P ops o) (A.getD i 0) :: gdsD P ops A (i + 1) l
abbrev DT := QF → Program → Array Oper → List Nat → Nat → List Sp → List See → Fm → Tr AObj → Nat → RR
def dNil (Q : QF) (P : Program) (ops : Array Oper) (A : List Nat) (i : Nat) (ms : List Sp) (ls : List See) (fr : Fm) (H : Tr AObj) (nx : Nat) : RR := .ok fr H nx
def dCons (g : DCl) (l : List DCl) (ih : DT) (Q : QF) (P : Program) (ops : Array Oper) (A : List Nat) (i : Nat) (ms : List Sp) (ls : List See) (fr : Fm) (H : Tr AObj) (nx : Nat) : RR :=
  DCl.rec (motive := fun _ => RR) (fun c a => runD c Q P ops A a i ms ls fr H nx (ih Q P ops A (Nat.succ i))) g
def qDs (l : List DCl) : DT := List.rec (motive := fun _ => DT) dNil dCons l
/-- What is asked of the text of the region alone. -/
def drawOk (ops : Array Oper) : Bool := edgesOk 0 ops.toList && tmpsOk ops (ancs ops.toList []) 0 ops.toList
def qDraw (Q : QF) (P : Program) (ops : Array Oper) (fr : Fm) (H : Tr AObj) (nx : Nat) : RR :=
  Bool.rec (motive := fun _ => RR) .no (qDs (gdsD P ops (ancs ops.toList []) 0 ops.toList) Q P ops (ancs ops.toList []) 0 [] [] fr H nx) (drawOk ops)

end
end Go.Proofs.YtmnaddlniaklcaaGreatDoor.Ev
