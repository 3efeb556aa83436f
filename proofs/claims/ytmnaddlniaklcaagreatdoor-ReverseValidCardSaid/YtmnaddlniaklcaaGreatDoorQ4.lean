/- A quick interpreter for the kernel, fourth part: statements and calls. -/
import Derived.Test.YtmnaddlniaklcaaGreatDoorQ3
namespace Go.Proofs.YtmnaddlniaklcaaGreatDoor.Ev
open Go
noncomputable section
set_option linter.unusedVariables false

inductive QR where
  | no
  | ok (ex : Ex) (fr : Fm) (H : Tr AObj) (nx : Nat) (ds : List Nat)

abbrev CT := QF → Program → Nat → Fm → Tr AObj → Nat → List Nat → QR
abbrev CK := Fm → Tr AObj → Nat → List Nat → QR

/-- The whole frame as a trie. -/
def Fm.trN (f : Fm) : Nat → Tr V
  | 0 => f.more
  | n + 1 => (Fm.trN f n).put (f.val n) n
def Fm.tr (f : Fm) : Tr V := Fm.trN f 64
def fvs (t : Tr V) (n : Nat) : FV := FV.ofO (t.get n)
def row8 (t : Tr V) (n : Nat) : R8 := .mk (fvs t n) (fvs t (n + 1)) (fvs t (n + 2)) (fvs t (n + 3)) (fvs t (n + 4)) (fvs t (n + 5)) (fvs t (n + 6)) (fvs t (n + 7))
def Fm.ofTr (t : Tr V) : Fm := .mk (row8 t 0) (row8 t 8) (row8 t 16) (row8 t 24) (row8 t 32) (row8 t 40) (row8 t 48) (row8 t 56) t

def regK (r : RR) : List Nat → QR := RR.rec (motive := fun _ => List Nat → QR) (fun _ => .no) (fun fr H nx ds => .ok .normal fr H nx ds) r
def thenEx (ex : Ex) : Fm → Tr AObj → Nat → List Nat → CK → QR :=
  Ex.rec (motive := fun _ => Fm → Tr AObj → Nat → List Nat → CK → QR) (fun fr H nx ds k => k fr H nx ds) (fun i fr H nx ds _ => .ok (.exit i) fr H nx ds) (fun l fr H nx ds _ => .ok (.goto l) fr H nx ds) (fun fr H nx ds _ => .ok .ret fr H nx ds) ex
def thenK (r : QR) : CK → QR := QR.rec (motive := fun _ => CK → QR) (fun _ => .no) thenEx r
def blockEx (ex : Ex) : Fm → Tr AObj → Nat → List Nat → Nat → QR :=
  Ex.rec (motive := fun _ => Fm → Tr AObj → Nat → List Nat → Nat → QR) (fun fr H nx ds _ => .ok .normal fr H nx ds) (fun i fr H nx ds id => Bool.rec (.ok (.exit i) fr H nx ds) (.ok .normal fr H nx ds) (Nat.beq i id)) (fun l fr H nx ds _ => .ok (.goto l) fr H nx ds) (fun fr H nx ds _ => .ok .ret fr H nx ds) ex
def blockK (r : QR) : Nat → QR := QR.rec (motive := fun _ => Nat → QR) (fun _ => .no) blockEx r
def ofRes : Res → QR
  | some (ex, tm, H, nx, ds) => .ok ex (Fm.ofTr tm) H nx ds
  | none => .no
/-- By the slow interpreter. -/
def slowC (c : Code) (Q : QF) (P : Program) (nt : Nat) (fr : Fm) (H : Tr AObj) (nx : Nat) (ds : List Nat) : QR :=
  ofRes (Q.f.code c nt none fr.tr H nx ds)

def skipC (Q : QF) (P : Program) (nt : Nat) (fr : Fm) (H : Tr AObj) (nx : Nat) (ds : List Nat) : QR := .ok .normal fr H nx ds
def regT (ops : Array Oper) (Q : QF) (P : Program) (nt : Nat) (fr : Fm) (H : Tr AObj) (nx : Nat) (ds : List Nat) : QR := regK (qOps (gds P ops ops.toList) Q P ops fr H nx) ds
def regD (ops : Array Oper) (Q : QF) (P : Program) (nt : Nat) (fr : Fm) (H : Tr AObj) (nx : Nat) (ds : List Nat) : QR := regK (qDraw Q P ops fr H nx) ds
def regC (id : Nat) (ops : Array Oper) (draw : Bool) : CT := Bool.rec (motive := fun _ => CT) (regT ops) (regD ops) draw
def seqC (a b : Code) (qa qb : CT) (Q : QF) (P : Program) (nt : Nat) (fr : Fm) (H : Tr AObj) (nx : Nat) (ds : List Nat) : QR := thenK (qa Q P nt fr H nx ds) (qb Q P nt)
def condK (v : FV) : CK → CK → CK :=
  FV.rec (motive := fun _ => CK → CK → CK) (fun _ _ _ _ _ _ => .no) (fun _ _ _ _ _ _ _ => .no) (fun _ _ _ _ _ _ _ => .no) (fun x a b => Bool.rec b a x) (fun _ _ _ _ _ _ _ _ => .no) (fun _ _ _ _ _ _ _ => .no) (fun _ _ _ _ _ _ _ => .no) v
def condC (x : Operand) (a b : Code) (qa qb : CT) (Q : QF) (P : Program) (nt : Nat) (fr : Fm) (H : Tr AObj) (nx : Nat) (ds : List Nat) : QR := condK (Opd.rec (motive := fun _ => Fm → FV) (fun g => g) moreG (fun v _ => v) (opd P x) fr) (qa Q P nt) (qb Q P nt) fr H nx ds
def blockC (id : Nat) (b : Code) (qb : CT) (Q : QF) (P : Program) (nt : Nat) (fr : Fm) (H : Tr AObj) (nx : Nat) (ds : List Nat) : QR := blockK (qb Q P nt fr H nx ds) id
def againK (ih : CK) (fr : Fm) (H : Tr AObj) (nx : Nat) (ds : List Nat) : QR := ih fr H nx ds
def loopN (q : CK) (n : Nat) : CK := Nat.rec (motive := fun _ => CK) (fun _ _ _ _ => .no) (fun _ ih fr H nx ds => thenK (q fr H nx ds) (againK ih)) n
def loopC (b : Code) (qb : CT) (Q : QF) (P : Program) (nt : Nat) (fr : Fm) (H : Tr AObj) (nx : Nat) (ds : List Nat) : QR := loopN (qb Q P nt) 1000000 fr H nx ds
def rangeC (g : Operand) (ps : Array Tmp) (as bo : Code) (_ _ : CT) : CT := slowC (.rangeFunc g ps as bo)
def exitC (id : Nat) (Q : QF) (P : Program) (nt : Nat) (fr : Fm) (H : Tr AObj) (nx : Nat) (ds : List Nat) : QR := .ok (.exit id) fr H nx ds
def scopeC (b : Code) (_ : CT) : CT := slowC (.scope b)
def labelC (l : Nat) (Q : QF) (P : Program) (nt : Nat) (fr : Fm) (H : Tr AObj) (nx : Nat) (ds : List Nat) : QR := .ok .normal fr H nx ds
def gotoC (l : Nat) (Q : QF) (P : Program) (nt : Nat) (fr : Fm) (H : Tr AObj) (nx : Nat) (ds : List Nat) : QR := .ok (.goto l) fr H nx ds
def retC (Q : QF) (P : Program) (nt : Nat) (fr : Fm) (H : Tr AObj) (nx : Nat) (ds : List Nat) : QR := .ok .ret fr H nx ds
def refuseC (s : String) (Q : QF) (P : Program) (nt : Nat) (fr : Fm) (H : Tr AObj) (nx : Nat) (ds : List Nat) : QR := .no
def qc (c : Code) : CT := Code.rec (motive := fun _ => CT) skipC regC seqC condC blockC loopC rangeC exitC scopeC labelC gotoC retC refuseC c

/-! ### The places that a code writes lie below a bound -/
def dstLt (n : Nat) : Option Tmp → Bool
  | none => true
  | some d => Nat.blt d n
def dstsLt (n : Nat) : List Oper → Bool
  | [] => true
  | o :: l => match dstLt n o.dst with | true => dstsLt n l | false => false
def codeLt (n : Nat) : Code → Bool
  | .region _ ops _ => dstsLt n ops.toList
  | .seq a b => codeLt n a && codeLt n b
  | .cond _ a b => codeLt n a && codeLt n b
  | .block _ b => codeLt n b
  | .loop b => codeLt n b
  | _ => true

/-! ### Calls -/
def resQ (P : Program) (fr : Fm) (H : Tr AObj) : ResultVar → Option (Bool × List At)
  | .tmp t => match fr.val t with
    | some (.c g l) => some (g, l)
    | _ => none
  | .cell a t => match fr.val a with
    | some (.c false [p]) => match evLoad P H t p with | some (.c g l) => some (g, l) | _ => none
    | _ => none
def resQs (P : Program) (fr : Fm) (H : Tr AObj) : List ResultVar → Option (List (Bool × List At))
  | [] => some []
  | r :: l => match resQ P fr H r with
    | some c => match resQs P fr H l with | some cs => some (c :: cs) | none => none
    | none => none
/-- The results, read once: one in a temporary, or others. -/
inductive Rs where
  | one (x : Opd)
  | all (l : List ResultVar)
def rsOf : List ResultVar → Rs
  | [.tmp t] => .one (opdT t)
  | l => .all l
def noTup (v : FV) : Tr AObj → Nat → CR :=
  FV.rec (motive := fun _ => Tr AObj → Nat → CR) (fun _ _ => .no) (fun n H nx => .ok (.i n) H nx) (fun n H nx => .ok (.u n) H nx) (fun x H nx => .ok (.b x) H nx) (fun b o H nx => .ok (.p b o) H nx) (fun x H nx => .ok (.a x) H nx) (fun x H nx => Bool.rec (.ok (.v x) H nx) .no (isTup x)) v
def leaveAll (P : Program) (l : List ResultVar) (fr : Fm) (H : Tr AObj) (nx : Nat) : CR :=
  match resQs P fr H l with
  | some cs => .ok (FV.ofV (resV cs)) H nx
  | none => .no
def leaveR (rs : Rs) : Program → Fm → Tr AObj → Nat → CR :=
  Rs.rec (motive := fun _ => Program → Fm → Tr AObj → Nat → CR) (fun x P fr H nx => noTup (Opd.rec (motive := fun _ => Fm → FV) (fun g => g) moreG (fun v _ => v) x fr) H nx) (fun l P fr H nx => leaveAll P l fr H nx) rs
def leaveH (x : Option (Tr AObj)) : Program → Rs → Fm → Nat → CR :=
  Option.rec (motive := fun _ => Program → Rs → Fm → Nat → CR) (fun _ _ _ _ => .no) (fun H P rs fr nx => leaveR rs P fr H nx) x
def leaveD (ds : List Nat) : Program → Rs → Fm → Tr AObj → Nat → CR :=
  List.rec (motive := fun _ => Program → Rs → Fm → Tr AObj → Nat → CR) (fun P rs fr H nx => leaveR rs P fr H nx) (fun d l _ P rs fr H nx => leaveH (dropDs (d :: l) H) P rs fr nx) ds
def endEx (ex : Ex) : Fm → Tr AObj → Nat → List Nat → Program → Rs → CR :=
  Ex.rec (motive := fun _ => Fm → Tr AObj → Nat → List Nat → Program → Rs → CR) (fun fr H nx ds P rs => leaveD ds P rs fr H nx) (fun _ _ _ _ _ _ _ => .no) (fun _ _ _ _ _ _ _ => .no) (fun fr H nx ds P rs => leaveD ds P rs fr H nx) ex
def endQ (r : QR) : Program → Rs → CR := QR.rec (motive := fun _ => Program → Rs → CR) (fun _ _ => .no) endEx r
def nthF (l : List FV) : Nat → FV := List.rec (motive := fun _ => Nat → FV) (fun _ => .no) (fun v _ ih n => Nat.rec v (fun m _ => ih m) n) l
def argRow (l : List FV) (n : Nat) : R8 := .mk (nthF l n) (nthF l (n + 1)) (nthF l (n + 2)) (nthF l (n + 3)) (nthF l (n + 4)) (nthF l (n + 5)) (nthF l (n + 6)) (nthF l (n + 7))
def frOf8 (l : List FV) : Fm := .mk (argRow l 0) R8.none R8.none R8.none R8.none R8.none R8.none R8.none .nil
def frOf64 (l : List FV) : Fm := .mk (argRow l 0) (argRow l 8) (argRow l 16) (argRow l 24) (argRow l 32) (argRow l 40) (argRow l 48) (argRow l 56) .nil
inductive Fi where
  | no
  | ok (c : Code) (n : Nat) (rs : Rs)
def fi (P : Program) (f : FuncId) : Fi :=
  match P.funcs[f]? with
  | some fn => match fn.body with
    | some c => match codeLt fn.ntmps c with | true => .ok c fn.ntmps (rsOf fn.results.toList) | false => .no
    | none => .no
  | none => .no
def runB (m n : Nat) (c : Code) (rs : Rs) (Q : QF) (P : Program) (args : List FV) (H : Tr AObj) (nx : Nat) : CR :=
  Bool.rec (motive := fun _ => CR) (Bool.rec (motive := fun _ => CR) .no (Bool.rec (motive := fun _ => CR) .no (endQ (qc c Q P n (frOf64 args) H nx []) P rs) (Nat.ble m 64)) (Nat.ble m n)) (Bool.rec (motive := fun _ => CR) .no (endQ (qc c Q P n (frOf8 args) H nx []) P rs) (Nat.ble m n)) (Nat.ble m 8)
def lenL (l : List FV) : Nat := List.rec (motive := fun _ => Nat) 0 (fun _ _ n => Nat.add n 1) l
def callF (i : Fi) : QF → Program → List FV → Tr AObj → Nat → CR :=
  Fi.rec (motive := fun _ => QF → Program → List FV → Tr AObj → Nat → CR) (fun _ _ _ _ _ => .no) (fun c n rs Q P args H nx => runB (lenL args) n c rs Q P args H nx) i
def qCall (Q : QF) (P : Program) (f : FuncId) (args : List FV) (H : Tr AObj) (nx : Nat) : CR := callF (fi P f) Q P args H nx

def ofCR : CR → Option (V × Tr AObj × Nat)
  | .ok v H nx => match v.toV with | some x => some (x, H, nx) | none => none
  | .no => none
def mapFV : List V → List FV
  | [] => []
  | v :: l => FV.ofV v :: mapFV l
/-- Answers of calls that are known from elsewhere. -/
abbrev Hook := FuncId → List FV → Tr AObj → Nat → CR
def hookK (r s : CR) : CR := CR.rec (motive := fun _ => CR) s (fun v H nx => .ok v H nx) r
def qCallH (hk : Hook) (Q : QF) (P : Program) (f : FuncId) (args : List FV) (H : Tr AObj) (nx : Nat) : CR := hookK (hk f args H nx) (qCall Q P f args H nx)
def qStep (P : Program) (hk : Hook) (Q : QF) : QF :=
  ⟨⟨fun c nt ro tm H nx ds => stepCodeF Q.f P c nt ro tm H nx ds, fun f args H nx => ofCR (qCallH hk Q P f (mapFV args) H nx), fun l args H nx => stepRound Q.f l args H nx, fun b r nt ro tm H nx ds => stepScope Q.f b r nt ro tm H nx ds⟩, fun f args H nx => qCallH hk Q P f args H nx⟩
def QF0 : QF := ⟨⟨fun _ _ _ _ _ _ _ => none, fun _ _ _ _ => none, fun _ _ _ _ => none, fun _ _ _ _ _ _ _ _ => none⟩, fun _ _ _ _ => .no⟩
/-- The interpreter, quick. -/
def evQ (P : Program) (hk : Hook) (n : Nat) : QF := Nat.rec (motive := fun _ => QF) QF0 (fun _ ih => qStep P hk ih) n
def noHook : Hook := fun _ _ _ _ => .no

end
end Go.Proofs.YtmnaddlniaklcaaGreatDoor.Ev
