/- A quick interpreter for the kernel, second part: operations, read once; regions in the order of their text. -/
import Derived.Test.YtmnaddlniaklcaaGreatDoorQ1
namespace Go.Proofs.YtmnaddlniaklcaaGreatDoor.Ev
open Go
noncomputable section
set_option linter.unusedVariables false

abbrev KK := Fm → Tr AObj → Nat → RR
/-- What a call comes to. -/
inductive CR where
  | no
  | ok (v : FV) (H : Tr AObj) (nx : Nat)
/-- The interpreter as its operations see it. -/
structure QF where
  f : Fns
  c : FuncId → List FV → Tr AObj → Nat → CR

/-! ### Whole numbers -/
abbrev W63 : Nat := 9223372036854775808
abbrev W64 : Nat := 18446744073709551616
def below63 (n : Nat) : FV := Bool.rec .no (.i n) (Nat.ble n 9223372036854775807)
def addN (a b : Nat) : FV := below63 (Nat.add a b)
def subN (a b : Nat) : FV := Bool.rec .no (below63 (Nat.sub a b)) (Nat.ble b a)
def mulN (a b : Nat) : FV := below63 (Nat.mul a b)
def quoN (a b : Nat) : FV := Bool.rec (below63 (Nat.div a b)) .no (Nat.beq b 0)
def remN (a b : Nat) : FV := Bool.rec (.i (Nat.mod a b)) .no (Nat.beq b 0)
def lssN (a b : Nat) : FV := .b (Nat.ble (Nat.succ a) b)
def leqN (a b : Nat) : FV := .b (Nat.ble a b)
def gtrN (a b : Nat) : FV := .b (Nat.ble (Nat.succ b) a)
def geqN (a b : Nat) : FV := .b (Nat.ble b a)
def eqlN (a b : Nat) : FV := .b (Nat.beq a b)
def neqN (a b : Nat) : FV := Bool.rec (.b true) (.b false) (Nat.beq a b)
def noN (_ _ : Nat) : FV := .no
def addU (a b : Nat) : FV := .u (Nat.mod (Nat.add a b) 18446744073709551616)
def subU (a b : Nat) : FV := Bool.rec .no (.u (Nat.mod (Nat.sub a b) 18446744073709551616)) (Nat.ble b a)
def mulU (a b : Nat) : FV := .u (Nat.mod (Nat.mul a b) 18446744073709551616)
def quoU (a b : Nat) : FV := Bool.rec (.u (Nat.mod (Nat.div a b) 18446744073709551616)) .no (Nat.beq b 0)
def remU (a b : Nat) : FV := Bool.rec (.u (Nat.mod a b)) .no (Nat.beq b 0)
def andU (a b : Nat) : FV := .u (Nat.land (Nat.mod a 18446744073709551616) (Nat.mod b 18446744073709551616))
def orU (a b : Nat) : FV := .u (Nat.lor (Nat.mod a 18446744073709551616) (Nat.mod b 18446744073709551616))
def xorU (a b : Nat) : FV := .u (Nat.xor (Nat.mod a 18446744073709551616) (Nat.mod b 18446744073709551616))
def shlU (a b : Nat) : FV := Bool.rec .no (.u (Nat.mod (Nat.mul a (Nat.pow 2 b)) 18446744073709551616)) (Nat.ble b 64)
def shrU (a b : Nat) : FV := Bool.rec .no (.u (Nat.div a (Nat.pow 2 b))) (Nat.ble b 64)
/-- The three ways of an operator: two i64, two u64, u64 and i64. -/
structure Bin where
  i : Nat → Nat → FV
  u : Nat → Nat → FV
  s : Nat → Nat → FV
def binOf : BinOp → Bin
  | .add => ⟨addN, addU, noN⟩ | .sub => ⟨subN, subU, noN⟩ | .mul => ⟨mulN, mulU, noN⟩ | .quo => ⟨quoN, quoU, noN⟩ | .rem => ⟨remN, remU, noN⟩
  | .and => ⟨noN, andU, noN⟩ | .or => ⟨noN, orU, noN⟩ | .xor => ⟨noN, xorU, noN⟩ | .shl => ⟨noN, shlU, shlU⟩ | .shr => ⟨noN, shrU, shrU⟩
  | .lss => ⟨lssN, lssN, noN⟩ | .leq => ⟨leqN, leqN, noN⟩ | .gtr => ⟨gtrN, gtrN, noN⟩ | .geq => ⟨geqN, geqN, noN⟩ | .eql => ⟨eqlN, eqlN, noN⟩ | .neq => ⟨neqN, neqN, noN⟩
  | _ => ⟨noN, noN, noN⟩
def binU (y : FV) : Nat → Bin → FV :=
  FV.rec (motive := fun _ => Nat → Bin → FV) (fun _ _ => .no) (fun b a g => g.3 a b) (fun b a g => g.2 a b) (fun _ _ _ => .no) (fun _ _ _ _ => .no) (fun _ _ _ => .no) (fun _ _ _ => .no) y
def binI (y : FV) : Nat → Bin → FV :=
  FV.rec (motive := fun _ => Nat → Bin → FV) (fun _ _ => .no) (fun b a g => g.1 a b) (fun _ _ _ => .no) (fun _ _ _ => .no) (fun _ _ _ _ => .no) (fun _ _ _ => .no) (fun _ _ _ => .no) y
def binF (x : FV) : FV → Bin → FV :=
  FV.rec (motive := fun _ => FV → Bin → FV) (fun _ _ => .no) (fun a y g => binI y a g) (fun a y g => binU y a g) (fun _ _ _ => .no) (fun _ _ _ _ => .no) (fun _ _ _ => .no) (fun _ _ _ => .no) x

/-! ### Operations, read once -/
inductive EqT where
  | ptr
  | sl
  | no
inductive Cl where
  | mv (d : Dst) (x : Opd)
  | bin (d : Dst) (g : Bin) (x y : Opd) (o : Oper)
  | eq (d : Dst) (neg : Bool) (e : EqT) (x y : Opd) (o : Oper)
  | ld (d : Dst) (x : Opd) (g : Bool) (n : Nat) (o : Oper)
  | fa (d : Dst) (x : Opd) (off : Nat) (o : Oper)
  | ia (d : Dst) (x y : Opd) (l : Option Nat) (sz : Nat) (o : Oper)
  | pk (d : Dst) (c a b : Opd) (o : Oper)
  | nc (d : Dst) (x : Opd) (o : Oper)
  | ln (d : Dst) (x : Opd) (o : Oper)
  | nt (d : Dst) (x : Opd) (o : Oper)
  | cv (d : Dst) (k : IntKind) (x : Opd) (o : Oper)
  | st (a x : Opd) (n : Nat) (d : Dst) (o : Oper)
  | bx (d : Dst) (t : TypeId) (x : Opd) (o : Oper)
  | al (d : Dst) (w : AObj) (o : Oper)
  | ca (d : Dst) (f : FuncId) (xs : List Opd) (o : Oper)
  | ex (d : Dst) (x : Opd) (i : Nat) (o : Oper)
  | gen (o : Oper)
  | grd (s : Opd) (want : Bool) (d : Dst) (c : Cl)

def faOff (P : Program) (s : TypeId) (f : Nat) : Option Nat :=
  match P.underlying s with
  | some (.struct fs) => match fs.toList[f]? with
    | some fd => match P.info? fd.type with
      | some i => bif Nat.beq i.size 0 then none else some fd.offset
      | none => none
    | none => none
  | _ => none
def iaOf (P : Program) (t : TypeId) : Option (Option Nat × Nat) :=
  match P.underlying t with
  | some (.slice e) => match P.info? e with | some ie => some (none, ie.size) | none => none
  | some (.array l e) => match P.info? e with | some ie => some (some l, ie.size) | none => none
  | _ => none
def isSliceT (P : Program) (t : TypeId) : Bool :=
  match P.underlying t with | some (.slice _) => true | _ => false
def eqT (P : Program) (t : TypeId) : EqT :=
  match P.underlying t with | some (.pointer _) => .ptr | some (.slice _) => .sl | _ => .no
def cvOf (P : Program) (s t : TypeId) : Option IntKind :=
  match P.underlying s, P.underlying t with
  | some _, some (.int k) => some k
  | _, _ => none
def opds (P : Program) : List Operand → List Opd
  | [] => []
  | x :: l => opd P x :: opds P l
def cl (P : Program) (o : Oper) : Cl :=
  match o.op with
  | .move x => .mv (dstOf o.dst) (opd P x)
  | .assign x => .mv (dstOf o.dst) (opd P x)
  | .binOp op t x y _ => match op with
    | .eql => match eqT P t with | .no => .bin (dstOf o.dst) (binOf .eql) (opd P x) (opd P y) o | e => .eq (dstOf o.dst) false e (opd P x) (opd P y) o
    | .neq => match eqT P t with | .no => .bin (dstOf o.dst) (binOf .neq) (opd P x) (opd P y) o | e => .eq (dstOf o.dst) true e (opd P x) (opd P y) o
    | op => .bin (dstOf o.dst) (binOf op) (opd P x) (opd P y) o
  | .load t a => match tyAgg P t with | some (g, n) => .ld (dstOf o.dst) (opd P a) g n o | none => .gen o
  | .store t a x => match P.info? t with | some ti => .st (opd P a) (opd P x) ti.size (dstOf o.dst) o | none => .gen o
  | .box t x => .bx (dstOf o.dst) t (opd P x) o
  | .alloc t => match zeroA P t with | some (_, z) => .al (dstOf o.dst) (mk t z) o | none => .gen o
  | .fieldAddr s x f => match faOff P s f with | some off => .fa (dstOf o.dst) (opd P x) off o | none => .gen o
  | .indexAddr t x i => match iaOf P t with | some (l, sz) => .ia (dstOf o.dst) (opd P x) (opd P i) l sz o | none => .gen o
  | .pick c a b => .pk (dstOf o.dst) (opd P c) (opd P a) (opd P b) o
  | .nilCheck x => .nc (dstOf o.dst) (opd P x) o
  | .extract x i => .ex (dstOf o.dst) (opd P x) i o
  | .unOp op _ x => match op with | .not => .nt (dstOf o.dst) (opd P x) o | _ => .gen o
  | .convert s t x => match cvOf P s t with | some k => .cv (dstOf o.dst) k (opd P x) o | none => .gen o
  | .call c => match c.callee with
    | .builtin .len => match c.args.toList, c.argTypes.toList with
      | [x], t :: _ => match isSliceT P t with | true => .ln (dstOf o.dst) (opd P x) o | false => .gen o
      | _, _ => .gen o
    | .value (.func f) => .ca (dstOf o.dst) f (opds P c.args.toList) o
    | _ => .gen o
  | _ => .gen o
def gd (P : Program) (ops : Array Oper) (o : Oper) : Cl :=
  match o.guard with
  | none => cl P o
  | some (j, want) => match ops[j]? with
    | some oj => match oj.dst with
      | some d => .grd (opdT d) want (dstOf o.dst) (cl P o)
      | none => .gen o
    | none => .gen o
def gds (P : Program) (ops : Array Oper) : List Oper → List Cl
  | [] => []
  | o :: l => gd P ops o :: gds P ops l

/-! ### One operation, slow -/
def restrF (f : Fm) : List Tmp → Tr V
  | [] => .nil
  | t :: l => match f.val t with
    | some v => (restrF f l).put (some v) t
    | none => restrF f l
def gen1v (F : Fns) (P : Program) (ops : Array Oper) (o : Oper) (tm : Tr V) (H : Tr AObj) (nx : Nat) : Option (V × Tr AObj × Nat) :=
  match evGuard ops o tm with
  | some true => match isCall o.op with | true => evB F P o tm H nx | false => evS P o tm H nx
  | some false => some (V.undef, H, nx)
  | none => none
def backK (d : Dst) (fr : Fm) (k : KK) : Option (V × Tr AObj × Nat) → RR
  | some (v, H', nx') => forceH H' fun H' => forceN nx' fun nx' => FV.orK (FV.ofV v) (fun x => d.putK x fr fun fr' => k fr' H' nx') .no
  | none => .no
def slowK (Q : QF) (P : Program) (ops : Array Oper) (fr : Fm) (H : Tr AObj) (nx : Nat) (k : KK) (o : Oper) : RR :=
  backK (dstOf o.dst) fr k (gen1v Q.f P ops o (restrF fr (o.looksAt ops)) H nx)

/-! ### One operation, quick: values -/
def cell1 (t : Tr At) (a m : Nat) : FV := Bool.rec .no (FV.ofA (t.get a)) (Nat.ble (Nat.succ a) m)
def cellsO (x : Option (List At)) : FV := Option.rec (motive := fun _ => FV) .no (fun l => .v (.c true l)) x
def cellsN (t : Tr At) (a n m : Nat) : FV := Bool.rec .no (cellsO (rd t a n)) (Nat.ble (Nat.add a n) m)
def cellG (g : Bool) : Tr At → Nat → Nat → Nat → FV := Bool.rec (motive := fun _ => Tr At → Nat → Nat → Nat → FV) (fun t a _ m => cell1 t a m) cellsN g
def objG (x : AObj) : Bool → Nat → Nat → FV :=
  AObj.rec (motive := fun _ => Bool → Nat → Nat → FV) (fun _ m t g n a => cellG g t a n m) (fun _ m _ t g n a => cellG g t a n m) (fun _ _ _ _ _ => .no) (fun _ _ _ _ _ _ _ _ _ _ _ => .no) (fun _ _ _ => .no) (fun _ _ _ _ => .no) x
def loadF (g : Bool) (n : Nat) (H : Tr AObj) (b a : Nat) : FV := Option.rec (motive := fun _ => Bool → Nat → Nat → FV) (fun _ _ _ => .no) objG (H.get b) g n a
def FV.ptrK (v : FV) : (Nat → Nat → RR) → RR → RR :=
  FV.rec (motive := fun _ => (Nat → Nat → RR) → RR → RR) (fun _ s => s) (fun _ _ s => s) (fun _ _ s => s) (fun _ _ s => s) (fun b o k _ => k b o) (fun _ _ s => s) (fun _ _ s => s) v
def elemP (b o i l sz : Nat) : FV := Bool.rec .no (.p b (Nat.add o (Nat.mul i sz))) (Nat.ble (Nat.succ i) l)
def iaAt (x : At) : Nat → Nat → FV :=
  At.rec (motive := fun _ => Nat → Nat → FV) (fun _ _ _ => .no) (fun _ _ _ _ => .no) (fun _ _ _ => .no) (fun _ _ _ _ => .no) (fun _ _ => .no) (fun b o l _ i sz => elemP b o i l sz) (fun b o l _ i sz => elemP b o i l sz) (fun _ _ => .no) (fun _ _ _ => .no) (fun _ _ => .no) (fun _ _ _ _ _ => .no) (fun _ _ _ => .no) (fun _ _ => .no) (fun _ _ => .no) (fun _ _ _ => .no) (fun _ _ _ => .no) x
def iaS (x : FV) : Nat → Nat → FV :=
  FV.rec (motive := fun _ => Nat → Nat → FV) (fun _ _ => .no) (fun _ _ _ => .no) (fun _ _ _ => .no) (fun _ _ _ => .no) (fun _ _ _ _ => .no) iaAt (fun _ _ _ => .no) x
def iaA (n : Nat) (x : FV) : Nat → Nat → FV :=
  FV.rec (motive := fun _ => Nat → Nat → FV) (fun _ _ => .no) (fun _ _ _ => .no) (fun _ _ _ => .no) (fun _ _ _ => .no) (fun b o i sz => elemP b o i n sz) (fun _ _ _ => .no) (fun _ _ _ => .no) x
def iaL (l : Option Nat) : FV → Nat → Nat → FV := Option.rec (motive := fun _ => FV → Nat → Nat → FV) iaS iaA l
def iaF (y : FV) : Option Nat → Nat → FV → FV :=
  FV.rec (motive := fun _ => Option Nat → Nat → FV → FV) (fun _ _ _ => .no) (fun i l sz x => iaL l x i sz) (fun _ _ _ _ => .no) (fun _ _ _ _ => .no) (fun _ _ _ _ _ => .no) (fun _ _ _ _ => .no) (fun _ _ _ _ => .no) y
def pkF (c : FV) : FV → FV → FV :=
  FV.rec (motive := fun _ => FV → FV → FV) (fun _ _ => .no) (fun _ _ _ => .no) (fun _ _ _ => .no) (fun t a b => Bool.rec b a t) (fun _ _ _ _ => .no) (fun _ _ _ => .no) (fun _ _ _ => .no) c
def ntF (x : FV) : FV :=
  FV.rec (motive := fun _ => FV) .no (fun _ => .no) (fun _ => .no) (fun t => Bool.rec (.b true) (.b false) t) (fun _ _ => .no) (fun _ => .no) (fun _ => .no) x
def lenQ (x : At) : FV :=
  At.rec (motive := fun _ => FV) (fun _ => .no) (fun _ _ => .no) (fun _ => .no) (fun _ _ => .no) .no (fun _ _ n _ => .i n) (fun _ _ n _ => .i n) (.i 0) (fun _ => .no) .no (fun _ _ _ => .no) (fun _ => .no) .no .no (fun _ => .no) (fun _ => .i 0) x
def lenF (x : FV) : FV :=
  FV.rec (motive := fun _ => FV) .no (fun _ => .no) (fun _ => .no) (fun _ => .no) (fun _ _ => .no) lenQ (fun _ => .no) x
def cvN (k : IntKind) : Nat → FV :=
  IntKind.rec (motive := fun _ => Nat → FV) (fun _ => .no) (fun _ => .no) (fun _ => .no) below63 (fun n => .a (.int .u8 (.ofNat (Nat.mod n 256)))) (fun _ => .no) (fun n => .a (.int .u32 (.ofNat (Nat.mod n 4294967296)))) (fun n => .u (Nat.mod n 18446744073709551616)) k
def cvI (n : Int) : IntKind → FV := Int.rec (motive := fun _ => IntKind → FV) (fun m k => cvN k m) (fun _ _ => .no) n
def cvA (x : At) : IntKind → FV :=
  At.rec (motive := fun _ => IntKind → FV) (fun _ _ => .no) (fun _ n k => cvI n k) (fun _ _ => .no) (fun _ _ _ => .no) (fun _ => .no) (fun _ _ _ _ _ => .no) (fun _ _ _ _ _ => .no) (fun _ => .no) (fun _ _ => .no) (fun _ => .no) (fun _ _ _ _ => .no) (fun _ _ => .no) (fun _ => .no) (fun _ => .no) (fun _ _ => .no) (fun _ _ => .no) x
def cvF (x : FV) : IntKind → FV :=
  FV.rec (motive := fun _ => IntKind → FV) (fun _ => .no) (fun n k => cvN k n) (fun n k => cvN k n) (fun _ _ => .no) (fun _ _ _ => .no) cvA (fun _ _ => .no) x
/-- Nothing, a pointer, a slice: how a value compares with nil. -/
inductive Nl where
  | no
  | nilp
  | ptr
  | nils
  | sl
def nlA (x : At) : Nl :=
  At.rec (motive := fun _ => Nl) (fun _ => .no) (fun _ _ => .no) (fun _ => .no) (fun _ _ => .ptr) .nilp (fun _ _ _ _ => .sl) (fun _ _ _ _ => .sl) .nils (fun _ => .no) .no (fun _ _ _ => .no) (fun _ => .no) .no .no (fun _ => .no) (fun _ => .sl) x
def nlF (x : FV) : Nl :=
  FV.rec (motive := fun _ => Nl) .no (fun _ => .no) (fun _ => .no) (fun _ => .no) (fun _ _ => .ptr) nlA (fun _ => .no) x
def eqP (x y : Nl) : Option Bool := match x, y with
  | .ptr, .nilp => some false
  | .nilp, .ptr => some false
  | _, _ => none
def eqS (x y : Nl) : Option Bool := match x, y with
  | .sl, .nils => some false
  | .nils, .sl => some false
  | _, _ => none
def eqF (e : EqT) (neg : Bool) (x y : FV) : FV :=
  match (match e with | .ptr => eqP (nlF x) (nlF y) | .sl => eqS (nlF x) (nlF y) | .no => none) with
  | some r => .b (Bool.xor neg r)
  | none => .no
def FV.cells (x : FV) : Option (List At) :=
  FV.rec (motive := fun _ => Option (List At)) none (fun n => some [.int .i64 (.ofNat n)]) (fun n => some [.int .u64 (.ofNat n)]) (fun t => some [.bool t]) (fun b o => some [.ptr b o]) (fun y => some [y]) (fun y => V.rec (motive := fun _ => Option (List At)) (fun _ l => some l) (fun _ => none) y) x
/-- What a guard says. -/
def isTup (x : V) : Bool := V.rec (motive := fun _ => Bool) (fun _ _ => false) (fun _ => true) x

/-! ### One operation, quick -/
abbrev ClT := QF → Program → Fm → Tr AObj → Nat → KK → (Oper → RR) → RR
def mvQ (d : Dst) (x : Opd) (Q : QF) (P : Program) (fr : Fm) (H : Tr AObj) (nx : Nat) (k : KK) (S : Oper → RR) : RR :=
  Dst.rec (motive := fun _ => FV → Fm → (Fm → RR) → RR) noPt (fun g => g) morePt d (Opd.rec (motive := fun _ => Fm → FV) (fun g => g) moreG (fun v _ => v) x fr) fr fun fr' => k fr' H nx
def toQ (v : FV) (d : Dst) (fr : Fm) (H : Tr AObj) (nx : Nat) (k : KK) (s : RR) : RR := FV.orK v (fun v => Dst.rec (motive := fun _ => FV → Fm → (Fm → RR) → RR) noPt (fun g => g) morePt d v fr fun fr' => k fr' H nx) s
def binQ (d : Dst) (g : Bin) (x y : Opd) (o : Oper) (Q : QF) (P : Program) (fr : Fm) (H : Tr AObj) (nx : Nat) (k : KK) (S : Oper → RR) : RR :=
  toQ (binF (Opd.rec (motive := fun _ => Fm → FV) (fun g => g) moreG (fun v _ => v) x fr) (Opd.rec (motive := fun _ => Fm → FV) (fun g => g) moreG (fun v _ => v) y fr) g) d fr H nx k (S o)
def eqQ (d : Dst) (neg : Bool) (e : EqT) (x y : Opd) (o : Oper) (Q : QF) (P : Program) (fr : Fm) (H : Tr AObj) (nx : Nat) (k : KK) (S : Oper → RR) : RR :=
  toQ (eqF e neg (Opd.rec (motive := fun _ => Fm → FV) (fun g => g) moreG (fun v _ => v) x fr) (Opd.rec (motive := fun _ => Fm → FV) (fun g => g) moreG (fun v _ => v) y fr)) d fr H nx k (S o)
def ldQ (d : Dst) (x : Opd) (g : Bool) (n : Nat) (o : Oper) (Q : QF) (P : Program) (fr : Fm) (H : Tr AObj) (nx : Nat) (k : KK) (S : Oper → RR) : RR :=
  FV.ptrK (Opd.rec (motive := fun _ => Fm → FV) (fun g => g) moreG (fun v _ => v) x fr) (fun b a => toQ (loadF g n H b a) d fr H nx k .no) .no
def faQ (d : Dst) (x : Opd) (off : Nat) (o : Oper) (Q : QF) (P : Program) (fr : Fm) (H : Tr AObj) (nx : Nat) (k : KK) (S : Oper → RR) : RR :=
  FV.ptrK (Opd.rec (motive := fun _ => Fm → FV) (fun g => g) moreG (fun v _ => v) x fr) (fun b a => forceN (Nat.add a off) fun a => Dst.rec (motive := fun _ => FV → Fm → (Fm → RR) → RR) noPt (fun g => g) morePt d (.p b a) fr fun fr' => k fr' H nx) .no
def iaQ (d : Dst) (x y : Opd) (l : Option Nat) (sz : Nat) (o : Oper) (Q : QF) (P : Program) (fr : Fm) (H : Tr AObj) (nx : Nat) (k : KK) (S : Oper → RR) : RR :=
  toQ (iaF (Opd.rec (motive := fun _ => Fm → FV) (fun g => g) moreG (fun v _ => v) y fr) l sz (Opd.rec (motive := fun _ => Fm → FV) (fun g => g) moreG (fun v _ => v) x fr)) d fr H nx k (S o)
def pkQ (d : Dst) (c a b : Opd) (o : Oper) (Q : QF) (P : Program) (fr : Fm) (H : Tr AObj) (nx : Nat) (k : KK) (S : Oper → RR) : RR :=
  toQ (pkF (Opd.rec (motive := fun _ => Fm → FV) (fun g => g) moreG (fun v _ => v) c fr) (Opd.rec (motive := fun _ => Fm → FV) (fun g => g) moreG (fun v _ => v) a fr) (Opd.rec (motive := fun _ => Fm → FV) (fun g => g) moreG (fun v _ => v) b fr)) d fr H nx k .no
def ncQ (d : Dst) (x : Opd) (o : Oper) (Q : QF) (P : Program) (fr : Fm) (H : Tr AObj) (nx : Nat) (k : KK) (S : Oper → RR) : RR :=
  FV.ptrK (Opd.rec (motive := fun _ => Fm → FV) (fun g => g) moreG (fun v _ => v) x fr) (fun b a => Dst.rec (motive := fun _ => FV → Fm → (Fm → RR) → RR) noPt (fun g => g) morePt d (.p b a) fr fun fr' => k fr' H nx) (S o)
def lnQ (d : Dst) (x : Opd) (o : Oper) (Q : QF) (P : Program) (fr : Fm) (H : Tr AObj) (nx : Nat) (k : KK) (S : Oper → RR) : RR :=
  toQ (lenF (Opd.rec (motive := fun _ => Fm → FV) (fun g => g) moreG (fun v _ => v) x fr)) d fr H nx k (S o)
def ntQ (d : Dst) (x : Opd) (o : Oper) (Q : QF) (P : Program) (fr : Fm) (H : Tr AObj) (nx : Nat) (k : KK) (S : Oper → RR) : RR :=
  toQ (ntF (Opd.rec (motive := fun _ => Fm → FV) (fun g => g) moreG (fun v _ => v) x fr)) d fr H nx k (S o)
def cvQ (d : Dst) (kd : IntKind) (x : Opd) (o : Oper) (Q : QF) (P : Program) (fr : Fm) (H : Tr AObj) (nx : Nat) (k : KK) (S : Oper → RR) : RR :=
  toQ (cvF (Opd.rec (motive := fun _ => Fm → FV) (fun g => g) moreG (fun v _ => v) x fr) kd) d fr H nx k (S o)
def optK {α : Type} (x : Option α) (k : α → RR) (s : RR) : RR := Option.rec (motive := fun _ => RR) s k x
def storeF (n : Nat) (H : Tr AObj) (b a : Nat) (x : FV) : Option (Tr AObj) :=
  match x.cells with
  | some l => match H.get b with
    | some o => match Nat.beq l.length n, put o a l with
      | true, some o' => some (H.put (some o') b)
      | _, _ => none
    | none => none
  | none => none
def stQ (a x : Opd) (n : Nat) (d : Dst) (o : Oper) (Q : QF) (P : Program) (fr : Fm) (H : Tr AObj) (nx : Nat) (k : KK) (S : Oper → RR) : RR :=
  FV.ptrK (Opd.rec (motive := fun _ => Fm → FV) (fun g => g) moreG (fun v _ => v) a fr) (fun b i => optK (storeF n H b i (Opd.rec (motive := fun _ => Fm → FV) (fun g => g) moreG (fun v _ => v) x fr)) (fun H' => forceH H' fun H' => Dst.rec (motive := fun _ => FV → Fm → (Fm → RR) → RR) noPt (fun g => g) morePt d (.v V.undef) fr fun fr' => k fr' H' nx) .no) .no
def newQ (w : AObj) (d : Dst) (fr : Fm) (H : Tr AObj) (nx : Nat) (k : KK) : RR :=
  forceH (H.put (some w) nx) fun H' => Dst.rec (motive := fun _ => FV → Fm → (Fm → RR) → RR) noPt (fun g => g) morePt d (.p nx 0) fr fun fr' => k fr' H' (Nat.succ nx)
def bxQ (d : Dst) (t : TypeId) (x : Opd) (o : Oper) (Q : QF) (P : Program) (fr : Fm) (H : Tr AObj) (nx : Nat) (k : KK) (S : Oper → RR) : RR :=
  optK (Opd.rec (motive := fun _ => Fm → FV) (fun g => g) moreG (fun v _ => v) x fr).cells (fun l => newQ (mk t l) d fr H nx k) .no
def alQ (d : Dst) (w : AObj) (o : Oper) (Q : QF) (P : Program) (fr : Fm) (H : Tr AObj) (nx : Nat) (k : KK) (S : Oper → RR) : RR :=
  newQ w d fr H nx k
def getsK (xs : List Opd) : Fm → (List FV → RR) → RR :=
  List.rec (motive := fun _ => Fm → (List FV → RR) → RR) (fun _ k => k []) (fun x _ ih fr k => FV.orK (Opd.rec (motive := fun _ => Fm → FV) (fun g => g) moreG (fun v _ => v) x fr) (fun v => ih fr fun vs => k (v :: vs)) .no) xs
def crK (r : CR) : Dst → Fm → KK → RR :=
  CR.rec (motive := fun _ => Dst → Fm → KK → RR) (fun _ _ _ => .no) (fun v H nx d fr k => forceH H fun H => forceN nx fun nx => FV.orK v (fun v => Dst.rec (motive := fun _ => FV → Fm → (Fm → RR) → RR) noPt (fun g => g) morePt d v fr fun fr' => k fr' H nx) .no) r
def caQ (d : Dst) (f : FuncId) (xs : List Opd) (o : Oper) (Q : QF) (P : Program) (fr : Fm) (H : Tr AObj) (nx : Nat) (k : KK) (S : Oper → RR) : RR :=
  getsK xs fr fun vs => crK (Q.c f vs H nx) d fr k
def exT (v : V) (i : Nat) : FV := FV.ofO (evExtract v i)
def exF (x : FV) : Nat → FV :=
  FV.rec (motive := fun _ => Nat → FV) (fun _ => .no) (fun _ _ => .no) (fun _ _ => .no) (fun _ _ => .no) (fun _ _ _ => .no) (fun _ _ => .no) exT x
def exQ (d : Dst) (x : Opd) (i : Nat) (o : Oper) (Q : QF) (P : Program) (fr : Fm) (H : Tr AObj) (nx : Nat) (k : KK) (S : Oper → RR) : RR :=
  toQ (exF (Opd.rec (motive := fun _ => Fm → FV) (fun g => g) moreG (fun v _ => v) x fr) i) d fr H nx k .no
def genQ (o : Oper) (Q : QF) (P : Program) (fr : Fm) (H : Tr AObj) (nx : Nat) (k : KK) (S : Oper → RR) : RR := S o
def skipQ (d : Dst) (fr : Fm) (H : Tr AObj) (nx : Nat) (k : KK) : RR := Dst.rec (motive := fun _ => FV → Fm → (Fm → RR) → RR) noPt (fun g => g) morePt d (.v V.undef) fr fun fr' => k fr' H nx
def gdK (v : FV) : Bool → RR → RR → RR :=
  FV.rec (motive := fun _ => Bool → RR → RR → RR) (fun _ _ _ => .no) (fun _ _ _ _ => .no) (fun _ _ _ _ => .no) (fun x w a s => Bool.rec (Bool.rec a s w) (Bool.rec s a w) x) (fun _ _ _ _ _ => .no) (fun _ _ _ _ => .no) (fun x _ _ s => Bool.rec .no s (isTup x)) v
def grdQ (s : Opd) (want : Bool) (d : Dst) (c : Cl) (ih : ClT) (Q : QF) (P : Program) (fr : Fm) (H : Tr AObj) (nx : Nat) (k : KK) (S : Oper → RR) : RR :=
  gdK (Opd.rec (motive := fun _ => Fm → FV) (fun g => g) moreG (fun v _ => v) s fr) want (ih Q P fr H nx k S) (skipQ d fr H nx k)
def run1 (c : Cl) : ClT := Cl.rec (motive := fun _ => ClT) mvQ binQ eqQ ldQ faQ iaQ pkQ ncQ lnQ ntQ cvQ stQ bxQ alQ caQ exQ genQ grdQ c

abbrev QT := QF → Program → Array Oper → Fm → Tr AObj → Nat → RR
def qNil (Q : QF) (P : Program) (ops : Array Oper) (fr : Fm) (H : Tr AObj) (nx : Nat) : RR := .ok fr H nx
def qCons (g : Cl) (l : List Cl) (ih : QT) (Q : QF) (P : Program) (ops : Array Oper) (fr : Fm) (H : Tr AObj) (nx : Nat) : RR :=
  run1 g Q P fr H nx (ih Q P ops) (slowK Q P ops fr H nx (ih Q P ops))
def qOps (l : List Cl) : QT := List.rec (motive := fun _ => QT) qNil qCons l

end
end Go.Proofs.YtmnaddlniaklcaaGreatDoor.Ev
